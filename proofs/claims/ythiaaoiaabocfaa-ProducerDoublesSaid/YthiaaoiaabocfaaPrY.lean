/- What the document's Ask of layer 13 computes. -/
import Derived.Test.YthiaaoiaabocfaaPrX
namespace Go.Proofs.Ythiaaoiaabocfaa
open Go.RowKit

set_option maxHeartbeats 4000000 in
theorem rask_any (v : Value) (t : List Ent) (b : Bat) (bp : Option Addr) (bn bc : Nat) (w : World) (h : TabV w v t) (hl : t.length ≤ 1000) (hf : FewT 1000 t) :
    Calls Try.prog 12 #[.agg #[v], batv b (.slice bp bn bc)] w fun e w' => e = .returned (askv (askT behS t b)) ∧ Ext w w' := by
  obtain ⟨b0, b1, b2, b3, b4, rs⟩ := b
  obtain ⟨q, c, rfl, hn, hc⟩ := h.slice
  obtain ⟨o1, o2, hx0, hsz⟩ := objs2 w 24 27 [.slice q t.length c] [.int .i64 b0, .int .i64 b1, .int .i64 b2, .int .i64 b3, .int .i64 b4, .slice bp bn bc]
  have c1 := o1.cell (j := 0) rfl
  have d1 := o2.cell (j := 1) rfl
  have d2 := o2.cell (j := 2) rfl
  have d3 := o2.cell (j := 3) rfl
  have d4 := o2.cell (j := 4) rfl
  have HSZ := Lib.hid hsz
  unfold askT
  simp only
  clear o1 o2 hsz
  by_cases hp : b2 = 0
  case pos =>
    subst hp
    go_enter Try.func12, Try.ntmps12
    go_wp2_with fail
    go_ret3
    exact ⟨rfl, hx0⟩
  rw [if_neg hp]
  have F1 := rfind_any _ t b2 _ (h.ext hx0)
  have hpe : (b2 == 0) = false := by simp [hp]
  have hfe : (findE t b2).1.last.length ≤ 1000 := by
    cases hfi : t.findIdx? (isId b2) with
    | none => rw [(findE_none hfi).1]; simp [ent0]
    | some j => obtain ⟨hj, e, _⟩ := findE_some hfi; rw [e]; exact hf _ (List.getElem_mem hj)
  have hnf : (findE t b2).2 = false → (findE t b2).1 = ent0 := fun hh => by
    cases hfi : t.findIdx? (isId b2) with
    | none => rw [(findE_none hfi).1]
    | some j => obtain ⟨hj, e, _⟩ := findE_some hfi; rw [e] at hh; cases hh
  generalize findE t b2 = fe at *
  obtain ⟨⟨e0, e1, l⟩, is⟩ := fe
  simp only at *
  clear hp h hl hf hn
  obtain ⟨AR, hAR⟩ : ∃ AR, askB behS ⟨e0, e1, l⟩ is ⟨b0, b1, b2, b3, b4, rs⟩ = AR := ⟨_, rfl⟩
  rw [hAR]
  have HAR := Lib.hid hAR
  clear hAR
  cases is with
  | false =>
    clear hnf
    by_cases hs : b4 = 0
    case pos =>
      have e9 := HAR.out
      rw [askB_new (by simp) (by simp), if_pos hs] at e9
      subst e9; subst hs
      clear HAR
      go_enter Try.func12, Try.ntmps12
      go_wp2_with (go_at_call 15; refine F1.mono ?_; rintro e w1 ⟨v1, rfl, hs1, hx1⟩
                   obtain ⟨p1, c1', e5, _, hcm⟩ := hs1.slice
                   subst e5
                   unfold maxLen at hcm
                   obtain ⟨wa, hwa⟩ : ∃ wa, wa = w1.alloc (.cells #[.int .i64 e0, .int .i64 e1, .slice p1 l.length c1'] 48) := ⟨_, rfl⟩
                   have hx2 : Ext w1 wa := by rw [hwa]; exact Ext.alloc _ _
                   have o3 : ObjAt wa w1.heap.size 48 [.int .i64 e0, .int .i64 e1, .slice p1 l.length c1'] := by rw [hwa]; exact heap_alloc_new w1 _
                   have k0 := o3.cell (j := 0) rfl
                   have k1 := o3.cell (j := 1) rfl
                   have k2 := o3.cell (j := 2) rfl
                   have g1 := (hx1.trans hx2).cell d1
                   have g2 := (hx1.trans hx2).cell d2
                   have g3 := (hx1.trans hx2).cell d3
                   have g4 := (hx1.trans hx2).cell d4
                   rw [hwa] at k0 k1 k2 g1 g2 g3 g4 hx2
                   clear hwa o3)
      go_ret3
      exact ⟨rfl, (hx0.trans hx1).trans hx2⟩
    case neg =>
      have e9 := HAR.out
      rw [askB_new (by simp) (by simp), if_neg hs] at e9
      subst e9
      have hs2 : (b4 == 0) = false := by simp [hs]
      clear HAR hs
      go_enter Try.func12, Try.ntmps12
      go_wp2_with (go_at_call 15; refine F1.mono ?_; rintro e w1 ⟨v1, rfl, hs1, hx1⟩
                   obtain ⟨p1, c1', e5, _, hcm⟩ := hs1.slice
                   subst e5
                   unfold maxLen at hcm
                   obtain ⟨wa, hwa⟩ : ∃ wa, wa = w1.alloc (.cells #[.int .i64 e0, .int .i64 e1, .slice p1 l.length c1'] 48) := ⟨_, rfl⟩
                   have hx2 : Ext w1 wa := by rw [hwa]; exact Ext.alloc _ _
                   have o3 : ObjAt wa w1.heap.size 48 [.int .i64 e0, .int .i64 e1, .slice p1 l.length c1'] := by rw [hwa]; exact heap_alloc_new w1 _
                   have k0 := o3.cell (j := 0) rfl
                   have k1 := o3.cell (j := 1) rfl
                   have k2 := o3.cell (j := 2) rfl
                   have g1 := (hx1.trans hx2).cell d1
                   have g2 := (hx1.trans hx2).cell d2
                   have g3 := (hx1.trans hx2).cell d3
                   have g4 := (hx1.trans hx2).cell d4
                   rw [hwa] at k0 k1 k2 g1 g2 g3 g4 hx2
                   clear hwa o3)
      go_ret3
      exact ⟨rfl, (hx0.trans hx1).trans hx2⟩
  | true =>
    clear hnf
    by_cases h1 : b3 < e1
    case pos =>
      have e9 := HAR.out
      rw [askB_fenced h1] at e9
      subst e9
      clear HAR
      go_enter Try.func12, Try.ntmps12
      go_wp2_with (go_at_call 15; refine F1.mono ?_; rintro e w1 ⟨v1, rfl, hs1, hx1⟩
                   obtain ⟨p1, c1', e5, _, hcm⟩ := hs1.slice
                   subst e5
                   unfold maxLen at hcm
                   obtain ⟨wa, hwa⟩ : ∃ wa, wa = w1.alloc (.cells #[.int .i64 e0, .int .i64 e1, .slice p1 l.length c1'] 48) := ⟨_, rfl⟩
                   have hx2 : Ext w1 wa := by rw [hwa]; exact Ext.alloc _ _
                   have o3 : ObjAt wa w1.heap.size 48 [.int .i64 e0, .int .i64 e1, .slice p1 l.length c1'] := by rw [hwa]; exact heap_alloc_new w1 _
                   have k0 := o3.cell (j := 0) rfl
                   have k1 := o3.cell (j := 1) rfl
                   have k2 := o3.cell (j := 2) rfl
                   have g1 := (hx1.trans hx2).cell d1
                   have g2 := (hx1.trans hx2).cell d2
                   have g3 := (hx1.trans hx2).cell d3
                   have g4 := (hx1.trans hx2).cell d4
                   rw [hwa] at k0 k1 k2 g1 g2 g3 g4 hx2
                   clear hwa o3)
      go_ret3
      exact ⟨rfl, (hx0.trans hx1).trans hx2⟩
    case neg =>
      have h1' : e1 ≤ b3 := by omega
      have h1d : decide (b3 < e1) = false := decide_eq_false h1
      by_cases h2 : b3 = e1 ∧ 0 < l.length
      case neg =>
        have h2e : (b3 == e1 && decide (0 < l.length)) = false := by
          cases hb : (b3 == e1 && decide (0 < l.length)) with
          | false => rfl
          | true =>
            rw [Bool.and_eq_true, beq_iff_eq, decide_eq_true_iff] at hb
            exact absurd hb h2
        have HC : (b3 == e1) = false ∨ ((b3 == e1) = true ∧ l = []) := by
          cases hb : (b3 == e1) with
          | false => exact .inl rfl
          | true =>
            refine .inr ⟨rfl, ?_⟩
            rw [hb, Bool.true_and, decide_eq_false_iff_not] at h2e
            exact List.eq_nil_of_length_eq_zero (by omega)
        have e9 := HAR.out
        rw [askB_new (by simp [h1]) (by simpa using h2e)] at e9
        have HE9 := Lib.hid e9
        clear e9 h1 h2 h2e HAR
        rcases HC with h3 | ⟨h3, h4⟩
        · have hgt : e1 < b3 := by simp at h3; omega
          by_cases hs : b4 = 0
          · have e9 := HE9.out
            rw [if_pos hs] at e9
            subst e9; subst hs
            clear HE9
            go_enter Try.func12, Try.ntmps12
            go_wp2_with (go_at_call 15; refine F1.mono ?_; rintro e w1 ⟨v1, rfl, hs1, hx1⟩
                         obtain ⟨p1, c1', e5, _, hcm⟩ := hs1.slice
                         subst e5
                         unfold maxLen at hcm
                         obtain ⟨wa, hwa⟩ : ∃ wa, wa = w1.alloc (.cells #[.int .i64 e0, .int .i64 e1, .slice p1 l.length c1'] 48) := ⟨_, rfl⟩
                         have hx2 : Ext w1 wa := by rw [hwa]; exact Ext.alloc _ _
                         have o3 : ObjAt wa w1.heap.size 48 [.int .i64 e0, .int .i64 e1, .slice p1 l.length c1'] := by rw [hwa]; exact heap_alloc_new w1 _
                         have k0 := o3.cell (j := 0) rfl
                         have k1 := o3.cell (j := 1) rfl
                         have k2 := o3.cell (j := 2) rfl
                         have g1 := (hx1.trans hx2).cell d1
                         have g2 := (hx1.trans hx2).cell d2
                         have g3 := (hx1.trans hx2).cell d3
                         have g4 := (hx1.trans hx2).cell d4
                         rw [hwa] at k0 k1 k2 g1 g2 g3 g4 hx2
                         clear hwa o3)
            go_ret3
            exact ⟨rfl, (hx0.trans hx1).trans hx2⟩
          · have e9 := HE9.out
            rw [if_neg hs] at e9
            subst e9
            have hs2 : (b4 == 0) = false := by simp [hs]
            clear HE9 hs
            go_enter Try.func12, Try.ntmps12
            go_wp2_with (go_at_call 15; refine F1.mono ?_; rintro e w1 ⟨v1, rfl, hs1, hx1⟩
                         obtain ⟨p1, c1', e5, _, hcm⟩ := hs1.slice
                         subst e5
                         unfold maxLen at hcm
                         obtain ⟨wa, hwa⟩ : ∃ wa, wa = w1.alloc (.cells #[.int .i64 e0, .int .i64 e1, .slice p1 l.length c1'] 48) := ⟨_, rfl⟩
                         have hx2 : Ext w1 wa := by rw [hwa]; exact Ext.alloc _ _
                         have o3 : ObjAt wa w1.heap.size 48 [.int .i64 e0, .int .i64 e1, .slice p1 l.length c1'] := by rw [hwa]; exact heap_alloc_new w1 _
                         have k0 := o3.cell (j := 0) rfl
                         have k1 := o3.cell (j := 1) rfl
                         have k2 := o3.cell (j := 2) rfl
                         have g1 := (hx1.trans hx2).cell d1
                         have g2 := (hx1.trans hx2).cell d2
                         have g3 := (hx1.trans hx2).cell d3
                         have g4 := (hx1.trans hx2).cell d4
                         rw [hwa] at k0 k1 k2 g1 g2 g3 g4 hx2
                         clear hwa o3)
            go_ret3
            exact ⟨rfl, (hx0.trans hx1).trans hx2⟩
        · subst h4
          have hgt : ¬ e1 < b3 := by simp at h3; omega
          by_cases hs : b4 = 0
          · have e9 := HE9.out
            rw [if_pos hs] at e9
            subst e9; subst hs
            clear HE9
            go_enter Try.func12, Try.ntmps12
            go_wp2_with (go_at_call 15; refine F1.mono ?_; rintro e w1 ⟨v1, rfl, hs1, hx1⟩
                         obtain ⟨p1, c1', e5, _, hcm⟩ := hs1.slice
                         rw [List.length_nil] at e5
                         subst e5
                         unfold maxLen at hcm
                         obtain ⟨wa, hwa⟩ : ∃ wa, wa = w1.alloc (.cells #[.int .i64 e0, .int .i64 e1, .slice p1 0 c1'] 48) := ⟨_, rfl⟩
                         have hx2 : Ext w1 wa := by rw [hwa]; exact Ext.alloc _ _
                         have o3 : ObjAt wa w1.heap.size 48 [.int .i64 e0, .int .i64 e1, .slice p1 0 c1'] := by rw [hwa]; exact heap_alloc_new w1 _
                         have k0 := o3.cell (j := 0) rfl
                         have k1 := o3.cell (j := 1) rfl
                         have k2 := o3.cell (j := 2) rfl
                         have g1 := (hx1.trans hx2).cell d1
                         have g2 := (hx1.trans hx2).cell d2
                         have g3 := (hx1.trans hx2).cell d3
                         have g4 := (hx1.trans hx2).cell d4
                         rw [hwa] at k0 k1 k2 g1 g2 g3 g4 hx2
                         clear hwa o3)
            go_ret3
            exact ⟨rfl, (hx0.trans hx1).trans hx2⟩
          · have e9 := HE9.out
            rw [if_neg hs] at e9
            subst e9
            have hs2 : (b4 == 0) = false := by simp [hs]
            clear HE9 hs
            go_enter Try.func12, Try.ntmps12
            go_wp2_with (go_at_call 15; refine F1.mono ?_; rintro e w1 ⟨v1, rfl, hs1, hx1⟩
                         obtain ⟨p1, c1', e5, _, hcm⟩ := hs1.slice
                         rw [List.length_nil] at e5
                         subst e5
                         unfold maxLen at hcm
                         obtain ⟨wa, hwa⟩ : ∃ wa, wa = w1.alloc (.cells #[.int .i64 e0, .int .i64 e1, .slice p1 0 c1'] 48) := ⟨_, rfl⟩
                         have hx2 : Ext w1 wa := by rw [hwa]; exact Ext.alloc _ _
                         have o3 : ObjAt wa w1.heap.size 48 [.int .i64 e0, .int .i64 e1, .slice p1 0 c1'] := by rw [hwa]; exact heap_alloc_new w1 _
                         have k0 := o3.cell (j := 0) rfl
                         have k1 := o3.cell (j := 1) rfl
                         have k2 := o3.cell (j := 2) rfl
                         have g1 := (hx1.trans hx2).cell d1
                         have g2 := (hx1.trans hx2).cell d2
                         have g3 := (hx1.trans hx2).cell d3
                         have g4 := (hx1.trans hx2).cell d4
                         rw [hwa] at k0 k1 k2 g1 g2 g3 g4 hx2
                         clear hwa o3)
            go_ret3
            exact ⟨rfl, (hx0.trans hx1).trans hx2⟩
      case pos =>
        obtain ⟨h3, h4⟩ := h2
        have e9 := HAR.out
        rw [askB_old h3 h4] at e9
        replace h3 := h3.symm
        subst h3
        have h3b : (e1 == e1) = true := by simp
        have h4i : (0 : Int) < (l.length : Int) := by omega
        have HAR9 := Lib.hid e9
        clear e9 HAR h1
        go_enter Try.func12, Try.ntmps12
        go_wp2_with (first
          | (go_at_call 15; refine F1.mono ?_; rintro e w1 ⟨v1, rfl, hs1, hx1⟩
             obtain ⟨p1, c1', e5, _, hcm⟩ := hs1.slice
             subst e5
             unfold maxLen at hcm
             obtain ⟨wa, hwa⟩ : ∃ wa, wa = w1.alloc (.cells #[.int .i64 e0, .int .i64 e1, .slice p1 l.length c1'] 48) := ⟨_, rfl⟩
             have hx2 : Ext w1 wa := by rw [hwa]; exact Ext.alloc _ _
             have o3 : ObjAt wa w1.heap.size 48 [.int .i64 e0, .int .i64 e1, .slice p1 l.length c1'] := by rw [hwa]; exact heap_alloc_new w1 _
             have k0 := o3.cell (j := 0) rfl
             have k1 := o3.cell (j := 1) rfl
             have k2 := o3.cell (j := 2) rfl
             have g1 := (hx1.trans hx2).cell d1
             have g2 := (hx1.trans hx2).cell d2
             have g3 := (hx1.trans hx2).cell d3
             have g4 := (hx1.trans hx2).cell d4
             have hsa := hs1.ext hx2
             rw [hwa] at k0 k1 k2 g1 g2 g3 g4 hx2 hsa
             clear hwa o3))
        have HX2 := Lib.hid ((hx0.trans hx1).trans hx2)
        go_loopg [10] (l.length) (fun k s8 wr => ∃ j : Nat, s8 = .int .i64 j ∧ j ≤ l.length ∧ k = l.length - j ∧ Hid (∀ i x, i < j → l[i]? = some x → isSn b4 b1 x = false) ∧ Ext (w1.alloc (.cells #[.int .i64 e0, .int .i64 e1, .slice p1 l.length c1'] 48)) wr)
        case atStart => exact ⟨0, rfl, Nat.zero_le _, rfl, fun i x hi => by omega, Ext.refl _⟩
        case round =>
          obtain ⟨j, rfl, hj, hk, HA, hxw⟩ := hrel
          have yk2 := hxw.cell k2
          have yg1 := hxw.cell g1
          have yg4 := hxw.cell g4
          by_cases hlt : j < l.length
          case pos =>
            have hi : (j : Int) < (l.length : Int) := by omega
            obtain ⟨bs, os, e5, ⟨r0, r1, r2⟩⟩ := sn_at (hsa.ext hxw) hlt
            subst e5
            have hget : l[j]? = some l[j] := List.getElem?_eq_getElem hlt
            have HGET := Lib.hid hget
            generalize l[j] = en at *
            obtain ⟨s0, s1, s2⟩ := en
            simp only at r0 r1 r2
            clear hget hsa
            cases hb0 : (s0 == b4)
            case false =>
              have HB : Hid (isSn b4 b1 ⟨s0, s1, s2⟩ = false) := Lib.hid (by unfold isSn; simp only; rw [hb0]; rfl)
              go_wp2_with fail
              apply wp_region_dag (X := Ext) (by kernel_rfl) (by kernel_rfl) (fun _ _ _ => Ext.trans) (Ext.drew1 _)
              apply dag_val Ext.refl rfl (by intro W hW H; go_simp <;> rfl)
              simp only [Act.put, List.setIfInBounds_toArray, List.set_cons_zero, List.set_cons_succ]
              apply dag_val Ext.refl rfl (by intro W hW H; have q0 := hW.cell yk2; go_simp <;> rfl)
              simp only [Act.put, List.setIfInBounds_toArray, List.set_cons_zero, List.set_cons_succ]
              apply dag_val Ext.refl rfl (by intro W hW H; go_simp <;> rfl)
              simp only [Act.put, List.setIfInBounds_toArray, List.set_cons_zero, List.set_cons_succ]
              apply dag_val Ext.refl rfl (by intro W hW H; go_simp <;> rfl)
              simp only [Act.put, List.setIfInBounds_toArray, List.set_cons_zero, List.set_cons_succ]
              apply dag_val Ext.refl rfl (by intro W hW H; go_simp <;> rfl)
              simp only [Act.put, List.setIfInBounds_toArray, List.set_cons_zero, List.set_cons_succ]
              apply dag_val Ext.refl rfl (by intro W hW H; have q0 := hW.cell r0; go_simp <;> rfl)
              simp only [Act.put, List.setIfInBounds_toArray, List.set_cons_zero, List.set_cons_succ]
              apply dag_val Ext.refl rfl (by intro W hW H; go_simp <;> rfl)
              simp only [Act.put, List.setIfInBounds_toArray, List.set_cons_zero, List.set_cons_succ]
              apply dag_val Ext.refl rfl (by intro W hW H; have q0 := hW.cell yg4; go_simp <;> rfl)
              simp only [Act.put, List.setIfInBounds_toArray, List.set_cons_zero, List.set_cons_succ]
              apply dag_val Ext.refl rfl (by intro W hW H; go_simp <;> rfl)
              simp only [Act.put, List.setIfInBounds_toArray, List.set_cons_zero, List.set_cons_succ]
              apply dag_val Ext.refl rfl (by intro W hW H; go_simp <;> rfl)
              simp only [Act.put, List.setIfInBounds_toArray, List.set_cons_zero, List.set_cons_succ]
              apply dag_not Ext.refl rfl
              simp only [Act.put, List.setIfInBounds_toArray, List.set_cons_zero, List.set_cons_succ]
              apply dag_not Ext.refl rfl
              simp only [Act.put, List.setIfInBounds_toArray, List.set_cons_zero, List.set_cons_succ]
              apply dag_not Ext.refl rfl
              simp only [Act.put, List.setIfInBounds_toArray, List.set_cons_zero, List.set_cons_succ]
              apply dag_not Ext.refl rfl
              simp only [Act.put, List.setIfInBounds_toArray, List.set_cons_zero, List.set_cons_succ]
              apply dag_not Ext.refl rfl
              simp only [Act.put, List.setIfInBounds_toArray, List.set_cons_zero, List.set_cons_succ]
              apply dag_not Ext.refl rfl
              simp only [Act.put, List.setIfInBounds_toArray, List.set_cons_zero, List.set_cons_succ]
              apply dag_not Ext.refl rfl
              simp only [Act.put, List.setIfInBounds_toArray, List.set_cons_zero, List.set_cons_succ]
              apply dag_not Ext.refl rfl
              simp only [Act.put, List.setIfInBounds_toArray, List.set_cons_zero, List.set_cons_succ]
              apply dag_not Ext.refl rfl
              simp only [Act.put, List.setIfInBounds_toArray, List.set_cons_zero, List.set_cons_succ]
              apply dag_val Ext.refl rfl (by intro W hW H; go_simp <;> rfl)
              simp only [Act.put, List.setIfInBounds_toArray, List.set_cons_zero, List.set_cons_succ]
              refine dag_end fun W hW H => ?_
              go_wp2_with fail
              go_roundg (l.length - (j + 1))
              case measure => omega
              case rel =>
                refine ⟨j + 1, by go_num, hlt, rfl, fun i x hi hxx => ?_, hxw.trans hW⟩
                by_cases hij : i = j
                · subst hij
                  have := HGET.out
                  rw [hxx] at this
                  cases this
                  exact HB.out
                · exact HA.out i x (by omega) hxx
            case true =>
              cases hb1 : (s1 == b1)
              case false =>
                have HB : Hid (isSn b4 b1 ⟨s0, s1, s2⟩ = false) := Lib.hid (by unfold isSn; simp only; rw [hb0, hb1]; rfl)
                go_wp2_with fail
                apply wp_region_dag (X := Ext) (by kernel_rfl) (by kernel_rfl) (fun _ _ _ => Ext.trans) (Ext.drew1 _)
                apply dag_val Ext.refl rfl (by intro W hW H; go_simp <;> rfl)
                simp only [Act.put, List.setIfInBounds_toArray, List.set_cons_zero, List.set_cons_succ]
                apply dag_val Ext.refl rfl (by intro W hW H; have q0 := hW.cell yk2; go_simp <;> rfl)
                simp only [Act.put, List.setIfInBounds_toArray, List.set_cons_zero, List.set_cons_succ]
                apply dag_val Ext.refl rfl (by intro W hW H; go_simp <;> rfl)
                simp only [Act.put, List.setIfInBounds_toArray, List.set_cons_zero, List.set_cons_succ]
                apply dag_val Ext.refl rfl (by intro W hW H; go_simp <;> rfl)
                simp only [Act.put, List.setIfInBounds_toArray, List.set_cons_zero, List.set_cons_succ]
                apply dag_val Ext.refl rfl (by intro W hW H; go_simp <;> rfl)
                simp only [Act.put, List.setIfInBounds_toArray, List.set_cons_zero, List.set_cons_succ]
                apply dag_val Ext.refl rfl (by intro W hW H; have q0 := hW.cell r0; go_simp <;> rfl)
                simp only [Act.put, List.setIfInBounds_toArray, List.set_cons_zero, List.set_cons_succ]
                apply dag_val Ext.refl rfl (by intro W hW H; go_simp <;> rfl)
                simp only [Act.put, List.setIfInBounds_toArray, List.set_cons_zero, List.set_cons_succ]
                apply dag_val Ext.refl rfl (by intro W hW H; have q0 := hW.cell yg4; go_simp <;> rfl)
                simp only [Act.put, List.setIfInBounds_toArray, List.set_cons_zero, List.set_cons_succ]
                apply dag_val Ext.refl rfl (by intro W hW H; go_simp <;> rfl)
                simp only [Act.put, List.setIfInBounds_toArray, List.set_cons_zero, List.set_cons_succ]
                apply dag_val Ext.refl rfl (by intro W hW H; go_simp <;> rfl)
                simp only [Act.put, List.setIfInBounds_toArray, List.set_cons_zero, List.set_cons_succ]
                apply dag_val Ext.refl rfl (by intro W hW H; go_simp <;> rfl)
                simp only [Act.put, List.setIfInBounds_toArray, List.set_cons_zero, List.set_cons_succ]
                apply dag_val Ext.refl rfl (by intro W hW H; have q0 := hW.cell yk2; go_simp <;> rfl)
                simp only [Act.put, List.setIfInBounds_toArray, List.set_cons_zero, List.set_cons_succ]
                apply dag_val Ext.refl rfl (by intro W hW H; go_simp <;> rfl)
                simp only [Act.put, List.setIfInBounds_toArray, List.set_cons_zero, List.set_cons_succ]
                apply dag_val Ext.refl rfl (by intro W hW H; go_simp <;> rfl)
                simp only [Act.put, List.setIfInBounds_toArray, List.set_cons_zero, List.set_cons_succ]
                apply dag_val Ext.refl rfl (by intro W hW H; go_simp <;> rfl)
                simp only [Act.put, List.setIfInBounds_toArray, List.set_cons_zero, List.set_cons_succ]
                apply dag_val Ext.refl rfl (by intro W hW H; have q0 := hW.cell r1; go_simp <;> rfl)
                simp only [Act.put, List.setIfInBounds_toArray, List.set_cons_zero, List.set_cons_succ]
                apply dag_val Ext.refl rfl (by intro W hW H; go_simp <;> rfl)
                simp only [Act.put, List.setIfInBounds_toArray, List.set_cons_zero, List.set_cons_succ]
                apply dag_val Ext.refl rfl (by intro W hW H; have q0 := hW.cell yg1; go_simp <;> rfl)
                simp only [Act.put, List.setIfInBounds_toArray, List.set_cons_zero, List.set_cons_succ]
                apply dag_val Ext.refl rfl (by intro W hW H; go_simp <;> rfl)
                simp only [Act.put, List.setIfInBounds_toArray, List.set_cons_zero, List.set_cons_succ]
                apply dag_val Ext.refl rfl (by intro W hW H; go_simp <;> rfl)
                simp only [Act.put, List.setIfInBounds_toArray, List.set_cons_zero, List.set_cons_succ]
                refine dag_end fun W hW H => ?_
                go_wp2_with fail
                go_roundg (l.length - (j + 1))
                case measure => omega
                case rel =>
                  refine ⟨j + 1, by go_num, hlt, rfl, fun i x hi hxx => ?_, hxw.trans hW⟩
                  by_cases hij : i = j
                  · subst hij
                    have := HGET.out
                    rw [hxx] at this
                    cases this
                    exact HB.out
                  · exact HA.out i x (by omega) hxx
              case true =>
                have HB : Hid (isSn b4 b1 ⟨s0, s1, s2⟩ = true) := Lib.hid (by unfold isSn; simp only; rw [hb0, hb1]; rfl)
                go_wp2_with fail
                apply wp_region_dag (X := Ext) (by kernel_rfl) (by kernel_rfl) (fun _ _ _ => Ext.trans) (Ext.drew1 _)
                apply dag_val Ext.refl rfl (by intro W hW H; go_simp <;> rfl)
                simp only [Act.put, List.setIfInBounds_toArray, List.set_cons_zero, List.set_cons_succ]
                apply dag_val Ext.refl rfl (by intro W hW H; have q0 := hW.cell yk2; go_simp <;> rfl)
                simp only [Act.put, List.setIfInBounds_toArray, List.set_cons_zero, List.set_cons_succ]
                apply dag_val Ext.refl rfl (by intro W hW H; go_simp <;> rfl)
                simp only [Act.put, List.setIfInBounds_toArray, List.set_cons_zero, List.set_cons_succ]
                apply dag_val Ext.refl rfl (by intro W hW H; go_simp <;> rfl)
                simp only [Act.put, List.setIfInBounds_toArray, List.set_cons_zero, List.set_cons_succ]
                apply dag_val Ext.refl rfl (by intro W hW H; go_simp <;> rfl)
                simp only [Act.put, List.setIfInBounds_toArray, List.set_cons_zero, List.set_cons_succ]
                apply dag_val Ext.refl rfl (by intro W hW H; have q0 := hW.cell r0; go_simp <;> rfl)
                simp only [Act.put, List.setIfInBounds_toArray, List.set_cons_zero, List.set_cons_succ]
                apply dag_val Ext.refl rfl (by intro W hW H; go_simp <;> rfl)
                simp only [Act.put, List.setIfInBounds_toArray, List.set_cons_zero, List.set_cons_succ]
                apply dag_val Ext.refl rfl (by intro W hW H; have q0 := hW.cell yg4; go_simp <;> rfl)
                simp only [Act.put, List.setIfInBounds_toArray, List.set_cons_zero, List.set_cons_succ]
                apply dag_val Ext.refl rfl (by intro W hW H; go_simp <;> rfl)
                simp only [Act.put, List.setIfInBounds_toArray, List.set_cons_zero, List.set_cons_succ]
                apply dag_val Ext.refl rfl (by intro W hW H; go_simp <;> rfl)
                simp only [Act.put, List.setIfInBounds_toArray, List.set_cons_zero, List.set_cons_succ]
                apply dag_val Ext.refl rfl (by intro W hW H; go_simp <;> rfl)
                simp only [Act.put, List.setIfInBounds_toArray, List.set_cons_zero, List.set_cons_succ]
                apply dag_val Ext.refl rfl (by intro W hW H; have q0 := hW.cell yk2; go_simp <;> rfl)
                simp only [Act.put, List.setIfInBounds_toArray, List.set_cons_zero, List.set_cons_succ]
                apply dag_val Ext.refl rfl (by intro W hW H; go_simp <;> rfl)
                simp only [Act.put, List.setIfInBounds_toArray, List.set_cons_zero, List.set_cons_succ]
                apply dag_val Ext.refl rfl (by intro W hW H; go_simp <;> rfl)
                simp only [Act.put, List.setIfInBounds_toArray, List.set_cons_zero, List.set_cons_succ]
                apply dag_val Ext.refl rfl (by intro W hW H; go_simp <;> rfl)
                simp only [Act.put, List.setIfInBounds_toArray, List.set_cons_zero, List.set_cons_succ]
                apply dag_val Ext.refl rfl (by intro W hW H; have q0 := hW.cell r1; go_simp <;> rfl)
                simp only [Act.put, List.setIfInBounds_toArray, List.set_cons_zero, List.set_cons_succ]
                apply dag_val Ext.refl rfl (by intro W hW H; go_simp <;> rfl)
                simp only [Act.put, List.setIfInBounds_toArray, List.set_cons_zero, List.set_cons_succ]
                apply dag_val Ext.refl rfl (by intro W hW H; have q0 := hW.cell yg1; go_simp <;> rfl)
                simp only [Act.put, List.setIfInBounds_toArray, List.set_cons_zero, List.set_cons_succ]
                apply dag_val Ext.refl rfl (by intro W hW H; go_simp <;> rfl)
                simp only [Act.put, List.setIfInBounds_toArray, List.set_cons_zero, List.set_cons_succ]
                apply dag_val Ext.refl rfl (by intro W hW H; go_simp <;> rfl)
                simp only [Act.put, List.setIfInBounds_toArray, List.set_cons_zero, List.set_cons_succ]
                refine dag_end fun W hW H => ?_
                have z2 := hW.cell r2
                have z0 := hW.cell yk2
                go_wp2_with fail
                go_ret3
                refine ⟨?_, HX2.out.trans (hxw.trans hW)⟩
                have hje : l[j] = ⟨s0, s1, s2⟩ := by have := HGET.out; rw [List.getElem?_eq_getElem hlt] at this; exact Option.some.inj this
                have hfi : l.findIdx? (isSn b4 b1) = some j := find_found hlt (by rw [hje]; exact HB.out) fun i x hi hx => HA.out i x hi hx
                have e9 := HAR9.out
                simp only [hfi] at e9
                have e10 : AR = (s2, true, 0) := by rw [← e9]; simp [List.getD_eq_getElem?_getD, hlt, hje]
                rw [e10]
                rfl
          case neg =>
            have hje : j = l.length := by omega
            subst hje
            have hi : ¬ (l.length : Int) < (l.length : Int) := by omega
            have hfi : l.findIdx? (isSn b4 b1) = none := find_none fun i x hxx => HA.out i x (List.getElem?_eq_some_iff.1 hxx).1 hxx
            have e9 := HAR9.out
            simp only [hfi] at e9
            have hltk : l.length - 1 < l.length := by omega
            have e10 : l.getD (l.length - 1) sn0 = l[l.length - 1] := by simp [List.getD_eq_getElem?_getD, hltk]
            rw [e10] at e9
            obtain ⟨bs, os, e5, ⟨r0, r1, r2⟩⟩ := sn_at (hsa.ext hxw) hltk
            subst e5
            generalize l[l.length - 1] = y at *
            obtain ⟨k, hkk⟩ : ∃ k, l.length - 1 = k := ⟨_, rfl⟩
            have hki : (l.length : Int) - 1 = (k : Int) := by omega
            have hki2 : (k : Int) < (l.length : Int) := by omega
            have hkw : IntKind.i64.wrap (k : Int) = (k : Int) := by rw [IntKind.wrap_i64]; omega
            rw [hkk] at r0 r1 r2
            obtain ⟨s0, s1, s2⟩ := y
            simp only at r0 r1 r2
            have HE := Lib.hid e9
            clear e9 e10 hlt hsa hfi hkk hltk h4
            obtain ⟨z, hz⟩ : ∃ z, behS ⟨s0, s1, s2⟩ = z := ⟨_, rfl⟩
            have R1 := fun W => rbehind_any ⟨s0, s1, s2⟩ W
            rw [hz] at R1
            by_cases hs : b4 = z
            case pos =>
              have e9 := HE.out
              rw [hz, if_pos hs] at e9
              subst e9; subst hs
              have hsb : (b4 == b4) = true := by simp
              clear HE hz
              go_wp2_with fail
              apply wp_region_dag (X := Ext) (by kernel_rfl) (by kernel_rfl) (fun _ _ _ => Ext.trans) (Ext.drew1 _)
              apply dag_val Ext.refl rfl (by intro W hW H; go_simp <;> rfl)
              simp only [Act.put, List.setIfInBounds_toArray, List.set_cons_zero, List.set_cons_succ]
              apply dag_val Ext.refl rfl (by intro W hW H; have q0 := hW.cell yg4; go_simp <;> rfl)
              simp only [Act.put, List.setIfInBounds_toArray, List.set_cons_zero, List.set_cons_succ]
              apply dag_val Ext.refl rfl (by intro W hW H; go_simp <;> rfl)
              simp only [Act.put, List.setIfInBounds_toArray, List.set_cons_zero, List.set_cons_succ]
              apply dag_val Ext.refl rfl (by intro W hW H; have q0 := hW.cell yk2; go_simp <;> rfl)
              simp only [Act.put, List.setIfInBounds_toArray, List.set_cons_zero, List.set_cons_succ]
              apply dag_val Ext.refl rfl (by intro W hW H; go_simp <;> rfl)
              simp only [Act.put, List.setIfInBounds_toArray, List.set_cons_zero, List.set_cons_succ]
              apply dag_val Ext.refl rfl (by intro W hW H; go_simp <;> rfl)
              simp only [Act.put, List.setIfInBounds_toArray, List.set_cons_zero, List.set_cons_succ]
              apply dag_val Ext.refl rfl (by intro W hW H; go_simp <;> rfl)
              simp only [Act.put, List.setIfInBounds_toArray, List.set_cons_zero, List.set_cons_succ]
              apply dag_val Ext.refl rfl (by intro W hW H; have q0 := hW.cell r0; have q1 := hW.cell r1; have q2 := hW.cell r2; go_simp <;> rfl)
              simp only [Act.put, List.setIfInBounds_toArray, List.set_cons_zero, List.set_cons_succ]
              refine' dag_call rfl (by intro W; go_simp <;> rfl) (fun W hW H => R1 W) _
              rotate_left
              simp only [Act.put, List.setIfInBounds_toArray, List.set_cons_zero, List.set_cons_succ]
              apply dag_val Ext.refl rfl (by intro W hW H; go_simp <;> rfl)
              simp only [Act.put, List.setIfInBounds_toArray, List.set_cons_zero, List.set_cons_succ]
              refine dag_end fun W hW H => ?_
              go_wp2_with fail
              go_ret3
              exact ⟨rfl, HX2.out.trans (hxw.trans hW)⟩
            case neg =>
              have e9 := HE.out
              rw [hz, if_neg hs] at e9
              subst e9
              have hsb : (b4 == z) = false := by simp [hs]
              clear HE hz hs
              go_wp2_with fail
              apply wp_region_dag (X := Ext) (by kernel_rfl) (by kernel_rfl) (fun _ _ _ => Ext.trans) (Ext.drew1 _)
              apply dag_val Ext.refl rfl (by intro W hW H; go_simp <;> rfl)
              simp only [Act.put, List.setIfInBounds_toArray, List.set_cons_zero, List.set_cons_succ]
              apply dag_val Ext.refl rfl (by intro W hW H; have q0 := hW.cell yg4; go_simp <;> rfl)
              simp only [Act.put, List.setIfInBounds_toArray, List.set_cons_zero, List.set_cons_succ]
              apply dag_val Ext.refl rfl (by intro W hW H; go_simp <;> rfl)
              simp only [Act.put, List.setIfInBounds_toArray, List.set_cons_zero, List.set_cons_succ]
              apply dag_val Ext.refl rfl (by intro W hW H; have q0 := hW.cell yk2; go_simp <;> rfl)
              simp only [Act.put, List.setIfInBounds_toArray, List.set_cons_zero, List.set_cons_succ]
              apply dag_val Ext.refl rfl (by intro W hW H; go_simp <;> rfl)
              simp only [Act.put, List.setIfInBounds_toArray, List.set_cons_zero, List.set_cons_succ]
              apply dag_val Ext.refl rfl (by intro W hW H; go_simp <;> rfl)
              simp only [Act.put, List.setIfInBounds_toArray, List.set_cons_zero, List.set_cons_succ]
              apply dag_val Ext.refl rfl (by intro W hW H; go_simp <;> rfl)
              simp only [Act.put, List.setIfInBounds_toArray, List.set_cons_zero, List.set_cons_succ]
              apply dag_val Ext.refl rfl (by intro W hW H; have q0 := hW.cell r0; have q1 := hW.cell r1; have q2 := hW.cell r2; go_simp <;> rfl)
              simp only [Act.put, List.setIfInBounds_toArray, List.set_cons_zero, List.set_cons_succ]
              refine' dag_call rfl (by intro W; go_simp <;> rfl) (fun W hW H => R1 W) _
              rotate_left
              simp only [Act.put, List.setIfInBounds_toArray, List.set_cons_zero, List.set_cons_succ]
              apply dag_val Ext.refl rfl (by intro W hW H; go_simp <;> rfl)
              simp only [Act.put, List.setIfInBounds_toArray, List.set_cons_zero, List.set_cons_succ]
              refine dag_end fun W hW H => ?_
              go_wp2_with fail
              go_ret3
              exact ⟨rfl, HX2.out.trans (hxw.trans hW)⟩
end Go.Proofs.Ythiaaoiaabocfaa
