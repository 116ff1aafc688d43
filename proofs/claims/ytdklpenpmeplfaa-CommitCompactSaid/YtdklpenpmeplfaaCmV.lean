/- What the document's one and Play of layer 21 compute. -/
import Derived.Test.YtdklpenpmeplfaaCmS
import Derived.Test.YtdklpenpmeplfaaCmU
import Derived.Test.YtdklpenpmeplfaaCmQ
import Derived.Test.YtdklpenpmeplfaaInsF
namespace Go.Proofs.Ytdklpenpmeplfaa
open Go.RowKit

theorem cm_to {S T : Nat → Prop} {w : World} {v : Value} {l : List Cm} (h : SRow 4 RCm S w v l) : SRow 4 RCm T w v l := by
  obtain ⟨css, p, c, h1, h2, h3, h4, h5, h6, h7⟩ := h
  exact ⟨css, p, c, h1, h2, h3, h4, h5, h6, fun j cs x hc hx w' _ => (h7 j cs x hc hx).now⟩
set_option maxRecDepth 20000 in
set_option maxHeartbeats 4000000 in
theorem rone_any (v : Value) (xs : List Cm) (r : Rec) (w : World) (h : CmV w v xs) (hl : xs.length ≤ 1000) (hf : r.key.length ≤ 1000 ∧ r.value.length ≤ 1000) :
    Calls Try.prog 49 #[v, recv r] w fun e w' => ∃ v', e = .returned v' ∧ CmV w' v' (playR xs r) ∧ Ext w w' := by
  have C1 := fun W => rgetC_any r W hf.1 hf.2
  obtain ⟨d, t, kd, key, dead, val⟩ := r
  clear hf
  obtain ⟨⟨g, s, ix, o⟩, er, hG⟩ : ∃ (c : Cm) (e : Int), getC ⟨d, t, kd, key, dead, val⟩ = (c, e) := ⟨_, _, rfl⟩
  rw [hG] at C1
  simp only at C1
  obtain ⟨p, c, rfl, hnc, hcm⟩ := h.slice
  unfold maxLen at hcm
  have hx0 := Ext.alloc w (.cells #[.int .i64 d, .int .i64 t, .bool kd, .string ⟨key.toArray⟩, .bool dead, .string ⟨val.toArray⟩] 25)
  have oa : ObjAt (w.alloc (.cells #[.int .i64 d, .int .i64 t, .bool kd, .string ⟨key.toArray⟩, .bool dead, .string ⟨val.toArray⟩] 25)) w.heap.size 25 (recCells ⟨d, t, kd, key, dead, val⟩) := heap_alloc_new w _
  have k4 := oa.cell (j := 4) rfl
  have HX0 := Lib.hid hx0
  have HL := Lib.hid hl
  have HH := Lib.hid h
  clear oa hx0 hl h
  by_cases he : er = 0
  case neg =>
    have hbe : (er != 0) = true := by rw [bne_iff_ne]; exact he
    rw [playR_bad hG he]
    clear he hG
    go_enter Try.func49, Try.ntmps49
    go_wp2_with (first
      | (go_at_call 15; refine (C1 _).mono ?_; rintro e w1 ⟨rfl, hx1⟩
         have hxb := Ext.alloc w1 (.cells #[.string ⟨g.toArray⟩, .string ⟨s.toArray⟩, .int .i64 ix, .int .i64 o] 23)
         have oq : ObjAt (w1.alloc (.cells #[.string ⟨g.toArray⟩, .string ⟨s.toArray⟩, .int .i64 ix, .int .i64 o] 23)) w1.heap.size 23 (cmCells ⟨g, s, ix, o⟩) := heap_alloc_new w1 _
         have q0 := oq.cell (j := 0) rfl
         have q1 := oq.cell (j := 1) rfl
         have q2 := oq.cell (j := 2) rfl
         have q3 := oq.cell (j := 3) rfl
         have HXB := Lib.hid ((HX0.out.trans hx1).trans hxb)
         have n4 := (hx1.trans hxb).cell k4
         clear hxb oq)
      | (go_at_call 48; refine (rplace_any _ xs ⟨g, s, ix, o⟩ _ (HH.out.ext HXB.out)).mono ?_; rintro e w2 ⟨e9, hx2⟩; subst e9
         have n5 := hx2.cell n4
         have r0 := hx2.cell q0
         have r1 := hx2.cell q1
         have r2 := hx2.cell q2
         have r3 := hx2.cell q3
         have HX2 := Lib.hid (HXB.out.trans hx2)
         have HH2 := Lib.hid (HH.out.ext HX2.out)))
    go_ret
    exact ⟨_, rfl, HH2.out, HX2.out⟩
  subst he
  cases hfi : xs.findIdx? (isC ⟨g, s, ix, o⟩) with
  | none =>
    have HPF := Lib.hid (placeF_none hfi)
    cases dead with
    | true =>
      rw [playR_dead hG rfl, delC_none hfi]
      clear hG hfi
      go_enter Try.func49, Try.ntmps49
      go_wp2_with (first
        | (go_at_call 15; refine (C1 _).mono ?_; rintro e w1 ⟨rfl, hx1⟩
           have hxb := Ext.alloc w1 (.cells #[.string ⟨g.toArray⟩, .string ⟨s.toArray⟩, .int .i64 ix, .int .i64 o] 23)
           have oq : ObjAt (w1.alloc (.cells #[.string ⟨g.toArray⟩, .string ⟨s.toArray⟩, .int .i64 ix, .int .i64 o] 23)) w1.heap.size 23 (cmCells ⟨g, s, ix, o⟩) := heap_alloc_new w1 _
           have q0 := oq.cell (j := 0) rfl
           have q1 := oq.cell (j := 1) rfl
           have q2 := oq.cell (j := 2) rfl
           have q3 := oq.cell (j := 3) rfl
           have HXB := Lib.hid ((HX0.out.trans hx1).trans hxb)
           have n4 := (hx1.trans hxb).cell k4
           clear hxb oq)
        | (go_at_call 48; refine (rplace_any _ xs ⟨g, s, ix, o⟩ _ (HH.out.ext HXB.out)).mono ?_; rintro e w2 ⟨e9, hx2⟩; rw [HPF.out] at e9; subst e9
           have n5 := hx2.cell n4
           have r0 := hx2.cell q0
           have r1 := hx2.cell q1
           have r2 := hx2.cell q2
           have r3 := hx2.cell q3
           have HX2 := Lib.hid (HXB.out.trans hx2)
           have HH2 := Lib.hid (HH.out.ext HX2.out)))
      go_ret
      exact ⟨_, rfl, HH2.out, HX2.out⟩
    | false =>
      rw [playR_put hG rfl]
      obtain ⟨RES, hRES⟩ : ∃ R, putC xs ⟨g, s, ix, o⟩ = R := ⟨_, rfl⟩
      rw [hRES]
      have HRES := Lib.hid hRES
      have HFI := Lib.hid hfi
      clear hG hfi hRES
      go_enter Try.func49, Try.ntmps49
      go_wp2_with (first
        | (go_at_call 15; refine (C1 _).mono ?_; rintro e w1 ⟨rfl, hx1⟩
           have hxb := Ext.alloc w1 (.cells #[.string ⟨g.toArray⟩, .string ⟨s.toArray⟩, .int .i64 ix, .int .i64 o] 23)
           have oq : ObjAt (w1.alloc (.cells #[.string ⟨g.toArray⟩, .string ⟨s.toArray⟩, .int .i64 ix, .int .i64 o] 23)) w1.heap.size 23 (cmCells ⟨g, s, ix, o⟩) := heap_alloc_new w1 _
           have q0 := oq.cell (j := 0) rfl
           have q1 := oq.cell (j := 1) rfl
           have q2 := oq.cell (j := 2) rfl
           have q3 := oq.cell (j := 3) rfl
           have HXB := Lib.hid ((HX0.out.trans hx1).trans hxb)
           have n4 := (hx1.trans hxb).cell k4
           clear hxb oq)
        | (go_at_call 48; refine (rplace_any _ xs ⟨g, s, ix, o⟩ _ (HH.out.ext HXB.out)).mono ?_; rintro e w2 ⟨e9, hx2⟩; rw [HPF.out] at e9; subst e9
           have n5 := hx2.cell n4
           have r0 := hx2.cell q0
           have r1 := hx2.cell q1
           have r2 := hx2.cell q2
           have r3 := hx2.cell q3
           have HX2 := Lib.hid (HXB.out.trans hx2)
           have HH2 := Lib.hid (HH.out.ext HX2.out)))
      clear C1
      go_loopg [9] (xs.length) (fun k s9 wr => ∃ j : Nat, s9 = .int .i64 j ∧ j ≤ xs.length ∧ k = xs.length - j ∧ Hid (∀ i x, i < j → xs[i]? = some x → geC ⟨g, s, ix, o⟩ x = false) ∧ Ext w2 wr)
      case atStart => exact ⟨0, rfl, Nat.zero_le _, rfl, fun i x hi => by omega, Ext.refl _⟩
      case round =>
        obtain ⟨j, rfl, hj, hk, HA, hx⟩ := hrel
        obtain ⟨wi, hwi⟩ : ∃ wi, wi = wr := ⟨_, rfl⟩
        subst hwi
        have e0 := hx.cell r0
        have e1 := hx.cell r1
        have e2 := hx.cell r2
        have e3 := hx.cell r3
        have HXI := Lib.hid (HX2.out.trans hx)
        have HHI := Lib.hid (HH2.out.ext hx)
        by_cases hlt : j < xs.length
        case pos =>
          have hi : (j : Int) < (xs.length : Int) := by omega
          obtain ⟨b, oo, rfl, ⟨m0, m1, m2, m3⟩⟩ := cm_at HHI.out hlt
          have hget : xs[j]? = some xs[j] := List.getElem?_eq_getElem hlt
          have HGET := Lib.hid hget
          have O1 := fun W => rorder_any xs[j] ⟨g, s, ix, o⟩ W
          generalize hisc : geC ⟨g, s, ix, o⟩ xs[j] = B at *
          have hord : decide (0 ≤ ordC xs[j] ⟨g, s, ix, o⟩) = B := hisc
          have HB := Lib.hid hisc
          generalize ordC xs[j] ⟨g, s, ix, o⟩ = oz at *
          generalize xs[j] = en at *
          clear hget hisc
          go_wp2_with fail
          apply wp_region_dag (X := Ext) (by kernel_rfl) (by kernel_rfl) (fun _ _ _ => Ext.trans) (Ext.drew1 _)
          apply dag_val Ext.refl rfl (by intro W hW H; go_simp <;> rfl)
          simp only [Act.put, List.setIfInBounds_toArray, List.set_cons_zero, List.set_cons_succ]
          apply dag_val Ext.refl rfl (by intro W hW H; go_simp <;> rfl)
          simp only [Act.put, List.setIfInBounds_toArray, List.set_cons_zero, List.set_cons_succ]
          apply dag_val Ext.refl rfl (by intro W hW H; go_simp <;> rfl)
          simp only [Act.put, List.setIfInBounds_toArray, List.set_cons_zero, List.set_cons_succ]
          apply dag_val Ext.refl rfl (by intro W hW H; go_simp <;> rfl)
          simp only [Act.put, List.setIfInBounds_toArray, List.set_cons_zero, List.set_cons_succ]
          apply dag_val Ext.refl rfl (by intro W hW H; go_simp <;> rfl)
          simp only [Act.put, List.setIfInBounds_toArray, List.set_cons_zero, List.set_cons_succ]
          apply dag_val Ext.refl rfl (by intro W hW H; go_simp <;> rfl)
          simp only [Act.put, List.setIfInBounds_toArray, List.set_cons_zero, List.set_cons_succ]
          apply dag_val Ext.refl rfl (by intro W hW H; go_simp <;> rfl)
          simp only [Act.put, List.setIfInBounds_toArray, List.set_cons_zero, List.set_cons_succ]
          apply dag_val Ext.refl rfl (by intro W hW H; go_simp <;> rfl)
          simp only [Act.put, List.setIfInBounds_toArray, List.set_cons_zero, List.set_cons_succ]
          apply dag_val Ext.refl rfl (by intro W hW H; have q0 := hW.cell m0; have q1 := hW.cell m1; have q2 := hW.cell m2; have q3 := hW.cell m3; go_simp <;> rfl)
          simp only [Act.put, List.setIfInBounds_toArray, List.set_cons_zero, List.set_cons_succ]
          apply dag_val Ext.refl rfl (by intro W hW H; have q0 := hW.cell e0; have q1 := hW.cell e1; have q2 := hW.cell e2; have q3 := hW.cell e3; go_simp <;> rfl)
          simp only [Act.put, List.setIfInBounds_toArray, List.set_cons_zero, List.set_cons_succ]
          refine' dag_call (c := .int .i64 oz) (f := 75) (args := #[cmv en, cmv ⟨g, s, ix, o⟩]) rfl (by intro W; go_simp <;> rfl) (fun W hW H => O1 W) _
          rotate_left
          simp only [Act.put, List.setIfInBounds_toArray, List.set_cons_zero, List.set_cons_succ]
          apply dag_val Ext.refl rfl (by intro W hW H; go_simp <;> rfl)
          simp only [Act.put, List.setIfInBounds_toArray, List.set_cons_zero, List.set_cons_succ]
          apply dag_val Ext.refl rfl (by intro W hW H; go_simp <;> rfl)
          simp only [Act.put, List.setIfInBounds_toArray, List.set_cons_zero, List.set_cons_succ]
          refine dag_end fun W hW H => ?_
          clear H
          cases hB : B with
          | false =>
            rw [hB] at hord HB
            have hoz : oz < 0 := by have := of_decide_eq_false hord; omega
            clear hB hord
            go_wp2_with fail
            go_roundg (xs.length - (j + 1))
            case measure => omega
            case rel =>
              refine ⟨j + 1, by go_num, hlt, rfl, fun i x hi hxx => ?_, hx.trans hW⟩
              by_cases hij : i = j
              · subst hij
                have := HGET.out
                rw [hxx] at this
                cases this
                exact HB.out
              · exact HA.out i x (by omega) hxx
          | true =>
            rw [hB] at hord HB
            have hoz : ¬ oz < 0 := by have := of_decide_eq_true hord; omega
            have hfg : xs.findIdx? (geC ⟨g, s, ix, o⟩) = some j := by
              have hje : xs[j] = en := by have := HGET.out; rw [List.getElem?_eq_getElem hlt] at this; exact Option.some.inj this
              exact find_found hlt (by rw [hje]; exact HB.out) fun i x hi hx => HA.out i x hi hx
            have HEQ := Lib.hid (HRES.out.symm.trans (putC_some2 HFI.out hfg))
            clear hB hord hfg HA
            go_wp2_with fail
            have f0 := hW.cell e0
            have f1 := hW.cell e1
            have f2 := hW.cell e2
            have f3 := hW.cell e3
            have HXJ := Lib.hid (HXI.out.trans hW)
            have HTK : Hid (∀ W', Ext W W' → SRow 4 RCm (fun k => True ∧ k < W.heap.size) W' (.slice (some ⟨b, oo, none⟩) j c) (xs.take j)) := Lib.hid (fun W' hW' => cm_to ((HHI.out.ext (hW.trans hW')).take hj (by omega) (Nat.le_refl c)))
            have HTD : Hid (∀ W', Ext W W' → SRow 4 RCm (fun k => True ∧ k < W.heap.size) W' (.slice (cutA 4 (some ⟨b, oo, none⟩) c j) (xs.length - j) (c - j)) (xs.drop j)) := Lib.hid (fun W' hW' => cm_to ((HHI.out.ext (hW.trans hW')).drop hj))
            obtain ⟨wq, hwq⟩ : ∃ wq, wq = W := ⟨_, rfl⟩
            subst hwq
            apply wp_region_dagF 12 (by kernel_rfl) (by kernel_rfl) (by kernel_rfl) (by decide)
            simp only [List.take_succ_cons, List.take_zero, List.drop_succ_cons, List.drop_zero]
            apply dagf_val rfl (by intro W hW H; go_simp <;> rfl)
            simp only [Act.put, List.setIfInBounds_toArray, List.set_cons_zero, List.set_cons_succ]
            apply dagf_val rfl (by intro W hW H; go_simp <;> rfl)
            simp only [Act.put, List.setIfInBounds_toArray, List.set_cons_zero, List.set_cons_succ]
            apply dagf_val rfl (by intro W hW H; go_simp <;> rfl)
            simp only [Act.put, List.setIfInBounds_toArray, List.set_cons_zero, List.set_cons_succ]
            refine' dagf_val rfl (fun W hW H => run_sliceTo T.rcms rfl rfl W j c) _
            rotate_left
            simp only [Act.put, List.setIfInBounds_toArray, List.set_cons_zero, List.set_cons_succ]
            refine' dagf_row (fun v W => ORow 23 4 RCm (fun k => True ∧ k < wq.heap.size) W wq.heap.size v (xs.take j)) (ORow.resT (fun _ => True) _ _) rfl (fun W hW H => frow_items (vy := .slice (some ⟨b, oo, none⟩) j c) T.rcms rfl rfl rfl (HTK.out W hW) (by rw [List.length_take]; have := HL.out; simp only [maxLen]; omega) (by rw [List.length_take]; have := HL.out; omega) hW.size) (fun u0 => _)
            rotate_left
            simp only [Act.put, List.setIfInBounds_toArray, List.set_cons_zero, List.set_cons_succ]
            apply dagf_val rfl (by intro W hW H; have q0 := hW.cell f0; have q1 := hW.cell f1; have q2 := hW.cell f2; have q3 := hW.cell f3; go_simp <;> rfl)
            simp only [Act.put, List.setIfInBounds_toArray, List.set_cons_zero, List.set_cons_succ]
            refine' dagf_row (fun v W => ORow 23 4 RCm (fun k => True ∧ k < wq.heap.size) W wq.heap.size v [(⟨g, s, ix, o⟩ : Cm)]) (ORow.resT (fun _ => True) _ _) rfl (fun W hW H => frow_lit1 (cs := cmCells ⟨g, s, ix, o⟩) rfl (cm_one _) (fun _ _ => rfl) hW.size (by go_simp <;> rfl)) (fun u2 => _)
            rotate_left
            simp only [Act.put, List.setIfInBounds_toArray, List.set_cons_zero, List.set_cons_succ]
            refine' dagf_app 4 u0 _ (fun v W => ORow 23 4 RCm (fun k => True ∧ k < wq.heap.size) W wq.heap.size v (xs.take j ++ [(⟨g, s, ix, o⟩ : Cm)])) (ORow.resT (fun _ => True) _ _) (by kernel_rfl) (by repeat (first | exact List.mem_cons_self | refine mem_keep ?_ (by decide) | apply List.mem_cons_of_mem)) rfl (fun W hW H => fapp_items (vx := u0) (vy := u2) T.rcms rfl rfl rfl (H (4, u0, _) (by repeat (first | exact List.mem_cons_self | refine mem_keep ?_ (by decide) | apply List.mem_cons_of_mem)) (by kernel_rfl)) (cm_to (ORow.view (H (6, u2, _) (by repeat (first | exact List.mem_cons_self | refine mem_keep ?_ (by decide) | apply List.mem_cons_of_mem)) (by kernel_rfl)))) (by rw [List.length_take]; have := HL.out; simp [maxLen]; omega) (by rw [List.length_take]; have := HL.out; simp; omega) hW.size) (fun u3 => _)
            rotate_left
            simp only [Act.put, List.setIfInBounds_toArray, List.set_cons_zero, List.set_cons_succ]
            apply dagf_val rfl (by intro W hW H; go_simp <;> rfl)
            simp only [Act.put, List.setIfInBounds_toArray, List.set_cons_zero, List.set_cons_succ]
            apply dagf_val rfl (by intro W hW H; go_simp <;> rfl)
            simp only [Act.put, List.setIfInBounds_toArray, List.set_cons_zero, List.set_cons_succ]
            refine' dagf_val rfl (fun W hW H => run_slice T.rcms rfl rfl W j xs.length c) _
            rotate_left
            simp only [Act.put, List.setIfInBounds_toArray, List.set_cons_zero, List.set_cons_succ]
            refine' dagf_app 7 u3 _ (fun v W => ORow 23 4 RCm (fun k => True ∧ k < wq.heap.size) W wq.heap.size v ((xs.take j ++ [(⟨g, s, ix, o⟩ : Cm)]) ++ xs.drop j)) (ORow.resT (fun _ => True) _ _) (by kernel_rfl) (by repeat (first | exact List.mem_cons_self | refine mem_keep ?_ (by decide) | apply List.mem_cons_of_mem)) rfl (fun W hW H => fapp_items (vx := u3) (vy := .slice (cutA 4 (some ⟨b, oo, none⟩) c j) (xs.length - j) (c - j)) T.rcms rfl rfl rfl (H (7, u3, _) (by repeat (first | exact List.mem_cons_self | refine mem_keep ?_ (by decide) | apply List.mem_cons_of_mem)) (by kernel_rfl)) (HTD.out W hW) (by rw [List.length_append, List.length_take, List.length_drop]; have := HL.out; simp [maxLen]; omega) (by rw [List.length_append, List.length_take, List.length_drop]; have := HL.out; simp; omega) hW.size) (fun u4 => _)
            rotate_left
            simp only [Act.put, List.setIfInBounds_toArray, List.set_cons_zero, List.set_cons_succ]
            refine dagf_end fun W2 hW2 H HA => ?_
            have ho9 : ORow 23 4 RCm (fun k => True ∧ k < wq.heap.size) W2 wq.heap.size u4 ((xs.take j ++ [(⟨g, s, ix, o⟩ : Cm)]) ++ xs.drop j) := H (11, u4, _) (by repeat (first | exact List.mem_cons_self | refine mem_keep ?_ (by decide) | apply List.mem_cons_of_mem))
            clear H
            go_wp2_with fail
            go_ret
            refine ⟨_, rfl, ?_, HXJ.out.trans hW2⟩
            rw [HEQ.out, show xs.take j ++ (⟨g, s, ix, o⟩ : Cm) :: xs.drop j = (xs.take j ++ [(⟨g, s, ix, o⟩ : Cm)]) ++ xs.drop j by rw [List.append_assoc]; rfl]
            exact cm_to (ORow.view ho9)
        case neg =>
          have hje : j = xs.length := by omega
          have hfg : xs.findIdx? (geC ⟨g, s, ix, o⟩) = none := find_none fun i x hxx => HA.out i x (by have := (List.getElem?_eq_some_iff.1 hxx).1; omega) hxx
          have HEQ : Hid (RES = xs.take j ++ (⟨g, s, ix, o⟩ : Cm) :: xs.drop j) := Lib.hid (by rw [hje]; exact HRES.out.symm.trans (putC_none2 HFI.out hfg))
          have hi : ¬ (j : Int) < (xs.length : Int) := by omega
          clear hje hfg
          go_wp2_with fail
          apply wp_region_dag (X := Ext) (by kernel_rfl) (by kernel_rfl) (fun _ _ _ => Ext.trans) (Ext.drew1 _)
          apply dag_val Ext.refl rfl (by intro W hW H; go_simp <;> rfl)
          simp only [Act.put, List.setIfInBounds_toArray, List.set_cons_zero, List.set_cons_succ]
          apply dag_val Ext.refl rfl (by intro W hW H; go_simp <;> rfl)
          simp only [Act.put, List.setIfInBounds_toArray, List.set_cons_zero, List.set_cons_succ]
          apply dag_val Ext.refl rfl (by intro W hW H; go_simp <;> rfl)
          simp only [Act.put, List.setIfInBounds_toArray, List.set_cons_zero, List.set_cons_succ]
          apply dag_val Ext.refl rfl (by intro W hW H; go_simp <;> rfl)
          simp only [Act.put, List.setIfInBounds_toArray, List.set_cons_zero, List.set_cons_succ]
          apply dag_val Ext.refl rfl (by intro W hW H; go_simp <;> rfl)
          simp only [Act.put, List.setIfInBounds_toArray, List.set_cons_zero, List.set_cons_succ]
          apply dag_not Ext.refl rfl
          simp only [Act.put, List.setIfInBounds_toArray, List.set_cons_zero, List.set_cons_succ]
          apply dag_not Ext.refl rfl
          simp only [Act.put, List.setIfInBounds_toArray, List.set_cons_zero, List.set_cons_succ]
          apply dag_not Ext.refl rfl
          simp only [Act.put, List.setIfInBounds_toArray, List.set_cons_zero, List.set_cons_succ]
          apply dag_not Ext.refl rfl
          simp only [Act.put, List.setIfInBounds_toArray, List.set_cons_zero, List.set_cons_succ]
          apply dag_not Ext.refl rfl
          simp only [Act.put, List.setIfInBounds_toArray, List.set_cons_zero, List.set_cons_succ]
          apply dag_not Ext.refl rfl
          simp only [Act.put, List.setIfInBounds_toArray, List.set_cons_zero, List.set_cons_succ]
          apply dag_not Ext.refl rfl
          simp only [Act.put, List.setIfInBounds_toArray, List.set_cons_zero, List.set_cons_succ]
          apply dag_val Ext.refl rfl (by intro W hW H; go_simp <;> rfl)
          simp only [Act.put, List.setIfInBounds_toArray, List.set_cons_zero, List.set_cons_succ]
          refine dag_end fun W hW H => ?_
          clear H
          go_wp2_with fail
          have f0 := hW.cell e0
          have f1 := hW.cell e1
          have f2 := hW.cell e2
          have f3 := hW.cell e3
          have HXJ := Lib.hid (HXI.out.trans hW)
          have HTK : Hid (∀ W', Ext W W' → SRow 4 RCm (fun k => True ∧ k < W.heap.size) W' (.slice (p) j c) (xs.take j)) := Lib.hid (fun W' hW' => cm_to ((HHI.out.ext (hW.trans hW')).take hj (by omega) (Nat.le_refl c)))
          have HTD : Hid (∀ W', Ext W W' → SRow 4 RCm (fun k => True ∧ k < W.heap.size) W' (.slice (cutA 4 (p) c j) (xs.length - j) (c - j)) (xs.drop j)) := Lib.hid (fun W' hW' => cm_to ((HHI.out.ext (hW.trans hW')).drop hj))
          obtain ⟨wq, hwq⟩ : ∃ wq, wq = W := ⟨_, rfl⟩
          subst hwq
          apply wp_region_dagF 12 (by kernel_rfl) (by kernel_rfl) (by kernel_rfl) (by decide)
          simp only [List.take_succ_cons, List.take_zero, List.drop_succ_cons, List.drop_zero]
          apply dagf_val rfl (by intro W hW H; go_simp <;> rfl)
          simp only [Act.put, List.setIfInBounds_toArray, List.set_cons_zero, List.set_cons_succ]
          apply dagf_val rfl (by intro W hW H; go_simp <;> rfl)
          simp only [Act.put, List.setIfInBounds_toArray, List.set_cons_zero, List.set_cons_succ]
          apply dagf_val rfl (by intro W hW H; go_simp <;> rfl)
          simp only [Act.put, List.setIfInBounds_toArray, List.set_cons_zero, List.set_cons_succ]
          refine' dagf_val rfl (fun W hW H => run_sliceTo T.rcms rfl rfl W j c) _
          rotate_left
          simp only [Act.put, List.setIfInBounds_toArray, List.set_cons_zero, List.set_cons_succ]
          refine' dagf_row (fun v W => ORow 23 4 RCm (fun k => True ∧ k < wq.heap.size) W wq.heap.size v (xs.take j)) (ORow.resT (fun _ => True) _ _) rfl (fun W hW H => frow_items (vy := .slice (p) j c) T.rcms rfl rfl rfl (HTK.out W hW) (by rw [List.length_take]; have := HL.out; simp only [maxLen]; omega) (by rw [List.length_take]; have := HL.out; omega) hW.size) (fun u0 => _)
          rotate_left
          simp only [Act.put, List.setIfInBounds_toArray, List.set_cons_zero, List.set_cons_succ]
          apply dagf_val rfl (by intro W hW H; have q0 := hW.cell f0; have q1 := hW.cell f1; have q2 := hW.cell f2; have q3 := hW.cell f3; go_simp <;> rfl)
          simp only [Act.put, List.setIfInBounds_toArray, List.set_cons_zero, List.set_cons_succ]
          refine' dagf_row (fun v W => ORow 23 4 RCm (fun k => True ∧ k < wq.heap.size) W wq.heap.size v [(⟨g, s, ix, o⟩ : Cm)]) (ORow.resT (fun _ => True) _ _) rfl (fun W hW H => frow_lit1 (cs := cmCells ⟨g, s, ix, o⟩) rfl (cm_one _) (fun _ _ => rfl) hW.size (by go_simp <;> rfl)) (fun u2 => _)
          rotate_left
          simp only [Act.put, List.setIfInBounds_toArray, List.set_cons_zero, List.set_cons_succ]
          refine' dagf_app 4 u0 _ (fun v W => ORow 23 4 RCm (fun k => True ∧ k < wq.heap.size) W wq.heap.size v (xs.take j ++ [(⟨g, s, ix, o⟩ : Cm)])) (ORow.resT (fun _ => True) _ _) (by kernel_rfl) (by repeat (first | exact List.mem_cons_self | refine mem_keep ?_ (by decide) | apply List.mem_cons_of_mem)) rfl (fun W hW H => fapp_items (vx := u0) (vy := u2) T.rcms rfl rfl rfl (H (4, u0, _) (by repeat (first | exact List.mem_cons_self | refine mem_keep ?_ (by decide) | apply List.mem_cons_of_mem)) (by kernel_rfl)) (cm_to (ORow.view (H (6, u2, _) (by repeat (first | exact List.mem_cons_self | refine mem_keep ?_ (by decide) | apply List.mem_cons_of_mem)) (by kernel_rfl)))) (by rw [List.length_take]; have := HL.out; simp [maxLen]; omega) (by rw [List.length_take]; have := HL.out; simp; omega) hW.size) (fun u3 => _)
          rotate_left
          simp only [Act.put, List.setIfInBounds_toArray, List.set_cons_zero, List.set_cons_succ]
          apply dagf_val rfl (by intro W hW H; go_simp <;> rfl)
          simp only [Act.put, List.setIfInBounds_toArray, List.set_cons_zero, List.set_cons_succ]
          apply dagf_val rfl (by intro W hW H; go_simp <;> rfl)
          simp only [Act.put, List.setIfInBounds_toArray, List.set_cons_zero, List.set_cons_succ]
          refine' dagf_val rfl (fun W hW H => run_slice T.rcms rfl rfl W j xs.length c) _
          rotate_left
          simp only [Act.put, List.setIfInBounds_toArray, List.set_cons_zero, List.set_cons_succ]
          refine' dagf_app 7 u3 _ (fun v W => ORow 23 4 RCm (fun k => True ∧ k < wq.heap.size) W wq.heap.size v ((xs.take j ++ [(⟨g, s, ix, o⟩ : Cm)]) ++ xs.drop j)) (ORow.resT (fun _ => True) _ _) (by kernel_rfl) (by repeat (first | exact List.mem_cons_self | refine mem_keep ?_ (by decide) | apply List.mem_cons_of_mem)) rfl (fun W hW H => fapp_items (vx := u3) (vy := .slice (cutA 4 (p) c j) (xs.length - j) (c - j)) T.rcms rfl rfl rfl (H (7, u3, _) (by repeat (first | exact List.mem_cons_self | refine mem_keep ?_ (by decide) | apply List.mem_cons_of_mem)) (by kernel_rfl)) (HTD.out W hW) (by rw [List.length_append, List.length_take, List.length_drop]; have := HL.out; simp [maxLen]; omega) (by rw [List.length_append, List.length_take, List.length_drop]; have := HL.out; simp; omega) hW.size) (fun u4 => _)
          rotate_left
          simp only [Act.put, List.setIfInBounds_toArray, List.set_cons_zero, List.set_cons_succ]
          refine dagf_end fun W2 hW2 H HA => ?_
          have ho9 : ORow 23 4 RCm (fun k => True ∧ k < wq.heap.size) W2 wq.heap.size u4 ((xs.take j ++ [(⟨g, s, ix, o⟩ : Cm)]) ++ xs.drop j) := H (11, u4, _) (by repeat (first | exact List.mem_cons_self | refine mem_keep ?_ (by decide) | apply List.mem_cons_of_mem))
          clear H
          go_wp2_with fail
          go_ret
          refine ⟨_, rfl, ?_, HXJ.out.trans hW2⟩
          rw [HEQ.out, show xs.take j ++ (⟨g, s, ix, o⟩ : Cm) :: xs.drop j = (xs.take j ++ [(⟨g, s, ix, o⟩ : Cm)]) ++ xs.drop j by rw [List.append_assoc]; rfl]
          exact cm_to (ORow.view ho9)
  | some i =>
    obtain ⟨hic, _⟩ := find_some hfi
    have HPF := Lib.hid (placeF_some hfi)
    have hii : (i : Int) < (xs.length : Int) := by omega
    have hn0 : ¬ (i : Int) < 0 := by omega
    have hn1 : (0 : Int) ≤ (i : Int) := by omega
    have hwi : IntKind.i64.wrap ((i : Int) + 1) = (i : Int) + 1 := by have := HL.out; rw [IntKind.wrap_i64]; omega
    cases dead with
    | true =>
      rw [playR_dead hG rfl, delC_some hfi]
      clear hG hfi
      go_enter Try.func49, Try.ntmps49
      go_wp2_with (first
        | (go_at_call 15; refine (C1 _).mono ?_; rintro e w1 ⟨rfl, hx1⟩
           have hxb := Ext.alloc w1 (.cells #[.string ⟨g.toArray⟩, .string ⟨s.toArray⟩, .int .i64 ix, .int .i64 o] 23)
           have oq : ObjAt (w1.alloc (.cells #[.string ⟨g.toArray⟩, .string ⟨s.toArray⟩, .int .i64 ix, .int .i64 o] 23)) w1.heap.size 23 (cmCells ⟨g, s, ix, o⟩) := heap_alloc_new w1 _
           have q0 := oq.cell (j := 0) rfl
           have q1 := oq.cell (j := 1) rfl
           have q2 := oq.cell (j := 2) rfl
           have q3 := oq.cell (j := 3) rfl
           have HXB := Lib.hid ((HX0.out.trans hx1).trans hxb)
           have n4 := (hx1.trans hxb).cell k4
           clear hxb oq)
        | (go_at_call 48; refine (rplace_any _ xs ⟨g, s, ix, o⟩ _ (HH.out.ext HXB.out)).mono ?_; rintro e w2 ⟨e9, hx2⟩; rw [HPF.out] at e9; subst e9
           have n5 := hx2.cell n4
           have r0 := hx2.cell q0
           have r1 := hx2.cell q1
           have r2 := hx2.cell q2
           have r3 := hx2.cell q3
           have HX2 := Lib.hid (HXB.out.trans hx2)
           have HH2 := Lib.hid (HH.out.ext HX2.out)))
      go_wp2_with fail
      have hx := Ext.refl w2
      have HTK : Hid (∀ W', Ext w2 W' → SRow 4 RCm (fun k => True ∧ k < w2.heap.size) W' (.slice p i c) (xs.take i)) := Lib.hid (fun W' hW' => cm_to ((HH2.out.ext hW').take (Nat.le_of_lt hic) (by omega) (Nat.le_refl c)))
      have HTD : Hid (∀ W', Ext w2 W' → SRow 4 RCm (fun k => True ∧ k < w2.heap.size) W' (.slice (cutA 4 p c (i + 1)) (xs.length - (i + 1)) (c - (i + 1))) (xs.drop (i + 1))) := Lib.hid (fun W' hW' => cm_to ((HH2.out.ext hW').drop hic))
      obtain ⟨wq, hwq⟩ : ∃ wq, wq = w2 := ⟨_, rfl⟩
      subst hwq
      apply wp_region_dagF 10 (by kernel_rfl) (by kernel_rfl) (by kernel_rfl) (by decide)
      simp only [List.take_succ_cons, List.take_zero, List.drop_succ_cons, List.drop_zero]
      apply dagf_val rfl (by intro W hW H; go_simp <;> rfl)
      simp only [Act.put, List.setIfInBounds_toArray, List.set_cons_zero, List.set_cons_succ]
      apply dagf_val rfl (by intro W hW H; go_simp <;> rfl)
      simp only [Act.put, List.setIfInBounds_toArray, List.set_cons_zero, List.set_cons_succ]
      apply dagf_val rfl (by intro W hW H; go_simp <;> rfl)
      simp only [Act.put, List.setIfInBounds_toArray, List.set_cons_zero, List.set_cons_succ]
      refine' dagf_val rfl (fun W hW H => run_sliceTo T.rcms rfl rfl W i c) _
      rotate_left
      simp only [Act.put, List.setIfInBounds_toArray, List.set_cons_zero, List.set_cons_succ]
      refine' dagf_row (fun v W => ORow 23 4 RCm (fun k => True ∧ k < wq.heap.size) W wq.heap.size v (xs.take i)) (ORow.resT (fun _ => True) _ _) rfl (fun W hW H => frow_items (vy := .slice p i c) T.rcms rfl rfl rfl (HTK.out W hW) (by rw [List.length_take]; have := HL.out; simp only [maxLen]; omega) (by rw [List.length_take]; have := HL.out; omega) hW.size) (fun u0 => _)
      rotate_left
      simp only [Act.put, List.setIfInBounds_toArray, List.set_cons_zero, List.set_cons_succ]
      apply dagf_val rfl (by intro W hW H; go_simp <;> rfl)
      simp only [Act.put, List.setIfInBounds_toArray, List.set_cons_zero, List.set_cons_succ]
      apply dagf_val rfl (by intro W hW H; go_simp <;> rfl)
      simp only [Act.put, List.setIfInBounds_toArray, List.set_cons_zero, List.set_cons_succ]
      apply dagf_val rfl (by intro W hW H; go_simp <;> rfl)
      simp only [Act.put, List.setIfInBounds_toArray, List.set_cons_zero, List.set_cons_succ]
      refine' dagf_val rfl (fun W hW H => run_slice T.rcms rfl rfl W (i + 1) xs.length c) _
      rotate_left
      simp only [Act.put, List.setIfInBounds_toArray, List.set_cons_zero, List.set_cons_succ]
      refine' dagf_app 4 u0 _ (fun v W => ORow 23 4 RCm (fun k => True ∧ k < wq.heap.size) W wq.heap.size v (xs.take i ++ xs.drop (i + 1))) (ORow.resT (fun _ => True) _ _) (by kernel_rfl) (by repeat (first | exact List.mem_cons_self | refine mem_keep ?_ (by decide) | apply List.mem_cons_of_mem)) rfl (fun W hW H => fapp_items (vx := u0) (vy := .slice (cutA 4 p c (i + 1)) (xs.length - (i + 1)) (c - (i + 1))) T.rcms rfl rfl rfl (H (4, u0, _) (by repeat (first | exact List.mem_cons_self | refine mem_keep ?_ (by decide) | apply List.mem_cons_of_mem)) (by kernel_rfl)) (HTD.out W hW) (by rw [List.length_take, List.length_drop]; have := HL.out; simp only [maxLen]; omega) (by rw [List.length_take, List.length_drop]; have := HL.out; omega) hW.size) (fun u4 => _)
      rotate_left
      simp only [Act.put, List.setIfInBounds_toArray, List.set_cons_zero, List.set_cons_succ]
      refine dagf_end fun W2 hW2 H HA => ?_
      have ho9 : ORow 23 4 RCm (fun k => True ∧ k < wq.heap.size) W2 wq.heap.size u4 (xs.take i ++ xs.drop (i + 1)) := H (9, u4, _) (by repeat (first | exact List.mem_cons_self | refine mem_keep ?_ (by decide) | apply List.mem_cons_of_mem))
      clear H HA
      go_wp2_with fail
      go_ret
      exact ⟨_, rfl, cm_to (ORow.view ho9), HX2.out.trans hW2⟩
    | false =>
      rw [playR_put hG rfl, putC_some hfi]
      clear hG hfi
      go_enter Try.func49, Try.ntmps49
      go_wp2_with (first
        | (go_at_call 15; refine (C1 _).mono ?_; rintro e w1 ⟨rfl, hx1⟩
           have hxb := Ext.alloc w1 (.cells #[.string ⟨g.toArray⟩, .string ⟨s.toArray⟩, .int .i64 ix, .int .i64 o] 23)
           have oq : ObjAt (w1.alloc (.cells #[.string ⟨g.toArray⟩, .string ⟨s.toArray⟩, .int .i64 ix, .int .i64 o] 23)) w1.heap.size 23 (cmCells ⟨g, s, ix, o⟩) := heap_alloc_new w1 _
           have q0 := oq.cell (j := 0) rfl
           have q1 := oq.cell (j := 1) rfl
           have q2 := oq.cell (j := 2) rfl
           have q3 := oq.cell (j := 3) rfl
           have HXB := Lib.hid ((HX0.out.trans hx1).trans hxb)
           have n4 := (hx1.trans hxb).cell k4
           clear hxb oq)
        | (go_at_call 48; refine (rplace_any _ xs ⟨g, s, ix, o⟩ _ (HH.out.ext HXB.out)).mono ?_; rintro e w2 ⟨e9, hx2⟩; rw [HPF.out] at e9; subst e9
           have n5 := hx2.cell n4
           have r0 := hx2.cell q0
           have r1 := hx2.cell q1
           have r2 := hx2.cell q2
           have r3 := hx2.cell q3
           have HX2 := Lib.hid (HXB.out.trans hx2)
           have HH2 := Lib.hid (HH.out.ext HX2.out)))
      go_wp2_with fail
      have hx := Ext.refl w2
      have HTK : Hid (∀ W', Ext w2 W' → SRow 4 RCm (fun k => True ∧ k < w2.heap.size) W' (.slice p i c) (xs.take i)) := Lib.hid (fun W' hW' => cm_to ((HH2.out.ext hW').take (Nat.le_of_lt hic) (by omega) (Nat.le_refl c)))
      have HTD : Hid (∀ W', Ext w2 W' → SRow 4 RCm (fun k => True ∧ k < w2.heap.size) W' (.slice (cutA 4 p c (i + 1)) (xs.length - (i + 1)) (c - (i + 1))) (xs.drop (i + 1))) := Lib.hid (fun W' hW' => cm_to ((HH2.out.ext hW').drop hic))
      obtain ⟨wq, hwq⟩ : ∃ wq, wq = w2 := ⟨_, rfl⟩
      subst hwq
      apply wp_region_dagF 13 (by kernel_rfl) (by kernel_rfl) (by kernel_rfl) (by decide)
      simp only [List.take_succ_cons, List.take_zero, List.drop_succ_cons, List.drop_zero]
      apply dagf_val rfl (by intro W hW H; go_simp <;> rfl)
      simp only [Act.put, List.setIfInBounds_toArray, List.set_cons_zero, List.set_cons_succ]
      apply dagf_val rfl (by intro W hW H; go_simp <;> rfl)
      simp only [Act.put, List.setIfInBounds_toArray, List.set_cons_zero, List.set_cons_succ]
      apply dagf_val rfl (by intro W hW H; go_simp <;> rfl)
      simp only [Act.put, List.setIfInBounds_toArray, List.set_cons_zero, List.set_cons_succ]
      refine' dagf_val rfl (fun W hW H => run_sliceTo T.rcms rfl rfl W i c) _
      rotate_left
      simp only [Act.put, List.setIfInBounds_toArray, List.set_cons_zero, List.set_cons_succ]
      refine' dagf_row (fun v W => ORow 23 4 RCm (fun k => True ∧ k < wq.heap.size) W wq.heap.size v (xs.take i)) (ORow.resT (fun _ => True) _ _) rfl (fun W hW H => frow_items (vy := .slice p i c) T.rcms rfl rfl rfl (HTK.out W hW) (by rw [List.length_take]; have := HL.out; simp only [maxLen]; omega) (by rw [List.length_take]; have := HL.out; omega) hW.size) (fun u0 => _)
      rotate_left
      simp only [Act.put, List.setIfInBounds_toArray, List.set_cons_zero, List.set_cons_succ]
      apply dagf_val rfl (by intro W hW H; have q0 := hW.cell r0; have q1 := hW.cell r1; have q2 := hW.cell r2; have q3 := hW.cell r3; go_simp <;> rfl)
      simp only [Act.put, List.setIfInBounds_toArray, List.set_cons_zero, List.set_cons_succ]
      refine' dagf_row (fun v W => ORow 23 4 RCm (fun k => True ∧ k < wq.heap.size) W wq.heap.size v [(⟨g, s, ix, o⟩ : Cm)]) (ORow.resT (fun _ => True) _ _) rfl (fun W hW H => frow_lit1 (cs := cmCells ⟨g, s, ix, o⟩) rfl (cm_one _) (fun _ _ => rfl) hW.size (by go_simp <;> rfl)) (fun u2 => _)
      rotate_left
      simp only [Act.put, List.setIfInBounds_toArray, List.set_cons_zero, List.set_cons_succ]
      refine' dagf_app 4 u0 _ (fun v W => ORow 23 4 RCm (fun k => True ∧ k < wq.heap.size) W wq.heap.size v (xs.take i ++ [(⟨g, s, ix, o⟩ : Cm)])) (ORow.resT (fun _ => True) _ _) (by kernel_rfl) (by repeat (first | exact List.mem_cons_self | refine mem_keep ?_ (by decide) | apply List.mem_cons_of_mem)) rfl (fun W hW H => fapp_items (vx := u0) (vy := u2) T.rcms rfl rfl rfl (H (4, u0, _) (by repeat (first | exact List.mem_cons_self | refine mem_keep ?_ (by decide) | apply List.mem_cons_of_mem)) (by kernel_rfl)) (cm_to (ORow.view (H (6, u2, _) (by repeat (first | exact List.mem_cons_self | refine mem_keep ?_ (by decide) | apply List.mem_cons_of_mem)) (by kernel_rfl)))) (by rw [List.length_take]; have := HL.out; simp [maxLen]; omega) (by rw [List.length_take]; have := HL.out; simp; omega) hW.size) (fun u3 => _)
      rotate_left
      simp only [Act.put, List.setIfInBounds_toArray, List.set_cons_zero, List.set_cons_succ]
      apply dagf_val rfl (by intro W hW H; go_simp <;> rfl)
      simp only [Act.put, List.setIfInBounds_toArray, List.set_cons_zero, List.set_cons_succ]
      apply dagf_val rfl (by intro W hW H; go_simp <;> rfl)
      simp only [Act.put, List.setIfInBounds_toArray, List.set_cons_zero, List.set_cons_succ]
      apply dagf_val rfl (by intro W hW H; go_simp <;> rfl)
      simp only [Act.put, List.setIfInBounds_toArray, List.set_cons_zero, List.set_cons_succ]
      refine' dagf_val rfl (fun W hW H => run_slice T.rcms rfl rfl W (i + 1) xs.length c) _
      rotate_left
      simp only [Act.put, List.setIfInBounds_toArray, List.set_cons_zero, List.set_cons_succ]
      refine' dagf_app 7 u3 _ (fun v W => ORow 23 4 RCm (fun k => True ∧ k < wq.heap.size) W wq.heap.size v ((xs.take i ++ [(⟨g, s, ix, o⟩ : Cm)]) ++ xs.drop (i + 1))) (ORow.resT (fun _ => True) _ _) (by kernel_rfl) (by repeat (first | exact List.mem_cons_self | refine mem_keep ?_ (by decide) | apply List.mem_cons_of_mem)) rfl (fun W hW H => fapp_items (vx := u3) (vy := .slice (cutA 4 p c (i + 1)) (xs.length - (i + 1)) (c - (i + 1))) T.rcms rfl rfl rfl (H (7, u3, _) (by repeat (first | exact List.mem_cons_self | refine mem_keep ?_ (by decide) | apply List.mem_cons_of_mem)) (by kernel_rfl)) (HTD.out W hW) (by rw [List.length_append, List.length_take, List.length_drop]; have := HL.out; simp [maxLen]; omega) (by rw [List.length_append, List.length_take, List.length_drop]; have := HL.out; simp; omega) hW.size) (fun u4 => _)
      rotate_left
      simp only [Act.put, List.setIfInBounds_toArray, List.set_cons_zero, List.set_cons_succ]
      refine dagf_end fun W2 hW2 H HA => ?_
      have ho9 : ORow 23 4 RCm (fun k => True ∧ k < wq.heap.size) W2 wq.heap.size u4 ((xs.take i ++ [(⟨g, s, ix, o⟩ : Cm)]) ++ xs.drop (i + 1)) := H (12, u4, _) (by repeat (first | exact List.mem_cons_self | refine mem_keep ?_ (by decide) | apply List.mem_cons_of_mem))
      clear H HA
      go_wp2_with fail
      go_ret
      refine ⟨_, rfl, ?_, HX2.out.trans hW2⟩
      rw [List.set_eq_take_append_cons_drop, if_pos hic, show xs.take i ++ (⟨g, s, ix, o⟩ : Cm) :: xs.drop (i + 1) = (xs.take i ++ [(⟨g, s, ix, o⟩ : Cm)]) ++ xs.drop (i + 1) by rw [List.append_assoc]; rfl]
      exact cm_to (ORow.view ho9)
set_option maxHeartbeats 1000000 in
theorem rplay_any (v : Value) (xs : List Cm) (b : Bat) (bv : Value) (w : World) (h : CmV w v xs) (hb : RecV w bv b.recs) (hl : xs.length + b.recs.length ≤ 1000) (hf : ∀ r ∈ b.recs, r.key.length ≤ 1000 ∧ r.value.length ≤ 1000) :
    Calls Try.prog 26 #[v, batv b bv] w fun e w' => ∃ v', e = .returned v' ∧ CmV w' v' (playB xs b.recs) ∧ Ext w w' := by
  obtain ⟨b0, b1, b2, b3, b4, rs⟩ := b
  simp only at *
  obtain ⟨p, c, rfl, hnc, hcm⟩ := hb.slice
  unfold maxLen at hcm
  have hx0 := Ext.alloc w (.cells #[.int .i64 b0, .int .i64 b1, .int .i64 b2, .int .i64 b3, .int .i64 b4, .slice p rs.length c] 46)
  have oB : ObjAt (w.alloc (.cells #[.int .i64 b0, .int .i64 b1, .int .i64 b2, .int .i64 b3, .int .i64 b4, .slice p rs.length c] 46)) w.heap.size 46 [.int .i64 b0, .int .i64 b1, .int .i64 b2, .int .i64 b3, .int .i64 b4, .slice p rs.length c] := heap_alloc_new w _
  have HOB := Lib.hid oB
  have HL := Lib.hid hl
  have HF := Lib.hid hf
  have HX0 := Lib.hid hx0
  have HH := Lib.hid (h.ext hx0)
  clear hl hf oB h hx0
  go_enter Try.func26, Try.ntmps26
  go_wp2_with fail
  go_loopg [0, 5] (rs.length) (fun k s0 s5 wr => ∃ (j : Nat) (x : Value), s0 = x ∧ s5 = .int .i64 j ∧ j ≤ rs.length ∧ k = rs.length - j ∧ Hid (CmV wr x (playB xs (rs.take j))) ∧ Hid (Ext w wr) ∧ Hid (ObjAt wr w.heap.size 46 [.int .i64 b0, .int .i64 b1, .int .i64 b2, .int .i64 b3, .int .i64 b4, .slice p rs.length c]))
  case atStart => exact ⟨0, _, rfl, rfl, Nat.zero_le _, rfl, HH, HX0, HOB⟩
  case round =>
    obtain ⟨j, x, e5, rfl, hj, hk, HO, HX, HB⟩ := hrel
    replace e5 := e5.symm
    subst e5
    have cB := HB.out.cell (j := 5) rfl
    by_cases hlt : j < rs.length
    case neg =>
      have hje : j = rs.length := by omega
      subst hje
      have hi : ¬ (rs.length : Int) < (rs.length : Int) := by omega
      have ho := HO.out
      rw [List.take_length] at ho
      clear hlt
      go_wp2_with fail
      go_ret
      exact ⟨_, rfl, ho, HX.out⟩
    have hi : (j : Int) < (rs.length : Int) := by omega
    obtain ⟨bb, oo, rfl, ⟨m0, m1, m2, m3, m4, m5⟩, _, _⟩ := rec_at (hb.ext HX.out) hlt
    have hfr := HF.out rs[j] (List.getElem_mem hlt)
    have hsn := playB_snoc xs rs j hlt
    have hpl := playB_length (rs.take j) xs
    rw [List.length_take, Nat.min_eq_left hj] at hpl
    obtain ⟨cur, hcur⟩ : ∃ cur, playB xs (rs.take j) = cur := ⟨_, rfl⟩
    rw [hcur] at hsn hpl HO
    have O1 := rone_any x cur rs[j] wr HO.out (by have := HL.out; omega) hfr
    have HSN := Lib.hid hsn
    clear hcur hpl hsn hfr
    generalize rs[j] = r at *
    go_wp2_with (go_at_call 49; refine O1.mono ?_; rintro e w1 ⟨v1, rfl, hv1, hx1⟩
                 have HV1 := Lib.hid hv1
                 have HX1 := Lib.hid (HX.out.trans hx1)
                 have HB1 := Lib.hid (HB.out.ext hx1)
                 clear hv1)
    go_roundg (rs.length - (j + 1))
    case measure => omega
    case rel => exact ⟨j + 1, _, rfl, by go_num, hlt, rfl, Lib.hid (by rw [HSN.out]; exact HV1.out), HX1, HB1⟩
end Go.Proofs.Ytdklpenpmeplfaa
