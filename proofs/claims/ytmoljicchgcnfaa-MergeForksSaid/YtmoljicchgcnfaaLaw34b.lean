/- The statement MergeOnce of layer 34: the walk of the law. -/
import Derived.Test.YtmoljicchgcnfaaLaw34
namespace Go.Proofs.Ytmoljicchgcnfaa
open Go.RowKit

theorem light_all {ls : List (List Bat)} (h : lightL ls = true) : ls.length ≤ 8 ∧ ∀ (i : Nat), i < ls.length → (itemsOf i (ls.getD i [])).length ≤ 320 := by
  unfold lightL at h
  rw [Bool.and_eq_true] at h
  refine ⟨of_decide_eq_true h.1, fun i hi => ?_⟩
  have := List.all_eq_true.1 h.2 ls[i] (List.getElem_mem hi)
  rw [getD_at hi]
  exact light_few this _
theorem count_few {ls : List (List Bat)} (h : ∀ (i : Nat), i < ls.length → (itemsOf i (ls.getD i [])).length ≤ 320) : ∀ n, n ≤ ls.length → countN ls n ≤ 320 * n
  | 0, _ => Nat.le_refl _
  | n + 1, hn => by
    have := count_few h n (by omega)
    have h2 := h n (by omega)
    unfold countN
    omega
theorem of_step (i : Int) (A : List Itm) {k : Nat} (hk : k < A.length) : of_ i (A.take (k + 1)) = of_ i (A.take k) ++ of_ i [A[k]] := by
  rw [List.take_succ_eq_append_getElem hk, of_append]
theorem of_one (i : Int) (x : Itm) (h : x.list = i) : of_ i [x] = [x] := of_self (fun y hy => by rw [List.mem_singleton] at hy; subst hy; exact h)
theorem of_other (i : Int) (x : Itm) (h : x.list ≠ i) : of_ i [x] = [] := of_none (fun y hy => by rw [List.mem_singleton] at hy; subst hy; exact h)
theorem once_at {i : Int} {A l : List Itm} (hof : of_ i A = l) {k : Nat} (hk : k < A.length) (he : A[k].list = i) :
    ∃ h : (of_ i (A.take k)).length < l.length, l[(of_ i (A.take k)).length] = A[k] := by
  have e : A = A.take k ++ (A[k] :: A.drop (k + 1)) := by rw [← List.drop_eq_getElem_cons hk, List.take_append_drop]
  have e2 : l = of_ i (A.take k) ++ (A[k] :: of_ i (A.drop (k + 1))) := by
    rw [← hof]
    conv => lhs; rw [e]
    rw [of_append]
    congr 1
    have := of_append i [A[k]] (A.drop (k + 1))
    rw [of_one i _ he] at this
    exact this
  generalize of_ i (A.take k) = pre at *
  subst e2
  exact ⟨by simp, by simp⟩
def tmA (l : List Itm) (k : Nat) : Int := (l.getD k itm0).time
theorem tmA_at {l : List Itm} {k : Nat} (h : k < l.length) : tmA l k = l[k].time := by
  unfold tmA
  rw [List.getD_eq_getElem?_getD, List.getElem?_eq_getElem h]
  rfl
def nearN (l : List Itm) : Nat → Bool
  | 0 => true
  | k + 1 => nearN l k && (k == 0 || decide (tmA l (k - 1) ≤ tmA l k))
def riseN (ls : List (List Bat)) : Nat → Bool
  | 0 => true
  | n + 1 => riseN ls n && nearN (itemsOf n (ls.getD n [])) (max 1 (itemsOf n (ls.getD n [])).length)
theorem near_all {l : List Itm} : ∀ {n : Nat}, nearN l n = true → ∀ k, 1 ≤ k → k < n → tmA l (k - 1) ≤ tmA l k
  | 0, _, _, _, h => by omega
  | n + 1, h, k, h1, h2 => by
    unfold nearN at h
    rw [Bool.and_eq_true] at h
    by_cases e : k = n
    · subst e
      have := h.2
      rw [Bool.or_eq_true] at this
      rcases this with h3 | h3
      · rw [beq_iff_eq] at h3; omega
      · exact of_decide_eq_true h3
    · exact near_all h.1 k h1 (by omega)
theorem near_rises {l : List Itm} (h : nearN l (max 1 l.length) = true) : Rise l := by
  refine rise_near fun k h1 h2 => ?_
  have := near_all h k h1 (by omega)
  rw [tmA_at (by omega), tmA_at h2] at this
  exact this
theorem rise_all {ls : List (List Bat)} : ∀ {n : Nat}, riseN ls n = true → ∀ (i : Nat), i < n → Rise (itemsOf i (ls.getD i []))
  | 0, _, _, h => by omega
  | n + 1, h, i, hi => by
    unfold riseN at h
    rw [Bool.and_eq_true] at h
    by_cases e : i = n
    · subst e; exact near_rises h.2
    · exact rise_all h.1 i (by omega)

set_option maxRecDepth 20000 in
set_option maxHeartbeats 8000000 in
theorem mergeOnce_walk (v : Value) (ls : List (List Bat)) (w : World) (h : BatsV w v ls) :
    Calls Try.prog 4 #[v] w fun e w' => e = .returned (.bool true) ∧ Ext w w' := by
  obtain ⟨p, c, rfl, hlc, hcm⟩ := h.slice
  have L1 := rlightL_any _ ls _ h
  cases hlt : lightL ls with
  | false =>
    rw [hlt] at L1
    clear hlt
    go_enter Try.func4, Try.ntmps4
    go_wp2_with (first
      | (go_at_call 6; refine L1.mono ?_; rintro e w2 ⟨rfl, hx2⟩)
      | (go_at_call 7; refine (awake_any _).mono ?_; rintro e w3 ⟨rfl, hx3⟩))
    go_ret
    exact ⟨rfl, hx2.trans hx3⟩
  | true =>
    rw [hlt] at L1
    obtain ⟨hl8, hfew⟩ := light_all hlt
    have hcnt := count_few hfew
    have A1 := fun W hW => all_any (.slice p ls.length c) ls W hW (by omega) (fun i hi => by have := hfew i hi; omega) (by have := hcnt ls.length (Nat.le_refl _); omega)
    have hAl := allL_length ls
    have hAo := allL_of ls
    have hAr := fun hr => allL_rise ls (fun i hi => rise_all (n := ls.length) hr i hi)
    generalize allL ls = A at *
    have HAL := Lib.hid hAl
    have HAO := Lib.hid hAo
    have HAR := Lib.hid hAr
    have HFEW := Lib.hid hfew
    have HCNT := Lib.hid hcnt
    have hA3 : A.length ≤ 2560 := by have := hcnt ls.length (Nat.le_refl _); omega
    clear hlt hAl hAo hAr hfew hcnt
    go_enter Try.func4, Try.ntmps4
    go_wp2_with (first
      | (go_at_call 6; refine L1.mono ?_; rintro e w2 ⟨rfl, hx2⟩)
      | (go_at_call 13; refine (A1 _ (h.ext hx2)).mono ?_; rintro e w3 ⟨v3, rfl, ho3, hx3⟩
         obtain ⟨pa, ca, e3, _, hca⟩ := (itm_view ho3).slice
         subst e3
         have va := itm_view ho3
         have hx3a := hx2.trans hx3))
    unfold maxLen at hcm hca
    clear L1 A1 ho3
    go_loopg [4, 5, 6] (ls.length) (fun k s4 s5 s6 wr => ∃ i : Nat, s4 = .bool (riseN ls i) ∧ s5 = .int .i64 (countN ls i : Int) ∧ s6 = .int .i64 i ∧ i ≤ ls.length ∧ k = ls.length - i ∧ Ext w3 wr)
    case atStart => exact ⟨0, rfl, rfl, rfl, Nat.zero_le _, rfl, Ext.refl _⟩
    case round =>
      obtain ⟨i, rfl, rfl, rfl, hi0, hk, hx⟩ := hrel
      obtain ⟨wo, hwo⟩ : ∃ wo, wo = wr := ⟨_, rfl⟩
      subst hwo
      by_cases hil : i < ls.length
      case pos =>
        have hi : (i : Int) < (ls.length : Int) := by omega
        obtain ⟨b, o, q, d, rfl, m0, hbv⟩ := bats_at (h.ext (hx3a.trans hx)) hil
        have hlen := HFEW.out i hil
        obtain ⟨nl, hnl⟩ : ∃ nl, nl = ls[i].length := ⟨_, rfl⟩
        rw [← hnl] at m0 hbv
        clear hnl
        have I1 := items_any (i : Int) _ ls[i] wo hbv (by rw [getD_at hil] at hlen; omega)
        rw [← getD_at hil] at I1
        have hof := HAO.out i hil
        have hcn : countN ls (i + 1) = countN ls i + (itemsOf i (ls.getD i [])).length := rfl
        have hrn : riseN ls (i + 1) = (riseN ls i && nearN (itemsOf i (ls.getD i [])) (max 1 (itemsOf i (ls.getD i [])).length)) := rfl
        have hcb := HCNT.out i (by omega)
        generalize itemsOf (i : Int) (ls.getD i []) = L at *
        have HOF := Lib.hid hof
        have HCN := Lib.hid hcn
        have HRN := Lib.hid hrn
        clear hof hcn hrn
        generalize hCI : countN ls i = ci at *
        generalize hRI : riseN ls i = ri at *
        go_wp2_with (go_at_call 8; refine I1.mono ?_; rintro e w5 ⟨v5, rfl, ho5, hx5⟩
                     obtain ⟨p5, c5, e5, hc51, hc52⟩ := (itm_view ho5).slice
                     subst e5)
        unfold maxLen at hc52
        have vl := itm_view ho5
        have vaw := va.ext (hx.trans hx5)
        clear m0 I1 ho5
        go_loopg [8, 9] (A.length) (fun k s8 s9 wi => ∃ kk : Nat, s8 = .int .i64 ((of_ (i : Int) (A.take kk)).length : Int) ∧ s9 = .int .i64 kk ∧ kk ≤ A.length ∧ k = A.length - kk ∧ Ext w5 wi)
        case atStart => exact ⟨0, rfl, rfl, Nat.zero_le _, rfl, Ext.refl _⟩
        case round =>
          obtain ⟨kk, rfl, rfl, hkk, hk2, hxi⟩ := hrel
          by_cases hka : kk < A.length
          case pos =>
            have hki : (kk : Int) < (A.length : Int) := by omega
            obtain ⟨ba, oa, rfl, ⟨a0, a1, a2, a3, a4, a5, a6, a7, a8⟩⟩ := itm_at (vaw.ext hxi) hka
            have hst := of_step (i : Int) A hka
            by_cases hz : A[kk].list = (i : Int)
            case pos =>
              obtain ⟨hnl, hle⟩ := once_at HOF.out hka hz
              rw [of_one _ _ hz] at hst
              have hst2 : (of_ (i : Int) (A.take (kk + 1))).length = (of_ (i : Int) (A.take kk)).length + 1 := by rw [hst, List.length_append]; rfl
              have HST := Lib.hid hst2
              generalize (of_ (i : Int) (A.take kk)).length = nn at *
              obtain ⟨bl, ol, rfl, hd⟩ := itm_at (vl.ext hxi) hnl
              rw [hle] at hd
              obtain ⟨d0, d1, d2, d3, d4, d5, d6, d7, d8⟩ := hd
              have Z1 := fun W => isame_any A[kk] A[kk] W
              rw [sameI_refl] at Z1
              generalize A[kk] = z at *
              have hzb : (z.list == (i : Int)) = true := by rw [beq_iff_eq]; exact hz
              have hnI : (nn : Int) < (L.length : Int) := by omega
              have hge : decide (L.length ≤ nn) = false := decide_eq_false (by omega)
              have hwn : IntKind.i64.wrap ((nn : Int) + 1) = ((nn + 1 : Nat) : Int) := by rw [IntKind.wrap_i64]; omega
              clear hst hst2 hle hz hka
              go_wp2_with fail
              apply wp_region_dag (X := Ext) (by kernel_rfl) (by kernel_rfl) (fun _ _ _ => Ext.trans) (Ext.drew1 _)
              apply dag_val Ext.refl rfl (by intro W hW H; go_simp <;> rfl)
              simp only [Act.put, List.setIfInBounds_toArray, List.set_cons_zero, List.set_cons_succ]
              apply dag_val Ext.refl rfl (by intro W hW H; go_simp <;> rfl)
              simp only [Act.put, List.setIfInBounds_toArray, List.set_cons_zero, List.set_cons_succ]
              apply dag_val Ext.refl rfl (by intro W hW H; go_simp <;> rfl)
              simp only [Act.put, List.setIfInBounds_toArray, List.set_cons_zero, List.set_cons_succ]
              apply dag_val Ext.refl rfl (by intro W hW H; go_simp <;> rfl)
              simp only [Act.put, List.setIfInBounds_toArray, List.set_cons_zero, List.set_cons_succ]
              apply dag_val Ext.refl rfl (by intro W hW H; go_simp <;> rfl)
              simp only [Act.put, List.setIfInBounds_toArray, List.set_cons_zero, List.set_cons_succ]
              apply dag_val Ext.refl rfl (by intro W hW H; go_simp <;> rfl)
              simp only [Act.put, List.setIfInBounds_toArray, List.set_cons_zero, List.set_cons_succ]
              apply dag_val Ext.refl rfl (by intro W hW H; go_simp <;> rfl)
              simp only [Act.put, List.setIfInBounds_toArray, List.set_cons_zero, List.set_cons_succ]
              apply dag_val Ext.refl rfl (by intro W hW H; go_simp <;> rfl)
              simp only [Act.put, List.setIfInBounds_toArray, List.set_cons_zero, List.set_cons_succ]
              apply dag_val Ext.refl rfl (by intro W hW H; have q0 := hW.cell a0; have q1 := hW.cell a1; have q2 := hW.cell a2; have q3 := hW.cell a3; have q4 := hW.cell a4; have q5 := hW.cell a5; have q6 := hW.cell a6; have q7 := hW.cell a7; have q8 := hW.cell a8; go_simp <;> rfl)
              simp only [Act.put, List.setIfInBounds_toArray, List.set_cons_zero, List.set_cons_succ]
              apply dag_val Ext.refl rfl (by intro W hW H; go_simp <;> rfl)
              simp only [Act.put, List.setIfInBounds_toArray, List.set_cons_zero, List.set_cons_succ]
              apply dag_val Ext.refl rfl (by intro W hW H; go_simp <;> rfl)
              simp only [Act.put, List.setIfInBounds_toArray, List.set_cons_zero, List.set_cons_succ]
              apply dag_val Ext.refl rfl (by intro W hW H; go_simp <;> rfl)
              simp only [Act.put, List.setIfInBounds_toArray, List.set_cons_zero, List.set_cons_succ]
              apply dag_val Ext.refl rfl (by intro W hW H; have q0 := hW.cell d0; have q1 := hW.cell d1; have q2 := hW.cell d2; have q3 := hW.cell d3; have q4 := hW.cell d4; have q5 := hW.cell d5; have q6 := hW.cell d6; have q7 := hW.cell d7; have q8 := hW.cell d8; go_simp <;> rfl)
              simp only [Act.put, List.setIfInBounds_toArray, List.set_cons_zero, List.set_cons_succ]
              refine' dag_call (c := .bool true) (f := 10) (args := #[itmv z, itmv z]) rfl (by intro W; go_simp <;> rfl) (fun W hW H => Z1 W) _
              rotate_left
              simp only [Act.put, List.setIfInBounds_toArray, List.set_cons_zero, List.set_cons_succ]
              apply dag_val Ext.refl rfl (by intro W hW H; go_simp <;> rfl)
              simp only [Act.put, List.setIfInBounds_toArray, List.set_cons_zero, List.set_cons_succ]
              apply dag_val Ext.refl rfl (by intro W hW H; go_simp <;> rfl)
              simp only [Act.put, List.setIfInBounds_toArray, List.set_cons_zero, List.set_cons_succ]
              refine dag_end fun W hW H => ?_
              clear H
              go_wp2_with fail
              go_roundg (A.length - (kk + 1))
              case measure => omega
              case rel => exact ⟨kk + 1, by rw [HST.out]; rfl, by go_num, by omega, rfl, hxi.trans hW⟩
            case neg =>
              have hst2 : (of_ (i : Int) (A.take (kk + 1))).length = (of_ (i : Int) (A.take kk)).length := by rw [hst, of_other _ _ hz, List.append_nil]
              have HST := Lib.hid hst2
              generalize (of_ (i : Int) (A.take kk)).length = nn at *
              generalize A[kk] = z at *
              have hzb : (z.list == (i : Int)) = false := beq_eq_false_iff_ne.2 hz
              clear hst hst2 hz hka
              go_wp2_with fail
              go_roundg (A.length - (kk + 1))
              case measure => omega
              case rel => exact ⟨kk + 1, by rw [HST.out], by go_num, by omega, rfl, hxi⟩
          case neg =>
            have hke : kk = A.length := by omega
            subst hke
            have hki : ¬ (A.length : Int) < (A.length : Int) := by omega
            have hn9 : (of_ (i : Int) (A.take A.length)).length = L.length := by rw [List.take_length, HOF.out]
            rw [hn9]
            have hll : ((L.length : Int) == (L.length : Int)) = true := by simp
            have hws : IntKind.i64.wrap ((ci : Int) + (L.length : Int)) = ((ci + L.length : Nat) : Int) := by rw [IntKind.wrap_i64]; omega
            have vl2 := vl.ext hxi
            obtain ⟨wq, hwq⟩ : ∃ wq, wq = wr := ⟨_, rfl⟩
            subst hwq
            clear hn9 hka
            go_wp2_with fail
            go_loopg [4, 10] (max 1 L.length - 1) (fun k s4 s10 wi => ∃ kk : Nat, s4 = .bool (ri && nearN L kk) ∧ s10 = .int .i64 kk ∧ 1 ≤ kk ∧ kk ≤ max 1 L.length ∧ k = max 1 L.length - kk ∧ Ext wq wi)
            case atStart => exact ⟨1, by simp [nearN], rfl, Nat.le_refl _, by omega, rfl, Ext.refl _⟩
            case round =>
              obtain ⟨kk, rfl, rfl, hk1, hk2', hk3, hxj⟩ := hrel
              obtain ⟨kp, rfl⟩ : ∃ kp, kk = kp + 1 := ⟨kk - 1, by omega⟩
              by_cases hkl : kp + 1 < L.length
              case pos =>
                have hki2 : ((kp + 1 : Nat) : Int) < (L.length : Int) := by omega
                have hkp : (kp : Int) < (L.length : Int) := by omega
                obtain ⟨bl, ol, rfl, hd⟩ := itm_at (vl2.ext hxj) hkl
                obtain ⟨_, _, e8, hd'⟩ := itm_at (vl2.ext hxj) (j := kp) (by omega)
                cases e8
                have t1 := hd'.c2
                have t2 := hd.c2
                have hnx : nearN L (kp + 1 + 1) = (nearN L (kp + 1) && decide (L[kp].time ≤ L[kp + 1].time)) := by
                  rw [← tmA_at (by omega), ← tmA_at hkl]
                  show (nearN L (kp + 1) && (kp + 1 == 0 || decide (tmA L (kp + 1 - 1) ≤ tmA L (kp + 1)))) = _
                  rfl
                have hw1 : IntKind.i64.wrap (kp : Int) = (kp : Int) := by rw [IntKind.wrap_i64]; omega
                generalize L[kp].time = u1 at *
                generalize L[kp + 1].time = u2 at *
                clear hd hd'
                cases hb : (ri && nearN L (kp + 1)) with
                | false =>
                  have hnx2 : (ri && nearN L (kp + 1 + 1)) = false := by rw [hnx, ← Bool.and_assoc, hb]; rfl
                  have HNX := Lib.hid hnx2
                  clear hnx hnx2 hb hkl
                  go_wp2_with fail
                  apply wp_region_dag (X := Ext) (by kernel_rfl) (by kernel_rfl) (fun _ _ _ => Ext.trans) (Ext.drew1 _)
                  apply dag_val Ext.refl rfl (by intro W hW H; go_simp <;> rfl)
                  simp only [Act.put, List.setIfInBounds_toArray, List.set_cons_zero, List.set_cons_succ]
                  apply dag_val Ext.refl rfl (by intro W hW H; go_simp <;> rfl)
                  simp only [Act.put, List.setIfInBounds_toArray, List.set_cons_zero, List.set_cons_succ]
                  apply dag_not Ext.refl rfl
                  simp only [Act.put, List.setIfInBounds_toArray, List.set_cons_zero, List.set_cons_succ]
                  apply dag_not Ext.refl rfl
                  simp only [Act.put, List.setIfInBounds_toArray, List.set_cons_zero, List.set_cons_succ]
                  apply dag_not Ext.refl rfl
                  simp only [Act.put, List.setIfInBounds_toArray, List.set_cons_zero, List.set_cons_succ]
                  apply dag_not Ext.refl rfl
                  simp only [Act.put, List.setIfInBounds_toArray, List.set_cons_zero, List.set_cons_succ]
                  apply dag_not Ext.refl rfl
                  simp only [Act.put, List.setIfInBounds_toArray, List.set_cons_zero, List.set_cons_succ]
                  apply dag_not Ext.refl rfl
                  simp only [Act.put, List.setIfInBounds_toArray, List.set_cons_zero, List.set_cons_succ]
                  apply dag_not Ext.refl rfl
                  simp only [Act.put, List.setIfInBounds_toArray, List.set_cons_zero, List.set_cons_succ]
                  apply dag_not Ext.refl rfl
                  simp only [Act.put, List.setIfInBounds_toArray, List.set_cons_zero, List.set_cons_succ]
                  apply dag_not Ext.refl rfl
                  simp only [Act.put, List.setIfInBounds_toArray, List.set_cons_zero, List.set_cons_succ]
                  apply dag_not Ext.refl rfl
                  simp only [Act.put, List.setIfInBounds_toArray, List.set_cons_zero, List.set_cons_succ]
                  apply dag_not Ext.refl rfl
                  simp only [Act.put, List.setIfInBounds_toArray, List.set_cons_zero, List.set_cons_succ]
                  apply dag_not Ext.refl rfl
                  simp only [Act.put, List.setIfInBounds_toArray, List.set_cons_zero, List.set_cons_succ]
                  apply dag_val Ext.refl rfl (by intro W hW H; go_simp <;> rfl)
                  simp only [Act.put, List.setIfInBounds_toArray, List.set_cons_zero, List.set_cons_succ]
                  apply dag_val Ext.refl rfl (by intro W hW H; go_simp <;> rfl)
                  simp only [Act.put, List.setIfInBounds_toArray, List.set_cons_zero, List.set_cons_succ]
                  refine dag_end fun W hW H => ?_
                  clear H
                  go_wp2_with fail
                  go_roundg (max 1 L.length - (kp + 1 + 1))
                  case measure => omega
                  case rel => exact ⟨kp + 1 + 1, by rw [HNX.out], by go_num, by omega, by omega, rfl, hxj.trans hW⟩
                | true =>
                  have hnx2 : (ri && nearN L (kp + 1 + 1)) = decide (u1 ≤ u2) := by rw [hnx, ← Bool.and_assoc, hb]; rfl
                  have HNX := Lib.hid hnx2
                  clear hnx hnx2 hb hkl
                  go_wp2_with fail
                  apply wp_region_dag (X := Ext) (by kernel_rfl) (by kernel_rfl) (fun _ _ _ => Ext.trans) (Ext.drew1 _)
                  apply dag_val Ext.refl rfl (by intro W hW H; go_simp <;> rfl)
                  simp only [Act.put, List.setIfInBounds_toArray, List.set_cons_zero, List.set_cons_succ]
                  apply dag_val Ext.refl rfl (by intro W hW H; go_simp <;> rfl)
                  simp only [Act.put, List.setIfInBounds_toArray, List.set_cons_zero, List.set_cons_succ]
                  apply dag_val Ext.refl rfl (by intro W hW H; go_simp <;> rfl)
                  simp only [Act.put, List.setIfInBounds_toArray, List.set_cons_zero, List.set_cons_succ]
                  apply dag_val Ext.refl rfl (by intro W hW H; go_simp <;> rfl)
                  simp only [Act.put, List.setIfInBounds_toArray, List.set_cons_zero, List.set_cons_succ]
                  apply dag_val Ext.refl rfl (by intro W hW H; go_simp <;> rfl)
                  simp only [Act.put, List.setIfInBounds_toArray, List.set_cons_zero, List.set_cons_succ]
                  apply dag_val Ext.refl rfl (by intro W hW H; go_simp <;> rfl)
                  simp only [Act.put, List.setIfInBounds_toArray, List.set_cons_zero, List.set_cons_succ]
                  apply dag_val Ext.refl rfl (by intro W hW H; go_simp <;> rfl)
                  simp only [Act.put, List.setIfInBounds_toArray, List.set_cons_zero, List.set_cons_succ]
                  apply dag_val Ext.refl rfl (by intro W hW H; have q0 := hW.cell t1; go_simp <;> rfl)
                  simp only [Act.put, List.setIfInBounds_toArray, List.set_cons_zero, List.set_cons_succ]
                  apply dag_val Ext.refl rfl (by intro W hW H; go_simp <;> rfl)
                  simp only [Act.put, List.setIfInBounds_toArray, List.set_cons_zero, List.set_cons_succ]
                  apply dag_val Ext.refl rfl (by intro W hW H; go_simp <;> rfl)
                  simp only [Act.put, List.setIfInBounds_toArray, List.set_cons_zero, List.set_cons_succ]
                  apply dag_val Ext.refl rfl (by intro W hW H; go_simp <;> rfl)
                  simp only [Act.put, List.setIfInBounds_toArray, List.set_cons_zero, List.set_cons_succ]
                  apply dag_val Ext.refl rfl (by intro W hW H; go_simp <;> rfl)
                  simp only [Act.put, List.setIfInBounds_toArray, List.set_cons_zero, List.set_cons_succ]
                  apply dag_val Ext.refl rfl (by intro W hW H; have q0 := hW.cell t2; go_simp <;> rfl)
                  simp only [Act.put, List.setIfInBounds_toArray, List.set_cons_zero, List.set_cons_succ]
                  apply dag_val Ext.refl rfl (by intro W hW H; go_simp <;> rfl)
                  simp only [Act.put, List.setIfInBounds_toArray, List.set_cons_zero, List.set_cons_succ]
                  apply dag_val Ext.refl rfl (by intro W hW H; go_simp <;> rfl)
                  simp only [Act.put, List.setIfInBounds_toArray, List.set_cons_zero, List.set_cons_succ]
                  apply dag_val Ext.refl rfl (by intro W hW H; go_simp <;> rfl)
                  simp only [Act.put, List.setIfInBounds_toArray, List.set_cons_zero, List.set_cons_succ]
                  refine dag_end fun W hW H => ?_
                  clear H
                  go_wp2_with fail
                  go_roundg (max 1 L.length - (kp + 1 + 1))
                  case measure => omega
                  case rel => exact ⟨kp + 1 + 1, by rw [HNX.out], by go_num, by omega, by omega, rfl, hxj.trans hW⟩
              case neg =>
                have hki2 : ¬ ((kp + 1 : Nat) : Int) < (L.length : Int) := by omega
                have hke : kp + 1 = max 1 L.length := by omega
                have hfin : (ri && nearN L (kp + 1)) = riseN ls (i + 1) := by rw [HRN.out, hke]
                have HFIN := Lib.hid hfin
                clear hfin hke hkl
                go_wp2_with fail
                go_roundg (ls.length - (i + 1))
                case measure => omega
                case rel => exact ⟨i + 1, by rw [← HFIN.out], by rw [HCN.out]; rfl, by go_num, hil, rfl, ((hx.trans hx5).trans hxi).trans hxj⟩
      case neg =>
        have hie : i = ls.length := by omega
        subst hie
        have hi : ¬ (ls.length : Int) < (ls.length : Int) := by omega
        have heq : ((countN ls ls.length : Int) == (A.length : Int)) = true := by rw [← HAL.out]; simp
        have va2 := va.ext hx
        cases hR : riseN ls ls.length with
        | false =>
          clear hil
          go_wp2_with fail
          go_loopg [11] (1) (fun k s11 wi => s11 = .int .i64 1 ∧ k = 1 ∧ Ext wo wi)
          case atStart => exact ⟨rfl, rfl, Ext.refl _⟩
          case round =>
            obtain ⟨rfl, hk3, hxj⟩ := hrel
            by_cases h1 : (1 : Int) < (A.length : Int)
            · go_wp2_with (go_at_call 7; refine (awake_any _).mono ?_; rintro e w9 ⟨rfl, hx9⟩)
              go_ret
              exact ⟨rfl, ((hx3a.trans hx).trans hxj).trans hx9⟩
            · go_wp2_with (go_at_call 7; refine (awake_any _).mono ?_; rintro e w9 ⟨rfl, hx9⟩)
              go_ret
              exact ⟨rfl, ((hx3a.trans hx).trans hxj).trans hx9⟩
        | true =>
          have hr := HAR.out hR
          have HRA := Lib.hid hr
          clear hil hr hR
          go_wp2_with fail
          go_loopg [11] (max 1 A.length - 1) (fun k s11 wi => ∃ kk : Nat, s11 = .int .i64 kk ∧ 1 ≤ kk ∧ kk ≤ max 1 A.length ∧ k = max 1 A.length - kk ∧ Ext wo wi)
          case atStart => exact ⟨1, rfl, Nat.le_refl _, by omega, rfl, Ext.refl _⟩
          case round =>
            obtain ⟨kk, rfl, hk1, hk2', hk3, hxj⟩ := hrel
            obtain ⟨kp, rfl⟩ : ∃ kp, kk = kp + 1 := ⟨kk - 1, by omega⟩
            by_cases hkl : kp + 1 < A.length
            case pos =>
              have hki2 : ((kp + 1 : Nat) : Int) < (A.length : Int) := by omega
              have hkp : (kp : Int) < (A.length : Int) := by omega
              obtain ⟨bl, ol, rfl, hd⟩ := itm_at (va2.ext hxj) hkl
              obtain ⟨_, _, e8, hd'⟩ := itm_at (va2.ext hxj) (j := kp) (by omega)
              cases e8
              have t1 := hd'.c2
              have t2 := hd.c2
              have hle : A[kp].time ≤ A[kp + 1].time := near_rise HRA.out (k := kp + 1) (by omega) hkl
              have hw1 : IntKind.i64.wrap (kp : Int) = (kp : Int) := by rw [IntKind.wrap_i64]; omega
              generalize A[kp].time = u1 at *
              generalize A[kp + 1].time = u2 at *
              have hgt : ¬ u2 < u1 := by omega
              clear hd hd' hkl
              go_wp2_with fail
              apply wp_region_dag (X := Ext) (by kernel_rfl) (by kernel_rfl) (fun _ _ _ => Ext.trans) (Ext.drew1 _)
              apply dag_val Ext.refl rfl (by intro W hW H; go_simp <;> rfl)
              simp only [Act.put, List.setIfInBounds_toArray, List.set_cons_zero, List.set_cons_succ]
              apply dag_val Ext.refl rfl (by intro W hW H; go_simp <;> rfl)
              simp only [Act.put, List.setIfInBounds_toArray, List.set_cons_zero, List.set_cons_succ]
              apply dag_val Ext.refl rfl (by intro W hW H; go_simp <;> rfl)
              simp only [Act.put, List.setIfInBounds_toArray, List.set_cons_zero, List.set_cons_succ]
              apply dag_val Ext.refl rfl (by intro W hW H; go_simp <;> rfl)
              simp only [Act.put, List.setIfInBounds_toArray, List.set_cons_zero, List.set_cons_succ]
              apply dag_val Ext.refl rfl (by intro W hW H; go_simp <;> rfl)
              simp only [Act.put, List.setIfInBounds_toArray, List.set_cons_zero, List.set_cons_succ]
              apply dag_val Ext.refl rfl (by intro W hW H; have q0 := hW.cell t1; go_simp <;> rfl)
              simp only [Act.put, List.setIfInBounds_toArray, List.set_cons_zero, List.set_cons_succ]
              apply dag_val Ext.refl rfl (by intro W hW H; go_simp <;> rfl)
              simp only [Act.put, List.setIfInBounds_toArray, List.set_cons_zero, List.set_cons_succ]
              apply dag_val Ext.refl rfl (by intro W hW H; go_simp <;> rfl)
              simp only [Act.put, List.setIfInBounds_toArray, List.set_cons_zero, List.set_cons_succ]
              apply dag_val Ext.refl rfl (by intro W hW H; go_simp <;> rfl)
              simp only [Act.put, List.setIfInBounds_toArray, List.set_cons_zero, List.set_cons_succ]
              apply dag_val Ext.refl rfl (by intro W hW H; go_simp <;> rfl)
              simp only [Act.put, List.setIfInBounds_toArray, List.set_cons_zero, List.set_cons_succ]
              apply dag_val Ext.refl rfl (by intro W hW H; have q0 := hW.cell t2; go_simp <;> rfl)
              simp only [Act.put, List.setIfInBounds_toArray, List.set_cons_zero, List.set_cons_succ]
              apply dag_val Ext.refl rfl (by intro W hW H; go_simp <;> rfl)
              simp only [Act.put, List.setIfInBounds_toArray, List.set_cons_zero, List.set_cons_succ]
              refine dag_end fun W hW H => ?_
              clear H
              go_wp2_with fail
              go_roundg (max 1 A.length - (kp + 1 + 1))
              case measure => omega
              case rel => exact ⟨kp + 1 + 1, by go_num, by omega, by omega, rfl, hxj.trans hW⟩
            case neg =>
              have hki2 : ¬ ((kp + 1 : Nat) : Int) < (A.length : Int) := by omega
              clear hkl
              go_wp2_with (go_at_call 7; refine (awake_any _).mono ?_; rintro e w9 ⟨rfl, hx9⟩)
              go_ret
              exact ⟨rfl, ((hx3a.trans hx).trans hxj).trans hx9⟩
end Go.Proofs.Ytmoljicchgcnfaa
