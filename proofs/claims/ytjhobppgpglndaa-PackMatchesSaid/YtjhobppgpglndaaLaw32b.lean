/- The statements of layer 32: PackMatches: the walk of the law. -/
import Derived.Test.YtjhobppgpglndaaLaw32
namespace Go.Proofs.Ytjhobppgpglndaa
open Go.RowKit

theorem BV.at {w : World} {p : Option Addr} {n c : Nat} {l : List UInt8} (h : BV w (.slice p n c) l) {j : Nat} (hj : j < l.length) : ∃ b o, p = some ⟨b, o, none⟩ ∧ w.cell? ⟨b, o + j, none⟩ = some (bv l[j]) := by
  obtain ⟨p', c', e, _, _, hs⟩ := h
  cases e
  exact hs.at (bs_get l hj)

set_option maxHeartbeats 2000000 in
set_option maxRecDepth 20000 in
theorem packMatches_walk (v : Value) (l : List UInt8) (m1 m2 : Nat) (w : World) (h : BV w v l) (hm1 : m1 < 65536) (hm2 : m2 < 65536) :
    Calls Try.prog 4 #[v, .int .u16 m1, .int .u16 m2] w fun e w' => e = .returned (.bool true) ∧ Ext w w' := by
  obtain ⟨p1, c1, rfl, hlc, hc1, _⟩ := id h
  by_cases hl : 400 < l.length
  · go_enter Try.func4, Try.ntmps4
    go_wp2_with (go_at_call 7; refine (awake_any _).mono ?_; rintro e w1 ⟨rfl, hx1⟩)
    go_ret
    exact ⟨rfl, hx1⟩
  by_cases h0 : l.length = 0
  · have hz : ((l.length : Int) == 0) = true := by rw [h0]; rfl
    clear h0
    go_enter Try.func4, Try.ntmps4
    go_wp2_with (go_at_call 7; refine (awake_any _).mono ?_; rintro e w1 ⟨rfl, hx1⟩)
    go_ret
    exact ⟨rfl, hx1⟩
  have hz : ((l.length : Int) == 0) = false := by rw [beq_eq_false_iff_ne]; omega
  obtain ⟨i, hi, hi2, hil⟩ : ∃ i : Nat, (m1 : Int) % (l.length : Int) = (i : Int) ∧ (m1 : Int).tmod (l.length : Int) = (i : Int) ∧ i < l.length :=
    ⟨m1 % l.length, (Int.natCast_emod m1 l.length).symm, by rw [Int.tmod_eq_emod_of_nonneg (by omega)]; exact (Int.natCast_emod m1 l.length).symm, Nat.mod_lt _ (by omega)⟩
  have hw1 : IntKind.i64.wrap (m1 : Int) = m1 := by rw [IntKind.wrap_i64]; omega
  have hw2 : IntKind.i64.wrap (m2 : Int) = m2 := by rw [IntKind.wrap_i64]; omega
  have hw3 : IntKind.i64.wrap (i : Int) = i := by rw [IntKind.wrap_i64]; omega
  have M1 := match_any (.slice p1 l.length c1) l i w h hil
  have hmi := matchB_is l i
  have hmo := matchB_most l i
  generalize matchB l i = mm at *
  obtain ⟨n, d⟩ := mm
  rcases hmi with hm0 | ⟨_, a1, a2, a3, a4, a5, a6, a7⟩
  · cases hm0
    go_enter Try.func4, Try.ntmps4
    go_wp2_with (first
      | (go_at_call 8; refine M1.mono ?_; rintro e w1 ⟨rfl, hx1⟩)
      | (go_at_call 7; refine (awake_any _).mono ?_; rintro e w2 ⟨rfl, hx2⟩))
    go_ret
    exact ⟨rfl, hx1.trans hx2⟩
  dsimp only at M1 hmo a1 a2 a3 a4 a5 a6 a7
  have hn0 : ((n : Int) == 0) = false := by rw [beq_eq_false_iff_ne]; omega
  have hw4 : IntKind.i64.wrap ((i : Int) + (n : Int)) = (i : Int) + (n : Int) := by rw [IntKind.wrap_i64]; omega
  go_enter Try.func4, Try.ntmps4
  go_wp2_with (go_at_call 8; refine M1.mono ?_; rintro e w1 ⟨rfl, hx1⟩)
  go_loopg [10] n (fun k s10 wr => ∃ j : Nat, s10 = .int .i64 j ∧ j ≤ n ∧ k = n - j ∧ Ext w wr)
  case atStart => exact ⟨0, rfl, by omega, rfl, hx1⟩
  case round =>
    obtain ⟨j, rfl, hj, hk, hx⟩ := hrel
    by_cases hjn : j < n
    case pos =>
      obtain ⟨b, o, rfl, hc1⟩ := h.at (j := i + j) (by omega)
      obtain ⟨b', o', e, hc2⟩ := h.at (j := i - d + j) (by omega)
      cases e
      have he : l[i - d + j]'(by omega) = l[i + j]'(by omega) := by
        have := a7 j hjn
        rw [List.getElem?_eq_getElem (by omega), List.getElem?_eq_getElem (by omega)] at this
        exact Option.some.inj this
      rw [he] at hc2
      generalize l[i + j]'(by omega) = x at *
      obtain ⟨i1, hi1, e1⟩ : ∃ i1 : Nat, i1 = i + j ∧ (i : Int) + (j : Int) = (i1 : Int) := ⟨_, rfl, by omega⟩
      obtain ⟨i2, hi3, e2⟩ : ∃ i2 : Nat, i2 = i - d + j ∧ (i1 : Int) - (d : Int) = (i2 : Int) := ⟨_, rfl, by omega⟩
      rw [← hi1] at hc1
      rw [← hi3] at hc2
      have ew1 : IntKind.i64.wrap (i1 : Int) = i1 := by rw [IntKind.wrap_i64]; omega
      have ew2 : IntKind.i64.wrap (i2 : Int) = i2 := by rw [IntKind.wrap_i64]; omega
      have hb1 : i1 < l.length := by omega
      have hb2 : i2 < l.length := by omega
      clear hi1 hi3 he hmo a7 M1
      go_wp2_with fail
      apply wp_region_dag (X := Ext) (by kernel_rfl) (by kernel_rfl) (fun _ _ _ => Ext.trans) (Ext.drew1 _)
      apply dag_val Ext.refl rfl (by intro W hW H; go_simp <;> rfl)
      simp only [Act.put, List.setIfInBounds_toArray, List.set_cons_zero, List.set_cons_succ]
      apply dag_val Ext.refl rfl (by intro W hW H; go_simp <;> rfl)
      simp only [Act.put, List.setIfInBounds_toArray, List.set_cons_zero, List.set_cons_succ]
      apply dag_val Ext.refl rfl (by intro W hW H; go_simp <;> rfl)
      simp only [Act.put, List.setIfInBounds_toArray, List.set_cons_zero, List.set_cons_succ]
      apply dag_val Ext.refl rfl (by intro W hW H; go_simp <;> rfl)
      simp only [Act.put, List.setIfInBounds_toArray, List.set_cons_zero, List.set_cons_succ]
      apply dag_val Ext.refl rfl (by intro W hW H; have hi : (i1 : Int) < (l.length : Int) := (by omega); go_simp <;> rfl)
      simp only [Act.put, List.setIfInBounds_toArray, List.set_cons_zero, List.set_cons_succ]
      apply dag_val Ext.refl rfl (by intro W hW H; have hq := (hx.trans hW).cell hc1; go_simp <;> rfl)
      simp only [Act.put, List.setIfInBounds_toArray, List.set_cons_zero, List.set_cons_succ]
      apply dag_val Ext.refl rfl (by intro W hW H; go_simp <;> rfl)
      simp only [Act.put, List.setIfInBounds_toArray, List.set_cons_zero, List.set_cons_succ]
      apply dag_val Ext.refl rfl (by intro W hW H; go_simp <;> rfl)
      simp only [Act.put, List.setIfInBounds_toArray, List.set_cons_zero, List.set_cons_succ]
      apply dag_val Ext.refl rfl (by intro W hW H; go_simp <;> rfl)
      simp only [Act.put, List.setIfInBounds_toArray, List.set_cons_zero, List.set_cons_succ]
      apply dag_val Ext.refl rfl (by intro W hW H; go_simp <;> rfl)
      simp only [Act.put, List.setIfInBounds_toArray, List.set_cons_zero, List.set_cons_succ]
      apply dag_val Ext.refl rfl (by intro W hW H; go_simp <;> rfl)
      simp only [Act.put, List.setIfInBounds_toArray, List.set_cons_zero, List.set_cons_succ]
      apply dag_val Ext.refl rfl (by intro W hW H; go_simp <;> rfl)
      simp only [Act.put, List.setIfInBounds_toArray, List.set_cons_zero, List.set_cons_succ]
      apply dag_val Ext.refl rfl (by intro W hW H; have hi : (i2 : Int) < (l.length : Int) := (by omega); go_simp <;> rfl)
      simp only [Act.put, List.setIfInBounds_toArray, List.set_cons_zero, List.set_cons_succ]
      apply dag_val Ext.refl rfl (by intro W hW H; have hq := (hx.trans hW).cell hc2; go_simp <;> rfl)
      simp only [Act.put, List.setIfInBounds_toArray, List.set_cons_zero, List.set_cons_succ]
      apply dag_val Ext.refl rfl (by intro W hW H; go_simp <;> rfl)
      simp only [Act.put, List.setIfInBounds_toArray, List.set_cons_zero, List.set_cons_succ]
      refine dag_end fun W hW H => ?_
      go_wp2_with fail
      go_roundg (n - (j + 1))
      case measure => omega
      case rel => exact ⟨j + 1, by go_num, hjn, rfl, hx.trans hW⟩
    case neg =>
      obtain rfl : j = n := by omega
      obtain ⟨r, hr, hr2, hri⟩ : ∃ r : Nat, (m2 : Int) % (i : Int) = (r : Int) ∧ (m2 : Int).tmod (i : Int) = (r : Int) ∧ r < i :=
        ⟨m2 % i, (Int.natCast_emod m2 i).symm, by rw [Int.tmod_eq_emod_of_nonneg (by omega)]; exact (Int.natCast_emod m2 i).symm, Nat.mod_lt _ (by omega)⟩
      obtain ⟨far, hf, ef⟩ : ∃ far : Nat, far = 1 + r ∧ (1 : Int) + (r : Int) = (far : Int) := ⟨_, rfl, by omega⟩
      have hw5 : IntKind.i64.wrap (r : Int) = r := by rw [IntKind.wrap_i64]; omega
      have hw6 : IntKind.i64.wrap (far : Int) = far := by rw [IntKind.wrap_i64]; omega
      have hi0 : ((i : Int) == 0) = false := by rw [beq_eq_false_iff_ne]; omega
      have hf1 : 1 ≤ far := by omega
      have hfi : far ≤ i := by omega
      clear hf a7 M1 hjn
      by_cases hs1 : j = 131
      · have hq1 : ((j : Int) == 131) = true := by rw [hs1]; rfl
        clear hs1 hmo
        go_wp2_with (go_at_call 7; refine (awake_any _).mono ?_; rintro e w2 ⟨rfl, hx2⟩)
        go_ret
        exact ⟨rfl, hx.trans hx2⟩
      have hq1 : ((j : Int) == 131) = false := by rw [beq_eq_false_iff_ne]; omega
      by_cases hs2 : l.length ≤ i + j
      · have hq2 : (l.length : Int) ≤ (i : Int) + (j : Int) := by omega
        clear hmo
        go_wp2_with (go_at_call 7; refine (awake_any _).mono ?_; rintro e w2 ⟨rfl, hx2⟩)
        go_ret
        exact ⟨rfl, hx.trans hx2⟩
      have hq2 : ¬ (l.length : Int) ≤ (i : Int) + (j : Int) := by omega
      have hs3 : ¬ 1024 < far := by omega
      have hno := hmo far hf1 hfi (by omega) (by omega) (by omega) (by omega)
      have HNO := Lib.hid hno
      clear hmo hno
      go_wp2_with fail
      go_loopg [12] (j + 1) (fun k s12 wq => ∃ t : Nat, s12 = .int .i64 t ∧ t ≤ j + 1 ∧ k = j + 1 - t ∧ Ext w wq ∧ ∀ u, u < t → l[i - far + u]? = l[i + u]?)
      case atStart => exact ⟨0, rfl, by omega, rfl, hx, fun u hu => by omega⟩
      case round =>
        obtain ⟨t, rfl, ht, hkt, hxq, hsame⟩ := hrel
        by_cases htj : t ≤ j
        case neg => exact (HNO.out fun u hu => hsame u (by omega)).elim
        case pos =>
          obtain ⟨b, o, rfl, hc1⟩ := h.at (j := i + t) (by omega)
          obtain ⟨b', o', e, hc2⟩ := h.at (j := i - far + t) (by omega)
          cases e
          have hnext : l[i - far + t]'(by omega) = l[i + t]'(by omega) → ∀ u, u < t + 1 → l[i - far + u]? = l[i + u]? := by
            intro e u hu
            by_cases hut : u = t
            · subst hut; rw [List.getElem?_eq_getElem (by omega), List.getElem?_eq_getElem (by omega), e]
            · exact hsame u (by omega)
          generalize l[i + t]'(by omega) = x at *
          generalize l[i - far + t]'(by omega) = y at *
          obtain ⟨i1, hi1, e1⟩ : ∃ i1 : Nat, i1 = i + t ∧ (i : Int) + (t : Int) = (i1 : Int) := ⟨_, rfl, by omega⟩
          obtain ⟨i2, hi3, e2⟩ : ∃ i2 : Nat, i2 = i - far + t ∧ (i1 : Int) - (far : Int) = (i2 : Int) := ⟨_, rfl, by omega⟩
          rw [← hi1] at hc1
          rw [← hi3] at hc2
          have ew1 : IntKind.i64.wrap (i1 : Int) = i1 := by rw [IntKind.wrap_i64]; omega
          have ew2 : IntKind.i64.wrap (i2 : Int) = i2 := by rw [IntKind.wrap_i64]; omega
          have hb1 : i1 < l.length := by omega
          have hb2 : i2 < l.length := by omega
          clear hi1 hi3 hsame
          by_cases hxy : y = x
          · have HX := Lib.hid (hnext hxy)
            have hne : ((x.toNat : Int) != (y.toNat : Int)) = false := by simp [hxy]
            clear hnext hxy
            go_wp2_with fail
            apply wp_region_dag (X := Ext) (by kernel_rfl) (by kernel_rfl) (fun _ _ _ => Ext.trans) (Ext.drew1 _)
            apply dag_val Ext.refl rfl (by intro W hW H; go_simp <;> rfl)
            simp only [Act.put, List.setIfInBounds_toArray, List.set_cons_zero, List.set_cons_succ]
            apply dag_val Ext.refl rfl (by intro W hW H; go_simp <;> rfl)
            simp only [Act.put, List.setIfInBounds_toArray, List.set_cons_zero, List.set_cons_succ]
            apply dag_val Ext.refl rfl (by intro W hW H; go_simp <;> rfl)
            simp only [Act.put, List.setIfInBounds_toArray, List.set_cons_zero, List.set_cons_succ]
            apply dag_val Ext.refl rfl (by intro W hW H; go_simp <;> rfl)
            simp only [Act.put, List.setIfInBounds_toArray, List.set_cons_zero, List.set_cons_succ]
            apply dag_val Ext.refl rfl (by intro W hW H; have hi : (i1 : Int) < (l.length : Int) := (by omega); go_simp <;> rfl)
            simp only [Act.put, List.setIfInBounds_toArray, List.set_cons_zero, List.set_cons_succ]
            apply dag_val Ext.refl rfl (by intro W hW H; have hq := (hxq.trans hW).cell hc1; go_simp <;> rfl)
            simp only [Act.put, List.setIfInBounds_toArray, List.set_cons_zero, List.set_cons_succ]
            apply dag_val Ext.refl rfl (by intro W hW H; go_simp <;> rfl)
            simp only [Act.put, List.setIfInBounds_toArray, List.set_cons_zero, List.set_cons_succ]
            apply dag_val Ext.refl rfl (by intro W hW H; go_simp <;> rfl)
            simp only [Act.put, List.setIfInBounds_toArray, List.set_cons_zero, List.set_cons_succ]
            apply dag_val Ext.refl rfl (by intro W hW H; go_simp <;> rfl)
            simp only [Act.put, List.setIfInBounds_toArray, List.set_cons_zero, List.set_cons_succ]
            apply dag_val Ext.refl rfl (by intro W hW H; go_simp <;> rfl)
            simp only [Act.put, List.setIfInBounds_toArray, List.set_cons_zero, List.set_cons_succ]
            apply dag_val Ext.refl rfl (by intro W hW H; go_simp <;> rfl)
            simp only [Act.put, List.setIfInBounds_toArray, List.set_cons_zero, List.set_cons_succ]
            apply dag_val Ext.refl rfl (by intro W hW H; go_simp <;> rfl)
            simp only [Act.put, List.setIfInBounds_toArray, List.set_cons_zero, List.set_cons_succ]
            apply dag_val Ext.refl rfl (by intro W hW H; have hi : (i2 : Int) < (l.length : Int) := (by omega); go_simp <;> rfl)
            simp only [Act.put, List.setIfInBounds_toArray, List.set_cons_zero, List.set_cons_succ]
            apply dag_val Ext.refl rfl (by intro W hW H; have hq := (hxq.trans hW).cell hc2; go_simp <;> rfl)
            simp only [Act.put, List.setIfInBounds_toArray, List.set_cons_zero, List.set_cons_succ]
            apply dag_val Ext.refl rfl (by intro W hW H; go_simp <;> rfl)
            simp only [Act.put, List.setIfInBounds_toArray, List.set_cons_zero, List.set_cons_succ]
            refine dag_end fun W hW H => ?_
            go_wp2_with fail
            go_roundg (j + 1 - (t + 1))
            case measure => omega
            case rel => exact ⟨t + 1, by go_num, by omega, rfl, hxq.trans hW, HX.out⟩
          · have hne : ((x.toNat : Int) != (y.toNat : Int)) = true := by
              rw [bne_iff_ne]; intro e; exact hxy (UInt8.toNat_inj.1 (by omega))
            clear hnext hxy
            go_wp2_with fail
            apply wp_region_dag (X := Ext) (by kernel_rfl) (by kernel_rfl) (fun _ _ _ => Ext.trans) (Ext.drew1 _)
            apply dag_val Ext.refl rfl (by intro W hW H; go_simp <;> rfl)
            simp only [Act.put, List.setIfInBounds_toArray, List.set_cons_zero, List.set_cons_succ]
            apply dag_val Ext.refl rfl (by intro W hW H; go_simp <;> rfl)
            simp only [Act.put, List.setIfInBounds_toArray, List.set_cons_zero, List.set_cons_succ]
            apply dag_val Ext.refl rfl (by intro W hW H; go_simp <;> rfl)
            simp only [Act.put, List.setIfInBounds_toArray, List.set_cons_zero, List.set_cons_succ]
            apply dag_val Ext.refl rfl (by intro W hW H; go_simp <;> rfl)
            simp only [Act.put, List.setIfInBounds_toArray, List.set_cons_zero, List.set_cons_succ]
            apply dag_val Ext.refl rfl (by intro W hW H; have hi : (i1 : Int) < (l.length : Int) := (by omega); go_simp <;> rfl)
            simp only [Act.put, List.setIfInBounds_toArray, List.set_cons_zero, List.set_cons_succ]
            apply dag_val Ext.refl rfl (by intro W hW H; have hq := (hxq.trans hW).cell hc1; go_simp <;> rfl)
            simp only [Act.put, List.setIfInBounds_toArray, List.set_cons_zero, List.set_cons_succ]
            apply dag_val Ext.refl rfl (by intro W hW H; go_simp <;> rfl)
            simp only [Act.put, List.setIfInBounds_toArray, List.set_cons_zero, List.set_cons_succ]
            apply dag_val Ext.refl rfl (by intro W hW H; go_simp <;> rfl)
            simp only [Act.put, List.setIfInBounds_toArray, List.set_cons_zero, List.set_cons_succ]
            apply dag_val Ext.refl rfl (by intro W hW H; go_simp <;> rfl)
            simp only [Act.put, List.setIfInBounds_toArray, List.set_cons_zero, List.set_cons_succ]
            apply dag_val Ext.refl rfl (by intro W hW H; go_simp <;> rfl)
            simp only [Act.put, List.setIfInBounds_toArray, List.set_cons_zero, List.set_cons_succ]
            apply dag_val Ext.refl rfl (by intro W hW H; go_simp <;> rfl)
            simp only [Act.put, List.setIfInBounds_toArray, List.set_cons_zero, List.set_cons_succ]
            apply dag_val Ext.refl rfl (by intro W hW H; go_simp <;> rfl)
            simp only [Act.put, List.setIfInBounds_toArray, List.set_cons_zero, List.set_cons_succ]
            apply dag_val Ext.refl rfl (by intro W hW H; have hi : (i2 : Int) < (l.length : Int) := (by omega); go_simp <;> rfl)
            simp only [Act.put, List.setIfInBounds_toArray, List.set_cons_zero, List.set_cons_succ]
            apply dag_val Ext.refl rfl (by intro W hW H; have hq := (hxq.trans hW).cell hc2; go_simp <;> rfl)
            simp only [Act.put, List.setIfInBounds_toArray, List.set_cons_zero, List.set_cons_succ]
            apply dag_val Ext.refl rfl (by intro W hW H; go_simp <;> rfl)
            simp only [Act.put, List.setIfInBounds_toArray, List.set_cons_zero, List.set_cons_succ]
            refine dag_end fun W hW H => ?_
            go_wp2_with (go_at_call 7; refine (awake_any _).mono ?_; rintro e w2 ⟨rfl, hx2⟩)
            go_ret
            exact ⟨rfl, (hxq.trans hW).trans hx2⟩
end Go.Proofs.Ytjhobppgpglndaa
