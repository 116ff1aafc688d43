/- What the functions of layer 7 compute that compare and copy: bytes.Equal, Same, SameAll, as, sameBlocks. -/
import Derived.Test.YtlbeemjcndhenaaFrS
namespace Go.Proofs.Ytlbeemjcndhenaa
open Go.RowKit

set_option maxHeartbeats 1000000 in
theorem bequal_any (v1 : Value) (l1 : List UInt8) (v2 : Value) (l2 : List UInt8) (w : World) (h1 : BV w v1 l1) (h2 : BV w v2 l2) :
    Calls Try.prog 36 #[v1, v2] w fun e w' => e = .returned (.bool (l1 == l2)) ∧ Ext w w' := by
  go_enter Try.func36, Try.ntmps36
  go_wp2_with (first
    | ((with_reducible show wpList _ _ _ (Oper.mk _ (Op.convert _ _ _) _ _ _ _ :: _) _ _); refine st_string T.bytes T.u8 T.str h1 ?_)
    | ((with_reducible show wpList _ _ _ (Oper.mk _ (Op.convert _ _ _) _ _ _ _ :: _) _ _); refine st_string T.bytes T.u8 T.str h2 ?_))
  go_ret
  exact ⟨rfl, Ext.refl _⟩

set_option maxHeartbeats 1000000 in
theorem sameBlocks_any (v1 : Value) (xs : List (List UInt8)) (v2 : Value) (ys : List (List UInt8)) (w : World) (h1 : LV w v1 xs) (h2 : LV w v2 ys) (hb : xs.length ≤ 100000) :
    Calls Try.prog 10 #[v1, v2] w fun e w' => e = .returned (.bool (decide (xs = ys))) ∧ Ext w w' := by
  obtain ⟨q1, d1, rfl, _, hd1⟩ := h1.slice
  obtain ⟨q2, d2, rfl, _, hd2⟩ := h2.slice
  obtain ⟨B, HB⟩ : ∃ B, Hid (decide (xs = ys) = B) := ⟨_, rfl⟩
  rw [HB.out]
  by_cases hl : xs.length = ys.length
  case neg =>
    have hB : B = false := by rw [← HB.out]; exact decide_eq_false fun e => hl (by rw [e])
    have hz : ((xs.length : Int) != (ys.length : Int)) = true := by rw [bne_iff_ne]; omega
    subst hB
    clear hl
    go_enter Try.func10, Try.ntmps10
    go_wp2_with fail
    go_ret
    exact ⟨rfl, Ext.refl _⟩
  have hz : ((xs.length : Int) != (ys.length : Int)) = false := by rw [hl]; simp
  have hl2 : ys.length = xs.length := hl.symm
  have HL := Lib.hid hl2
  clear hl hl2
  go_enter Try.func10, Try.ntmps10
  go_wp2_with fail
  go_loopg [5] (xs.length) (fun k s5 wr => ∃ j : Nat, s5 = .int .i64 j ∧ j ≤ xs.length ∧ k = xs.length - j ∧ (∀ t, t < j → xs[t]? = ys[t]?) ∧ Ext w wr)
  case atStart => exact ⟨0, rfl, Nat.zero_le _, rfl, fun t ht => by omega, Ext.refl _⟩
  case round =>
    obtain ⟨j, rfl, hj, hk, hs, hx⟩ := hrel
    by_cases hlt : j < xs.length
    case neg =>
      have hB : B = true := by
        rw [← HB.out]
        refine decide_eq_true (List.ext_getElem? fun t => ?_)
        by_cases ht : t < j
        · exact hs t ht
        · rw [List.getElem?_eq_none (by omega), List.getElem?_eq_none (by have := HL.out; omega)]
      subst hB
      go_wp2_with fail
      go_ret
      exact ⟨rfl, hx⟩
    case pos =>
      have hlt2 : j < ys.length := by have := HL.out; omega
      obtain ⟨b1, o1, u1, rfl, hc1, hu1⟩ := h1.row hlt
      obtain ⟨b2, o2, u2, rfl, hc2, hu2⟩ := h2.row hlt2
      have r1 := hu1.now
      have r2 := hu2.now
      clear hu1 hu2
      have hnext : xs[j] = ys[j] → ∀ t, t < j + 1 → xs[t]? = ys[t]? := by
        intro e t ht
        by_cases htj : t = j
        · subst htj; rw [List.getElem?_eq_getElem hlt, List.getElem?_eq_getElem hlt2, e]
        · exact hs t (by omega)
      have hno : xs[j] ≠ ys[j] → B = false := by
        intro e
        rw [← HB.out]
        refine decide_eq_false fun e2 => e ?_
        subst e2; rfl
      generalize xs[j] = x at *
      generalize ys[j] = y at *
      by_cases hxy : x = y
      · have HX := Lib.hid (hnext hxy)
        clear hnext hno hs
        subst hxy
        go_wp2_with fail
        apply wp_region_dag (X := Ext) (by kernel_rfl) (by kernel_rfl) (fun _ _ _ => Ext.trans) (Ext.drew1 _)
        apply dag_val Ext.refl rfl (by intro W hW H; go_simp <;> rfl)
        simp only [Act.put, List.setIfInBounds_toArray, List.set_cons_zero, List.set_cons_succ]
        apply dag_val Ext.refl rfl (by intro W hW H; go_simp <;> rfl)
        simp only [Act.put, List.setIfInBounds_toArray, List.set_cons_zero, List.set_cons_succ]
        apply dag_val Ext.refl rfl (by intro W hW H; have hi : (j : Int) < (xs.length : Int) := (by omega); go_simp <;> rfl)
        simp only [Act.put, List.setIfInBounds_toArray, List.set_cons_zero, List.set_cons_succ]
        apply dag_val Ext.refl rfl (by intro W hW H; have hq := (hx.trans hW).cell hc1; go_simp <;> rfl)
        simp only [Act.put, List.setIfInBounds_toArray, List.set_cons_zero, List.set_cons_succ]
        refine' dag_val Ext.refl rfl (fun W hW H => run_op_bytes_string T.bytes T.u8 T.str rfl rfl (v := u1) (l := x) (by exact (r1.ext hx).ext hW)) _
        rotate_left
        simp only [Act.put, List.setIfInBounds_toArray, List.set_cons_zero, List.set_cons_succ]
        apply dag_val Ext.refl rfl (by intro W hW H; go_simp <;> rfl)
        simp only [Act.put, List.setIfInBounds_toArray, List.set_cons_zero, List.set_cons_succ]
        apply dag_val Ext.refl rfl (by intro W hW H; go_simp <;> rfl)
        simp only [Act.put, List.setIfInBounds_toArray, List.set_cons_zero, List.set_cons_succ]
        apply dag_val Ext.refl rfl (by intro W hW H; have hi : (j : Int) < (ys.length : Int) := (by omega); go_simp <;> rfl)
        simp only [Act.put, List.setIfInBounds_toArray, List.set_cons_zero, List.set_cons_succ]
        apply dag_val Ext.refl rfl (by intro W hW H; have hq := (hx.trans hW).cell hc2; go_simp <;> rfl)
        simp only [Act.put, List.setIfInBounds_toArray, List.set_cons_zero, List.set_cons_succ]
        refine' dag_val Ext.refl rfl (fun W hW H => run_op_bytes_string T.bytes T.u8 T.str rfl rfl (v := u2) (l := x) (by exact (r2.ext hx).ext hW)) _
        rotate_left
        simp only [Act.put, List.setIfInBounds_toArray, List.set_cons_zero, List.set_cons_succ]
        apply dag_val Ext.refl rfl (by intro W hW H; go_simp <;> rfl)
        simp only [Act.put, List.setIfInBounds_toArray, List.set_cons_zero, List.set_cons_succ]
        refine dag_end fun W hW H => ?_
        go_wp2_with fail
        go_roundg (xs.length - (j + 1))
        case measure => omega
        case rel => exact ⟨j + 1, by go_num, hlt, rfl, HX.out, hx.trans hW⟩
      · have hB := hno hxy
        have hne : (x == y) = false := by simp [hxy]
        clear hnext hno hs
        subst hB
        go_wp2_with fail
        apply wp_region_dag (X := Ext) (by kernel_rfl) (by kernel_rfl) (fun _ _ _ => Ext.trans) (Ext.drew1 _)
        apply dag_val Ext.refl rfl (by intro W hW H; go_simp <;> rfl)
        simp only [Act.put, List.setIfInBounds_toArray, List.set_cons_zero, List.set_cons_succ]
        apply dag_val Ext.refl rfl (by intro W hW H; go_simp <;> rfl)
        simp only [Act.put, List.setIfInBounds_toArray, List.set_cons_zero, List.set_cons_succ]
        apply dag_val Ext.refl rfl (by intro W hW H; have hi : (j : Int) < (xs.length : Int) := (by omega); go_simp <;> rfl)
        simp only [Act.put, List.setIfInBounds_toArray, List.set_cons_zero, List.set_cons_succ]
        apply dag_val Ext.refl rfl (by intro W hW H; have hq := (hx.trans hW).cell hc1; go_simp <;> rfl)
        simp only [Act.put, List.setIfInBounds_toArray, List.set_cons_zero, List.set_cons_succ]
        refine' dag_val Ext.refl rfl (fun W hW H => run_op_bytes_string T.bytes T.u8 T.str rfl rfl (v := u1) (l := x) (by exact (r1.ext hx).ext hW)) _
        rotate_left
        simp only [Act.put, List.setIfInBounds_toArray, List.set_cons_zero, List.set_cons_succ]
        apply dag_val Ext.refl rfl (by intro W hW H; go_simp <;> rfl)
        simp only [Act.put, List.setIfInBounds_toArray, List.set_cons_zero, List.set_cons_succ]
        apply dag_val Ext.refl rfl (by intro W hW H; go_simp <;> rfl)
        simp only [Act.put, List.setIfInBounds_toArray, List.set_cons_zero, List.set_cons_succ]
        apply dag_val Ext.refl rfl (by intro W hW H; have hi : (j : Int) < (ys.length : Int) := (by omega); go_simp <;> rfl)
        simp only [Act.put, List.setIfInBounds_toArray, List.set_cons_zero, List.set_cons_succ]
        apply dag_val Ext.refl rfl (by intro W hW H; have hq := (hx.trans hW).cell hc2; go_simp <;> rfl)
        simp only [Act.put, List.setIfInBounds_toArray, List.set_cons_zero, List.set_cons_succ]
        refine' dag_val Ext.refl rfl (fun W hW H => run_op_bytes_string T.bytes T.u8 T.str rfl rfl (v := u2) (l := y) (by exact (r2.ext hx).ext hW)) _
        rotate_left
        simp only [Act.put, List.setIfInBounds_toArray, List.set_cons_zero, List.set_cons_succ]
        apply dag_val Ext.refl rfl (by intro W hW H; go_simp <;> rfl)
        simp only [Act.put, List.setIfInBounds_toArray, List.set_cons_zero, List.set_cons_succ]
        refine dag_end fun W hW H => ?_
        go_wp2_with fail
        go_ret
        exact ⟨rfl, hx.trans hW⟩

set_option maxHeartbeats 1000000 in
theorem fsame_any (i1 : Int) (v1 : Value) (l1 : List UInt8) (i2 : Int) (v2 : Value) (l2 : List UInt8) (w : World) (h1 : BV w v1 l1) (h2 : BV w v2 l2) :
    Calls Try.prog 20 #[.agg #[.int .i64 i1, v1], .agg #[.int .i64 i2, v2]] w fun e w' => e = .returned (.bool (decide ((i1, l1) = (i2, l2)))) ∧ Ext w w' := by
  obtain ⟨q1, d1, rfl, _, _, _⟩ := id h1
  obtain ⟨q2, d2, rfl, _, _, _⟩ := id h2
  have hx := (Ext.alloc w (.cells #[.int .i64 i1, .slice q1 l1.length d1] 49)).trans (Ext.alloc (w.alloc (.cells #[.int .i64 i1, .slice q1 l1.length d1] 49)) (.cells #[.int .i64 i2, .slice q2 l2.length d2] 49))
  by_cases hi : i1 = i2
  · have hz : (i1 == i2) = true := by simp [hi]
    have e : decide ((i1, l1) = (i2, l2)) = (l1 == l2) := by
      subst hi
      by_cases hl : l1 = l2
      · subst hl; simp
      · have : (l1 == l2) = false := by simp [hl]
        rw [this]; exact decide_eq_false fun e => hl (congrArg Prod.snd e)
    rw [e]
    clear e hi
    go_enter Try.func20, Try.ntmps20
    go_wp2_with (go_at_call 36; refine (bequal_any _ l1 _ l2 _ (h1.ext hx) (h2.ext hx)).mono ?_; rintro e w1 ⟨rfl, hx1⟩)
    go_ret
    exact ⟨rfl, hx.trans hx1⟩
  · have hz : (i1 == i2) = false := by simp [hi]
    have e : decide ((i1, l1) = (i2, l2)) = false := decide_eq_false fun e => hi (congrArg Prod.fst e)
    rw [e]
    clear e hi
    go_enter Try.func20, Try.ntmps20
    go_wp2_with fail
    go_ret
    exact ⟨rfl, hx⟩

/-- An element of a row of places and bodies. -/
theorem found_at {S : Nat → Prop} {w : World} {p : Option Addr} {n c : Nat} {xs : List Fnd} (h : SRow 2 RF S w (.slice p n c) xs) {j : Nat} (hj : j < xs.length) :
    ∃ b o v, p = some ⟨b, o, none⟩ ∧ w.cell? ⟨b, o + j * 2, none⟩ = some (.int .i64 xs[j].1) ∧ w.cell? ⟨b, o + j * 2 + 1, none⟩ = some v ∧ Under S (fun w' => BV w' v xs[j].2) w := by
  obtain ⟨b, o, cs, e, _, hc, hu⟩ := h.cells (by decide) hj
  obtain ⟨v, rfl, hv⟩ := hu.now
  refine ⟨b, o, v, e, by simpa using hc 0 _ rfl, hc 1 _ rfl, hu.imp fun w' hw => ?_⟩
  obtain ⟨v', e', hb⟩ := hw
  cases e'
  exact hb

set_option maxHeartbeats 1000000 in
theorem sameAll_any (v1 : Value) (xs : List Fnd) (v2 : Value) (ys : List Fnd) (w : World) (h1 : SRow 2 RF (fun _ => True) w v1 xs) (h2 : SRow 2 RF (fun _ => True) w v2 ys) (hb : xs.length ≤ 100000) :
    Calls Try.prog 18 #[v1, v2] w fun e w' => e = .returned (.bool (decide (xs = ys))) ∧ Ext w w' := by
  obtain ⟨q1, d1, rfl, _, hd1⟩ := h1.slice
  obtain ⟨q2, d2, rfl, _, hd2⟩ := h2.slice
  obtain ⟨B, HB⟩ : ∃ B, Hid (decide (xs = ys) = B) := ⟨_, rfl⟩
  rw [HB.out]
  by_cases hl : xs.length = ys.length
  case neg =>
    have hB : B = false := by rw [← HB.out]; exact decide_eq_false fun e => hl (by rw [e])
    have hz : ((xs.length : Int) != (ys.length : Int)) = true := by rw [bne_iff_ne]; omega
    subst hB
    clear hl
    go_enter Try.func18, Try.ntmps18
    go_wp2_with fail
    go_ret
    exact ⟨rfl, Ext.refl _⟩
  have hz : ((xs.length : Int) != (ys.length : Int)) = false := by rw [hl]; simp
  have hl2 : ys.length = xs.length := hl.symm
  have HL := Lib.hid hl2
  clear hl hl2
  go_enter Try.func18, Try.ntmps18
  go_wp2_with fail
  go_loopg [5] (xs.length) (fun k s5 wr => ∃ j : Nat, s5 = .int .i64 j ∧ j ≤ xs.length ∧ k = xs.length - j ∧ (∀ t, t < j → xs[t]? = ys[t]?) ∧ Ext w wr)
  case atStart => exact ⟨0, rfl, Nat.zero_le _, rfl, fun t ht => by omega, Ext.refl _⟩
  case round =>
    obtain ⟨j, rfl, hj, hk, hs, hx⟩ := hrel
    by_cases hlt : j < xs.length
    case neg =>
      have hB : B = true := by
        rw [← HB.out]
        refine decide_eq_true (List.ext_getElem? fun t => ?_)
        by_cases ht : t < j
        · exact hs t ht
        · rw [List.getElem?_eq_none (by omega), List.getElem?_eq_none (by have := HL.out; omega)]
      subst hB
      go_wp2_with fail
      go_ret
      exact ⟨rfl, hx⟩
    case pos =>
      have hlt2 : j < ys.length := by have := HL.out; omega
      obtain ⟨b1, o1, u1, rfl, hc1, hd1', hu1⟩ := found_at h1 hlt
      obtain ⟨b2, o2, u2, rfl, hc2, hd2', hu2⟩ := found_at h2 hlt2
      have r1 := hu1.now
      have r2 := hu2.now
      clear hu1 hu2
      have hnext : xs[j] = ys[j] → ∀ t, t < j + 1 → xs[t]? = ys[t]? := by
        intro e t ht
        by_cases htj : t = j
        · subst htj; rw [List.getElem?_eq_getElem hlt, List.getElem?_eq_getElem hlt2, e]
        · exact hs t (by omega)
      have hno : xs[j] ≠ ys[j] → B = false := by
        intro e
        rw [← HB.out]
        refine decide_eq_false fun e2 => e ?_
        subst e2; rfl
      generalize xs[j] = x at *
      generalize ys[j] = y at *
      obtain ⟨xi, xl⟩ := x
      obtain ⟨yi, yl⟩ := y
      dsimp only at hc1 hc2 r1 r2
      by_cases hxi : xi = yi
      case neg =>
        have hB := hno (fun e => hxi (congrArg Prod.fst e))
        have hne : (xi != yi) = true := by simp [hxi]
        have hne2 : (xi == yi) = false := by simp [hxi]
        clear hnext hno hs
        subst hB
        go_wp2_with fail
        apply wp_region_dag (X := Ext) (by kernel_rfl) (by kernel_rfl) (fun _ _ _ => Ext.trans) (Ext.drew1 _)
        apply dag_val Ext.refl rfl (by intro W hW H; go_simp <;> rfl)
        simp only [Act.put, List.setIfInBounds_toArray, List.set_cons_zero, List.set_cons_succ]
        apply dag_val Ext.refl rfl (by intro W hW H; go_simp <;> rfl)
        simp only [Act.put, List.setIfInBounds_toArray, List.set_cons_zero, List.set_cons_succ]
        apply dag_val Ext.refl rfl (by intro W hW H; have hi : (j : Int) < (xs.length : Int) := (by omega); go_simp <;> rfl)
        simp only [Act.put, List.setIfInBounds_toArray, List.set_cons_zero, List.set_cons_succ]
        apply dag_val Ext.refl rfl (by intro W hW H; go_simp <;> rfl)
        simp only [Act.put, List.setIfInBounds_toArray, List.set_cons_zero, List.set_cons_succ]
        apply dag_val Ext.refl rfl (by intro W hW H; have hq := (hx.trans hW).cell hc1; go_simp <;> rfl)
        simp only [Act.put, List.setIfInBounds_toArray, List.set_cons_zero, List.set_cons_succ]
        apply dag_val Ext.refl rfl (by intro W hW H; go_simp <;> rfl)
        simp only [Act.put, List.setIfInBounds_toArray, List.set_cons_zero, List.set_cons_succ]
        apply dag_val Ext.refl rfl (by intro W hW H; go_simp <;> rfl)
        simp only [Act.put, List.setIfInBounds_toArray, List.set_cons_zero, List.set_cons_succ]
        apply dag_val Ext.refl rfl (by intro W hW H; have hi : (j : Int) < (ys.length : Int) := (by omega); go_simp <;> rfl)
        simp only [Act.put, List.setIfInBounds_toArray, List.set_cons_zero, List.set_cons_succ]
        apply dag_val Ext.refl rfl (by intro W hW H; go_simp <;> rfl)
        simp only [Act.put, List.setIfInBounds_toArray, List.set_cons_zero, List.set_cons_succ]
        apply dag_val Ext.refl rfl (by intro W hW H; have hq := (hx.trans hW).cell hc2; go_simp <;> rfl)
        simp only [Act.put, List.setIfInBounds_toArray, List.set_cons_zero, List.set_cons_succ]
        apply dag_val Ext.refl rfl (by intro W hW H; go_simp <;> rfl)
        simp only [Act.put, List.setIfInBounds_toArray, List.set_cons_zero, List.set_cons_succ]
        apply dag_val Ext.refl rfl (by intro W hW H; go_simp <;> rfl)
        simp only [Act.put, List.setIfInBounds_toArray, List.set_cons_zero, List.set_cons_succ]
        apply dag_not Ext.refl rfl
        simp only [Act.put, List.setIfInBounds_toArray, List.set_cons_zero, List.set_cons_succ]
        apply dag_not Ext.refl rfl
        simp only [Act.put, List.setIfInBounds_toArray, List.set_cons_zero, List.set_cons_succ]
        apply dag_not Ext.refl rfl
        simp only [Act.put, List.setIfInBounds_toArray, List.set_cons_zero, List.set_cons_succ]
        apply dag_not Ext.refl rfl
        simp only [Act.put, List.setIfInBounds_toArray, List.set_cons_zero, List.set_cons_succ]
        apply dag_not Ext.refl rfl
        simp only [Act.put, List.setIfInBounds_toArray, List.set_cons_zero, List.set_cons_succ]
        apply dag_not Ext.refl rfl
        simp only [Act.put, List.setIfInBounds_toArray, List.set_cons_zero, List.set_cons_succ]
        apply dag_not Ext.refl rfl
        simp only [Act.put, List.setIfInBounds_toArray, List.set_cons_zero, List.set_cons_succ]
        apply dag_not Ext.refl rfl
        simp only [Act.put, List.setIfInBounds_toArray, List.set_cons_zero, List.set_cons_succ]
        apply dag_not Ext.refl rfl
        simp only [Act.put, List.setIfInBounds_toArray, List.set_cons_zero, List.set_cons_succ]
        apply dag_not Ext.refl rfl
        simp only [Act.put, List.setIfInBounds_toArray, List.set_cons_zero, List.set_cons_succ]
        apply dag_not Ext.refl rfl
        simp only [Act.put, List.setIfInBounds_toArray, List.set_cons_zero, List.set_cons_succ]
        apply dag_not Ext.refl rfl
        simp only [Act.put, List.setIfInBounds_toArray, List.set_cons_zero, List.set_cons_succ]
        apply dag_not Ext.refl rfl
        simp only [Act.put, List.setIfInBounds_toArray, List.set_cons_zero, List.set_cons_succ]
        apply dag_val Ext.refl rfl (by intro W hW H; go_simp <;> rfl)
        simp only [Act.put, List.setIfInBounds_toArray, List.set_cons_zero, List.set_cons_succ]
        refine dag_end fun W hW H => ?_
        go_wp2_with fail
        go_ret
        exact ⟨rfl, hx.trans hW⟩
      case pos =>
      subst hxi
      by_cases hxl : xl = yl
      · subst hxl
        have HX := Lib.hid (hnext rfl)
        clear hnext hno hs
        go_wp2_with fail
        apply wp_region_dag (X := Ext) (by kernel_rfl) (by kernel_rfl) (fun _ _ _ => Ext.trans) (Ext.drew1 _)
        apply dag_val Ext.refl rfl (by intro W hW H; go_simp <;> rfl)
        simp only [Act.put, List.setIfInBounds_toArray, List.set_cons_zero, List.set_cons_succ]
        apply dag_val Ext.refl rfl (by intro W hW H; go_simp <;> rfl)
        simp only [Act.put, List.setIfInBounds_toArray, List.set_cons_zero, List.set_cons_succ]
        apply dag_val Ext.refl rfl (by intro W hW H; have hi : (j : Int) < (xs.length : Int) := (by omega); go_simp <;> rfl)
        simp only [Act.put, List.setIfInBounds_toArray, List.set_cons_zero, List.set_cons_succ]
        apply dag_val Ext.refl rfl (by intro W hW H; go_simp <;> rfl)
        simp only [Act.put, List.setIfInBounds_toArray, List.set_cons_zero, List.set_cons_succ]
        apply dag_val Ext.refl rfl (by intro W hW H; have hq := (hx.trans hW).cell hc1; go_simp <;> rfl)
        simp only [Act.put, List.setIfInBounds_toArray, List.set_cons_zero, List.set_cons_succ]
        apply dag_val Ext.refl rfl (by intro W hW H; go_simp <;> rfl)
        simp only [Act.put, List.setIfInBounds_toArray, List.set_cons_zero, List.set_cons_succ]
        apply dag_val Ext.refl rfl (by intro W hW H; go_simp <;> rfl)
        simp only [Act.put, List.setIfInBounds_toArray, List.set_cons_zero, List.set_cons_succ]
        apply dag_val Ext.refl rfl (by intro W hW H; have hi : (j : Int) < (ys.length : Int) := (by omega); go_simp <;> rfl)
        simp only [Act.put, List.setIfInBounds_toArray, List.set_cons_zero, List.set_cons_succ]
        apply dag_val Ext.refl rfl (by intro W hW H; go_simp <;> rfl)
        simp only [Act.put, List.setIfInBounds_toArray, List.set_cons_zero, List.set_cons_succ]
        apply dag_val Ext.refl rfl (by intro W hW H; have hq := (hx.trans hW).cell hc2; go_simp <;> rfl)
        simp only [Act.put, List.setIfInBounds_toArray, List.set_cons_zero, List.set_cons_succ]
        apply dag_val Ext.refl rfl (by intro W hW H; go_simp <;> rfl)
        simp only [Act.put, List.setIfInBounds_toArray, List.set_cons_zero, List.set_cons_succ]
        apply dag_val Ext.refl rfl (by intro W hW H; go_simp <;> rfl)
        simp only [Act.put, List.setIfInBounds_toArray, List.set_cons_zero, List.set_cons_succ]
        apply dag_val Ext.refl rfl (by intro W hW H; go_simp <;> rfl)
        simp only [Act.put, List.setIfInBounds_toArray, List.set_cons_zero, List.set_cons_succ]
        apply dag_val Ext.refl rfl (by intro W hW H; go_simp <;> rfl)
        simp only [Act.put, List.setIfInBounds_toArray, List.set_cons_zero, List.set_cons_succ]
        apply dag_val Ext.refl rfl (by intro W hW H; have hi : (j : Int) < (xs.length : Int) := (by omega); go_simp <;> rfl)
        simp only [Act.put, List.setIfInBounds_toArray, List.set_cons_zero, List.set_cons_succ]
        apply dag_val Ext.refl rfl (by intro W hW H; go_simp <;> rfl)
        simp only [Act.put, List.setIfInBounds_toArray, List.set_cons_zero, List.set_cons_succ]
        apply dag_val Ext.refl rfl (by intro W hW H; have hq := (hx.trans hW).cell hd1'; go_simp <;> rfl)
        simp only [Act.put, List.setIfInBounds_toArray, List.set_cons_zero, List.set_cons_succ]
        refine' dag_val Ext.refl rfl (fun W hW H => run_op_bytes_string T.bytes T.u8 T.str rfl rfl (v := u1) (l := xl) (by exact (r1.ext hx).ext hW)) _
        rotate_left
        simp only [Act.put, List.setIfInBounds_toArray, List.set_cons_zero, List.set_cons_succ]
        apply dag_val Ext.refl rfl (by intro W hW H; go_simp <;> rfl)
        simp only [Act.put, List.setIfInBounds_toArray, List.set_cons_zero, List.set_cons_succ]
        apply dag_val Ext.refl rfl (by intro W hW H; go_simp <;> rfl)
        simp only [Act.put, List.setIfInBounds_toArray, List.set_cons_zero, List.set_cons_succ]
        apply dag_val Ext.refl rfl (by intro W hW H; have hi : (j : Int) < (ys.length : Int) := (by omega); go_simp <;> rfl)
        simp only [Act.put, List.setIfInBounds_toArray, List.set_cons_zero, List.set_cons_succ]
        apply dag_val Ext.refl rfl (by intro W hW H; go_simp <;> rfl)
        simp only [Act.put, List.setIfInBounds_toArray, List.set_cons_zero, List.set_cons_succ]
        apply dag_val Ext.refl rfl (by intro W hW H; have hq := (hx.trans hW).cell hd2'; go_simp <;> rfl)
        simp only [Act.put, List.setIfInBounds_toArray, List.set_cons_zero, List.set_cons_succ]
        refine' dag_val Ext.refl rfl (fun W hW H => run_op_bytes_string T.bytes T.u8 T.str rfl rfl (v := u2) (l := xl) (by exact (r2.ext hx).ext hW)) _
        rotate_left
        simp only [Act.put, List.setIfInBounds_toArray, List.set_cons_zero, List.set_cons_succ]
        apply dag_val Ext.refl rfl (by intro W hW H; go_simp <;> rfl)
        simp only [Act.put, List.setIfInBounds_toArray, List.set_cons_zero, List.set_cons_succ]
        apply dag_val Ext.refl rfl (by intro W hW H; go_simp <;> rfl)
        simp only [Act.put, List.setIfInBounds_toArray, List.set_cons_zero, List.set_cons_succ]
        refine dag_end fun W hW H => ?_
        go_wp2_with fail
        go_roundg (xs.length - (j + 1))
        case measure => omega
        case rel => exact ⟨j + 1, by go_num, hlt, rfl, HX.out, hx.trans hW⟩
      · have hB := hno (fun e => hxl (congrArg Prod.snd e))
        have hne2 : (xl == yl) = false := by simp [hxl]
        clear hnext hno hs
        subst hB
        go_wp2_with fail
        apply wp_region_dag (X := Ext) (by kernel_rfl) (by kernel_rfl) (fun _ _ _ => Ext.trans) (Ext.drew1 _)
        apply dag_val Ext.refl rfl (by intro W hW H; go_simp <;> rfl)
        simp only [Act.put, List.setIfInBounds_toArray, List.set_cons_zero, List.set_cons_succ]
        apply dag_val Ext.refl rfl (by intro W hW H; go_simp <;> rfl)
        simp only [Act.put, List.setIfInBounds_toArray, List.set_cons_zero, List.set_cons_succ]
        apply dag_val Ext.refl rfl (by intro W hW H; have hi : (j : Int) < (xs.length : Int) := (by omega); go_simp <;> rfl)
        simp only [Act.put, List.setIfInBounds_toArray, List.set_cons_zero, List.set_cons_succ]
        apply dag_val Ext.refl rfl (by intro W hW H; go_simp <;> rfl)
        simp only [Act.put, List.setIfInBounds_toArray, List.set_cons_zero, List.set_cons_succ]
        apply dag_val Ext.refl rfl (by intro W hW H; have hq := (hx.trans hW).cell hc1; go_simp <;> rfl)
        simp only [Act.put, List.setIfInBounds_toArray, List.set_cons_zero, List.set_cons_succ]
        apply dag_val Ext.refl rfl (by intro W hW H; go_simp <;> rfl)
        simp only [Act.put, List.setIfInBounds_toArray, List.set_cons_zero, List.set_cons_succ]
        apply dag_val Ext.refl rfl (by intro W hW H; go_simp <;> rfl)
        simp only [Act.put, List.setIfInBounds_toArray, List.set_cons_zero, List.set_cons_succ]
        apply dag_val Ext.refl rfl (by intro W hW H; have hi : (j : Int) < (ys.length : Int) := (by omega); go_simp <;> rfl)
        simp only [Act.put, List.setIfInBounds_toArray, List.set_cons_zero, List.set_cons_succ]
        apply dag_val Ext.refl rfl (by intro W hW H; go_simp <;> rfl)
        simp only [Act.put, List.setIfInBounds_toArray, List.set_cons_zero, List.set_cons_succ]
        apply dag_val Ext.refl rfl (by intro W hW H; have hq := (hx.trans hW).cell hc2; go_simp <;> rfl)
        simp only [Act.put, List.setIfInBounds_toArray, List.set_cons_zero, List.set_cons_succ]
        apply dag_val Ext.refl rfl (by intro W hW H; go_simp <;> rfl)
        simp only [Act.put, List.setIfInBounds_toArray, List.set_cons_zero, List.set_cons_succ]
        apply dag_val Ext.refl rfl (by intro W hW H; go_simp <;> rfl)
        simp only [Act.put, List.setIfInBounds_toArray, List.set_cons_zero, List.set_cons_succ]
        apply dag_val Ext.refl rfl (by intro W hW H; go_simp <;> rfl)
        simp only [Act.put, List.setIfInBounds_toArray, List.set_cons_zero, List.set_cons_succ]
        apply dag_val Ext.refl rfl (by intro W hW H; go_simp <;> rfl)
        simp only [Act.put, List.setIfInBounds_toArray, List.set_cons_zero, List.set_cons_succ]
        apply dag_val Ext.refl rfl (by intro W hW H; have hi : (j : Int) < (xs.length : Int) := (by omega); go_simp <;> rfl)
        simp only [Act.put, List.setIfInBounds_toArray, List.set_cons_zero, List.set_cons_succ]
        apply dag_val Ext.refl rfl (by intro W hW H; go_simp <;> rfl)
        simp only [Act.put, List.setIfInBounds_toArray, List.set_cons_zero, List.set_cons_succ]
        apply dag_val Ext.refl rfl (by intro W hW H; have hq := (hx.trans hW).cell hd1'; go_simp <;> rfl)
        simp only [Act.put, List.setIfInBounds_toArray, List.set_cons_zero, List.set_cons_succ]
        refine' dag_val Ext.refl rfl (fun W hW H => run_op_bytes_string T.bytes T.u8 T.str rfl rfl (v := u1) (l := xl) (by exact (r1.ext hx).ext hW)) _
        rotate_left
        simp only [Act.put, List.setIfInBounds_toArray, List.set_cons_zero, List.set_cons_succ]
        apply dag_val Ext.refl rfl (by intro W hW H; go_simp <;> rfl)
        simp only [Act.put, List.setIfInBounds_toArray, List.set_cons_zero, List.set_cons_succ]
        apply dag_val Ext.refl rfl (by intro W hW H; go_simp <;> rfl)
        simp only [Act.put, List.setIfInBounds_toArray, List.set_cons_zero, List.set_cons_succ]
        apply dag_val Ext.refl rfl (by intro W hW H; have hi : (j : Int) < (ys.length : Int) := (by omega); go_simp <;> rfl)
        simp only [Act.put, List.setIfInBounds_toArray, List.set_cons_zero, List.set_cons_succ]
        apply dag_val Ext.refl rfl (by intro W hW H; go_simp <;> rfl)
        simp only [Act.put, List.setIfInBounds_toArray, List.set_cons_zero, List.set_cons_succ]
        apply dag_val Ext.refl rfl (by intro W hW H; have hq := (hx.trans hW).cell hd2'; go_simp <;> rfl)
        simp only [Act.put, List.setIfInBounds_toArray, List.set_cons_zero, List.set_cons_succ]
        refine' dag_val Ext.refl rfl (fun W hW H => run_op_bytes_string T.bytes T.u8 T.str rfl rfl (v := u2) (l := yl) (by exact (r2.ext hx).ext hW)) _
        rotate_left
        simp only [Act.put, List.setIfInBounds_toArray, List.set_cons_zero, List.set_cons_succ]
        apply dag_val Ext.refl rfl (by intro W hW H; go_simp <;> rfl)
        simp only [Act.put, List.setIfInBounds_toArray, List.set_cons_zero, List.set_cons_succ]
        apply dag_val Ext.refl rfl (by intro W hW H; go_simp <;> rfl)
        simp only [Act.put, List.setIfInBounds_toArray, List.set_cons_zero, List.set_cons_succ]
        refine dag_end fun W hW H => ?_
        go_wp2_with fail
        go_ret
        exact ⟨rfl, hx.trans hW⟩
end Go.Proofs.Ytlbeemjcndhenaa
