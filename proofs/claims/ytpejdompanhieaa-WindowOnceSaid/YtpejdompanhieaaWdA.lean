/- What the document's functions of layer 35 compute: one, ahead, late, with. What the document's functions of layer 35 compute: Check, New. -/
import Derived.Test.YtpejdompanhieaaWnU
namespace Go.Proofs.Ytpejdompanhieaa
open Go.RowKit

set_option maxHeartbeats 400000 in
theorem rin_any (n a b : Int) (w : World) :
    Calls Try.prog 36 #[.int .i64 n, .int .i64 a, .int .i64 b] w fun e w' => e = .returned (.bool (inW n a b)) ∧ w = w' := by
  unfold inW
  by_cases h1 : a ≤ n
  · rw [decide_eq_true h1, Bool.true_and]
    go_enter Try.func36, Try.ntmps36
    go_wp2_with fail
    go_ret
    exact ⟨rfl, rfl⟩
  · rw [decide_eq_false h1, Bool.false_and]
    go_enter Try.func36, Try.ntmps36
    go_wp2_with fail
    go_ret
    exact ⟨rfl, rfl⟩
theorem rnumber_any (n : Int) (w : World) :
    Calls Try.prog 37 #[.int .i64 n] w fun e w' => e = .returned (.bool (numW n)) ∧ w = w' := by
  unfold numW
  have C1 := fun W => rin_any n (-1073741824) 1073741824 W
  generalize inW n (-1073741824) 1073741824 = B at *
  go_enter Try.func37, Try.ntmps37
  go_wp2_with (go_at_call 36; refine (C1 _).mono ?_; rintro e w' ⟨rfl, rfl⟩)
  go_ret
  exact ⟨rfl, rfl⟩
set_option maxHeartbeats 2000000 in
theorem rone_any (x : Sm) (size : Int) (hs : 1 ≤ size) (w : World) :
    Calls Try.prog 45 #[smv x, .int .i64 size] w fun e w' => e = .returned (.bool (mayS size x)) ∧ Ext w w' := by
  obtain ⟨s, k, n, t, l, m⟩ := x
  have hx0 := Ext.alloc w (.cells #[.int .i64 s, .string ⟨k.toArray⟩, .int .i64 n, .int .i64 t, .int .i64 l, .int .i64 m] 69)
  have hk : (ByteArray.mk k.toArray).size = k.length := text_size _
  have hz : ¬ size = 0 := by omega
  unfold mayS
  simp only
  have hmod : inW s 0 1099511627776 = true → s.tmod size = s % size := fun h => by
    unfold inW at h; simp only [Bool.and_eq_true, decide_eq_true_eq] at h
    exact Int.tmod_eq_emod_of_nonneg h.1
  have HMOD := Lib.hid hmod
  have hmul : inW n 1 1048576 = true → numW l = true → numW m = true → wrap64 (n * l) = n * l ∧ wrap64 (n * m) = n * m := fun h1 h2 h3 => by
    unfold numW inW at h2 h3
    unfold inW at h1
    simp only [Bool.and_eq_true, decide_eq_true_eq] at h1 h2 h3
    have a1 : n * (-1073741824) ≤ n * l := Int.mul_le_mul_of_nonneg_left h2.1 (by omega)
    have a2 : n * l ≤ n * 1073741824 := Int.mul_le_mul_of_nonneg_left h2.2 (by omega)
    have a3 : n * (-1073741824) ≤ n * m := Int.mul_le_mul_of_nonneg_left h3.1 (by omega)
    have a4 : n * m ≤ n * 1073741824 := Int.mul_le_mul_of_nonneg_left h3.2 (by omega)
    exact ⟨(by unfold wrap64; omega), (by unfold wrap64; omega)⟩
  have HMUL := Lib.hid hmul
  clear hmod hmul
  cases h0 : inW s 0 1099511627776 with
  | false =>
    simp only [Bool.false_and]
    go_enter Try.func45, Try.ntmps45
    go_wp2_with (first
      | (go_at_call 36; refine (rin_any _ _ _ _).mono ?_; rintro e w' ⟨rfl, rfl⟩)
      | (go_at_call 37; refine (rnumber_any _ _).mono ?_; rintro e w' ⟨rfl, rfl⟩))
    go_ret
    exact ⟨rfl, hx0⟩
  | true =>
    have hm1 := HMOD.out h0
    have HH0 := Lib.hid h0
    by_cases h1 : s % size = 0
    case neg =>
      have hb1 : (s % size != 0) = true := by rw [bne_iff_ne]; exact h1
      rw [decide_eq_false h1]
      simp only [Bool.false_and, Bool.and_false]
      clear h1
      go_enter Try.func45, Try.ntmps45
      go_wp2_with (first
        | (go_at_call 36; refine (rin_any _ _ _ _).mono ?_; rintro e w' ⟨rfl, rfl⟩)
        | (go_at_call 37; refine (rnumber_any _ _).mono ?_; rintro e w' ⟨rfl, rfl⟩))
      go_ret
      exact ⟨rfl, hx0⟩
    have hb1 : (s % size != 0) = false := by simp [h1]
    rw [decide_eq_true h1]
    clear h1
    by_cases h2 : k.length ≤ 64
    case neg =>
      have hi2 : decide ((64 : Int) < (k.length : Int)) = true := by rw [decide_eq_true_eq]; omega
      rw [decide_eq_false h2]
      simp only [Bool.false_and, Bool.and_false]
      clear h2
      go_enter Try.func45, Try.ntmps45
      go_wp2_with (first
        | (go_at_call 36; refine (rin_any _ _ _ _).mono ?_; rintro e w' ⟨rfl, rfl⟩)
        | (go_at_call 37; refine (rnumber_any _ _).mono ?_; rintro e w' ⟨rfl, rfl⟩))
      go_ret
      exact ⟨rfl, hx0⟩
    have hi2 : decide ((64 : Int) < (k.length : Int)) = false := by rw [decide_eq_false_iff_not]; omega
    rw [decide_eq_true h2]
    clear h2
    cases h3 : inW n 1 1048576 with
    | false =>
      simp only [Bool.false_and, Bool.and_false]
      go_enter Try.func45, Try.ntmps45
      go_wp2_with (first
        | (go_at_call 36; refine (rin_any _ _ _ _).mono ?_; rintro e w' ⟨rfl, rfl⟩)
        | (go_at_call 37; refine (rnumber_any _ _).mono ?_; rintro e w' ⟨rfl, rfl⟩))
      go_ret
      exact ⟨rfl, hx0⟩
    | true =>
      cases h4 : numW l with
      | false =>
        simp only [Bool.false_and, Bool.and_false]
        go_enter Try.func45, Try.ntmps45
        go_wp2_with (first
          | (go_at_call 36; refine (rin_any _ _ _ _).mono ?_; rintro e w' ⟨rfl, rfl⟩)
          | (go_at_call 37; refine (rnumber_any _ _).mono ?_; rintro e w' ⟨rfl, rfl⟩))
        go_ret
        exact ⟨rfl, hx0⟩
      | true =>
        cases h5 : numW m with
        | false =>
          simp only [Bool.false_and, Bool.and_false]
          go_enter Try.func45, Try.ntmps45
          go_wp2_with (first
            | (go_at_call 36; refine (rin_any _ _ _ _).mono ?_; rintro e w' ⟨rfl, rfl⟩)
            | (go_at_call 37; refine (rnumber_any _ _).mono ?_; rintro e w' ⟨rfl, rfl⟩))
          go_ret
          exact ⟨rfl, hx0⟩
        | true =>
          by_cases h6 : l ≤ m
          case neg =>
            rw [decide_eq_false h6]
            simp only [Bool.false_and, Bool.and_false]
            go_enter Try.func45, Try.ntmps45
            go_wp2_with (first
              | (go_at_call 36; refine (rin_any _ _ _ _).mono ?_; rintro e w' ⟨rfl, rfl⟩)
              | (go_at_call 37; refine (rnumber_any _ _).mono ?_; rintro e w' ⟨rfl, rfl⟩))
            go_ret
            exact ⟨rfl, hx0⟩
          rw [decide_eq_true h6]
          obtain ⟨hw1, hw2⟩ := HMUL.out h3 h4 h5
          have HW := Lib.hid (And.intro hw1 hw2)
          simp only [Bool.true_and]
          clear hw1 hw2
          go_enter Try.func45, Try.ntmps45
          go_wp2_with (first
            | (go_at_call 36; refine (rin_any _ _ _ _).mono ?_; rintro e w' ⟨rfl, rfl⟩)
            | (go_at_call 37; refine (rnumber_any _ _).mono ?_; rintro e w' ⟨rfl, rfl⟩))
          go_ret
          refine ⟨?_, hx0⟩
          show Ending.returned (.bool (inW t (wrap64 (n * l)) (wrap64 (n * m)))) = _
          rw [HW.out.1, HW.out.2]
theorem rlate_any (s : Wt) (v : Value) (start mark : Int) (h : 0 ≤ s.size ∧ s.size ≤ 1048576 ∧ 0 ≤ s.late ∧ s.late ≤ 1048576 ∧ 0 ≤ start ∧ start ≤ 1099511627776) (w : World) :
    Calls Try.prog 38 #[wtv s v, .int .i64 start, .int .i64 mark] w fun e w' => e = .returned (.bool (lateW s start mark)) ∧ Ext w w' := by
  obtain ⟨z, l, m, d, o⟩ := s
  simp only at h
  have hx0 := Ext.alloc w (.cells #[.int .i64 z, .int .i64 l, .int .i64 m, .int .i64 d, v] 24)
  unfold lateW
  simp only
  have h1 : -9223372036854775808 ≤ start + z ∧ start + z ≤ 9223372036854775807 := by omega
  have h2 : -9223372036854775808 ≤ start + z + l ∧ start + z + l ≤ 9223372036854775807 := by omega
  have e1 : wrap64 (start + z) = start + z := by unfold wrap64; omega
  have e2 : wrap64 (start + z + l) = start + z + l := by unfold wrap64; omega
  clear h
  by_cases hl : start + z + l ≤ mark
  · rw [decide_eq_true hl]
    go_enter Try.func38, Try.ntmps38
    go_wp2_with fail
    go_ret
    exact ⟨rfl, hx0⟩
  · rw [decide_eq_false hl]
    go_enter Try.func38, Try.ntmps38
    go_wp2_with fail
    go_ret
    exact ⟨rfl, hx0⟩
set_option maxHeartbeats 1000000 in
theorem rahead_any (a b : Sm) (w : World) :
    Calls Try.prog 46 #[smv a, smv b] w fun e w' => e = .returned (.bool (aheadS a b)) ∧ Ext w w' := by
  obtain ⟨s1, k1, n1, t1, l1, m1⟩ := a
  obtain ⟨s2, k2, n2, t2, l2, m2⟩ := b
  have hx0 := (Ext.alloc w (.cells #[.int .i64 s1, .string ⟨k1.toArray⟩, .int .i64 n1, .int .i64 t1, .int .i64 l1, .int .i64 m1] 69)).trans (Ext.alloc _ (.cells #[.int .i64 s2, .string ⟨k2.toArray⟩, .int .i64 n2, .int .i64 t2, .int .i64 l2, .int .i64 m2] 69))
  have hr : aheadS ⟨s1, k1, n1, t1, l1, m1⟩ ⟨s2, k2, n2, t2, l2, m2⟩ = (decide (s1 < s2) || (s1 == s2 && Op.bytesLess k1 k2)) := by
    unfold aheadS
    rw [Bool.eq_iff_iff]
    simp only [decide_eq_true_eq, Bool.or_eq_true, Bool.and_eq_true, beq_iff_eq]
    rw [ordS_neg]
  obtain ⟨R, hR⟩ : ∃ R, aheadS ⟨s1, k1, n1, t1, l1, m1⟩ ⟨s2, k2, n2, t2, l2, m2⟩ = R := ⟨_, rfl⟩
  rw [hR]
  rw [hr] at hR
  clear hr
  by_cases h1 : s1 < s2
  · rw [decide_eq_true h1, Bool.true_or] at hR
    subst hR
    go_enter Try.func46, Try.ntmps46
    go_wp2_with fail
    go_ret
    exact ⟨rfl, hx0⟩
  · rw [decide_eq_false h1, Bool.false_or] at hR
    cases h2 : (s1 == s2) with
    | false =>
      rw [h2, Bool.false_and] at hR
      subst hR
      go_enter Try.func46, Try.ntmps46
      go_wp2_with fail
      go_ret
      exact ⟨rfl, hx0⟩
    | true =>
      rw [h2, Bool.true_and] at hR
      cases R with
      | false =>
        go_enter Try.func46, Try.ntmps46
        go_wp2_with fail
        go_ret
        exact ⟨rfl, hx0⟩
      | true =>
        go_enter Try.func46, Try.ntmps46
        go_wp2_with fail
        go_ret
        exact ⟨rfl, hx0⟩
theorem rsm_results {fn : Func} {p : Tmp} (h : fn.results = #[.cell p 69]) (tmps : Array Value) (w : World) (g : Nat) (x : Sm)
    (hp : tmps.getD p undef = .pointer (some ⟨g, 0, none⟩)) (hg : ObjAt w g 69 (smCells x)) : (results fn tmps).run Try.prog w = .ok (smv x) w :=
  results_cell_row h tmps w g _ (smCells x).toArray (0, 0) _ hp hg Try.underlying69 rfl T.rsmSize
set_option maxHeartbeats 1000000 in
theorem rwith_any (x : Sm) (n : Int) (h1 : -9223372036854775808 ≤ x.count + 1 ∧ x.count + 1 ≤ 9223372036854775807) (h2 : -9223372036854775808 ≤ x.total + n ∧ x.total + n ≤ 9223372036854775807) (w : World) :
    Calls Try.prog 61 #[smv x, .int .i64 n] w fun e w' => e = .returned (smv (withS x n)) ∧ Ext w w' := by
  obtain ⟨x0, x1, x2, x3, x4, x5⟩ := x
  simp only at h1 h2
  have e1 : wrap64 (x2 + 1) = x2 + 1 := by unfold wrap64; omega
  have e2 : wrap64 (x3 + n) = x3 + n := by unfold wrap64; omega
  clear h1 h2
  obtain ⟨oa, ob, hx0, hsz⟩ := objs2 w 69 69 (smCells ⟨x0, x1, x2, x3, x4, x5⟩) (smCells sm0)
  have HSZ := Lib.hid hsz
  unfold smCells sm0 at oa ob hx0
  simp only at oa ob hx0
  clear hsz
  have HOB := Lib.hid ob
  have HX0 := Lib.hid hx0
  go_enter Try.func61, Try.ntmps61
  go_wp2_with (first
    | ((with_reducible show wpList _ _ _ (Oper.mk _ (Op.call { callee := Callee.builtin Builtin.min, args := _, argTypes := _ }) _ _ _ _ :: _) _ _); refine wpList_run rfl (run_min rfl rfl rfl _) ?_)
    | ((with_reducible show wpList _ _ _ (Oper.mk _ (Op.call { callee := Callee.builtin Builtin.max, args := _, argTypes := _ }) _ _ _ _ :: _) _ _); refine wpList_run rfl (run_max rfl rfl rfl _) ?_))
  obtain ⟨-, oc, hxc, -⟩ := objs2 w 69 69 (smCells (withS ⟨x0, x1, x2, x3, x4, x5⟩ n)) (smCells (withS ⟨x0, x1, x2, x3, x4, x5⟩ n))
  exact bodyPost_ret (rsm_results rfl _ _ (w.heap.size + 1) (withS ⟨x0, x1, x2, x3, x4, x5⟩ n) rfl oc) rfl ⟨rfl, hxc⟩
theorem rises_take {t : List Sm} {i : Nat} (h : ¬ aheadS (t.getD i sm0) (t.getD (i + 1) sm0) = true) (hi : i + 1 < t.length) : risesS t = false := by
  unfold risesS
  rw [List.all_eq_false]
  exact ⟨i, List.mem_range.2 (by omega), h⟩
theorem rises_full {t : List Sm} (h : ∀ i, i + 1 < t.length → aheadS (t.getD i sm0) (t.getD (i + 1) sm0) = true) : risesS t = true := by
  unfold risesS
  rw [List.all_eq_true]
  intro i hi
  rw [List.mem_range] at hi
  exact h i (by omega)
set_option maxRecDepth 20000 in
set_option maxHeartbeats 4000000 in
theorem rcheck_any (s : Wt) (v : Value) (w : World) (h : SmV w v s.opn) :
    Calls Try.prog 21 #[wtv s v] w fun e w' => e = .returned (.int .i64 (checkW s)) ∧ Ext w w' := by
  obtain ⟨size, late, mark, drops, t⟩ := s
  unfold checkW boundsW
  simp only at h ⊢
  have hx0 := Ext.alloc w (.cells #[.int .i64 size, .int .i64 late, .int .i64 mark, .int .i64 drops, v] 24)
  have ho : ObjAt (w.alloc (.cells #[.int .i64 size, .int .i64 late, .int .i64 mark, .int .i64 drops, v] 24)) w.heap.size 24 [.int .i64 size, .int .i64 late, .int .i64 mark, .int .i64 drops, v] := heap_alloc_new w _
  obtain ⟨q, c, rfl, hn, hc⟩ := h.slice
  unfold maxLen at hc
  cases h1 : inW size 1 1048576
  case false =>
    simp only [Bool.false_and]
    go_enter Try.func21, Try.ntmps21
    go_wp2_with (go_at_call 36; refine (rin_any _ _ _ _).mono ?_; rintro e w' ⟨rfl, rfl⟩)
    go_ret
    exact ⟨rfl, hx0⟩
  cases h2 : inW late 0 1048576
  case false =>
    simp only [Bool.false_and]
    go_enter Try.func21, Try.ntmps21
    go_wp2_with (go_at_call 36; refine (rin_any _ _ _ _).mono ?_; rintro e w' ⟨rfl, rfl⟩)
    go_ret
    exact ⟨rfl, hx0⟩
  cases h3 : inW mark (-1) 1099511627776
  case false =>
    simp only [Bool.false_and]
    go_enter Try.func21, Try.ntmps21
    go_wp2_with (go_at_call 36; refine (rin_any _ _ _ _).mono ?_; rintro e w' ⟨rfl, rfl⟩)
    go_ret
    exact ⟨rfl, hx0⟩
  cases h4 : inW drops 0 1099511627776
  case false =>
    simp only [Bool.false_and]
    go_enter Try.func21, Try.ntmps21
    go_wp2_with (go_at_call 36; refine (rin_any _ _ _ _).mono ?_; rintro e w' ⟨rfl, rfl⟩)
    go_ret
    exact ⟨rfl, hx0⟩
  by_cases h5 : t.length ≤ 256
  case neg =>
    rw [decide_eq_false h5]
    have hi5 : (t.length : Int) > 256 := by omega
    simp only [Bool.and_false, if_true]
    go_enter Try.func21, Try.ntmps21
    go_wp2_with (go_at_call 36; refine (rin_any _ _ _ _).mono ?_; rintro e w' ⟨rfl, rfl⟩)
    go_ret
    exact ⟨rfl, hx0⟩
  rw [decide_eq_true h5]
  have hi5 : decide ((256 : Int) < (t.length : Int)) = false := by rw [decide_eq_false_iff_not]; omega
  simp only [Bool.true_and, Bool.true_eq_false, if_false]
  have hs1 : 1 ≤ size := by unfold inW at h1; simp only [Bool.and_eq_true, decide_eq_true_eq] at h1; exact h1.1
  obtain ⟨c0, c1, c2, c3, c4⟩ := wt_cells (s := ⟨size, late, mark, drops, t⟩) ho
  simp only at c0 c1 c2 c3 c4
  obtain ⟨R, hR⟩ : ∃ R : Int, (if t.all (mayS size) = false then 11 else if risesS t = false then 16 else 0) = R := ⟨_, rfl⟩
  rw [hR]
  have HR := Lib.hid hR
  have HX0 := Lib.hid hx0
  have HV := Lib.hid h
  have HS1 := Lib.hid hs1
  have H5 := Lib.hid h5
  clear hR hx0 ho h hc hn hs1 h5
  generalize hwa : w.alloc (.cells #[.int .i64 size, .int .i64 late, .int .i64 mark, .int .i64 drops, .slice q t.length c] 24) = wa at *
  go_enter Try.func21, Try.ntmps21
  go_wp2_with (go_at_call 36; refine (rin_any _ _ _ _).mono ?_; rintro e w' ⟨rfl, rfl⟩)
  clear hwa
  go_loopg [3] (t.length) (fun k s3 wr => ∃ j : Nat, s3 = .int .i64 j ∧ j ≤ t.length ∧ k = t.length - j ∧ Hid ((t.drop j).all (mayS size) = t.all (mayS size)) ∧ Hid (Ext wa wr))
  case atStart => exact ⟨0, rfl, Nat.zero_le _, rfl, Lib.hid (by rw [List.drop_zero]), Lib.hid (Ext.refl _)⟩
  case round =>
    obtain ⟨j, rfl, hj, hk, HA, HX⟩ := hrel
    by_cases hlt : j < t.length
    case pos =>
      have hi : (j : Int) < (t.length : Int) := by omega
      obtain ⟨b, o, rfl, ⟨m0, m1, m2, m3, m4, m5⟩⟩ := sm_at (HV.out.ext (HX0.out.trans HX.out)) hlt
      have d0 := HX.out.cell c0
      have d4 := HX.out.cell c4
      have ha := HA.out
      rw [all_drop hlt] at ha
      have O1 := fun W => rone_any t[j] size HS1.out W
      generalize t[j] = x at *
      cases hb : mayS size x with
      | true =>
        rw [hb] at O1
        rw [hb, Bool.true_and] at ha
        have HA2 := Lib.hid ha
        clear ha HA hb
        go_wp2_with fail
        apply wp_region_dag (X := Ext) (by kernel_rfl) (by kernel_rfl) (fun _ _ _ => Ext.trans) (Ext.drew1 _)
        apply dag_val Ext.refl rfl (by intro W hW H; go_simp <;> rfl)
        simp only [Act.put, List.setIfInBounds_toArray, List.set_cons_zero, List.set_cons_succ]
        apply dag_val Ext.refl rfl (by intro W hW H; have q := hW.cell d4; go_simp <;> rfl)
        simp only [Act.put, List.setIfInBounds_toArray, List.set_cons_zero, List.set_cons_succ]
        apply dag_val Ext.refl rfl (by intro W hW H; go_simp <;> rfl)
        simp only [Act.put, List.setIfInBounds_toArray, List.set_cons_zero, List.set_cons_succ]
        apply dag_val Ext.refl rfl (by intro W hW H; go_simp <;> rfl)
        simp only [Act.put, List.setIfInBounds_toArray, List.set_cons_zero, List.set_cons_succ]
        apply dag_val Ext.refl rfl (by intro W hW H; have q0 := hW.cell m0; have q1 := hW.cell m1; have q2 := hW.cell m2; have q3 := hW.cell m3; have q4 := hW.cell m4; have q5 := hW.cell m5; go_simp <;> rfl)
        simp only [Act.put, List.setIfInBounds_toArray, List.set_cons_zero, List.set_cons_succ]
        apply dag_val Ext.refl rfl (by intro W hW H; go_simp <;> rfl)
        simp only [Act.put, List.setIfInBounds_toArray, List.set_cons_zero, List.set_cons_succ]
        apply dag_val Ext.refl rfl (by intro W hW H; have q := hW.cell d0; go_simp <;> rfl)
        simp only [Act.put, List.setIfInBounds_toArray, List.set_cons_zero, List.set_cons_succ]
        refine' dag_call (c := .bool true) (f := 45) (args := #[smv x, .int .i64 size]) rfl (by intro W; go_simp <;> rfl) (fun W hW H => O1 W) _
        rotate_left
        simp only [Act.put, List.setIfInBounds_toArray, List.set_cons_zero, List.set_cons_succ]
        apply dag_val Ext.refl rfl (by intro W hW H; go_simp <;> rfl)
        simp only [Act.put, List.setIfInBounds_toArray, List.set_cons_zero, List.set_cons_succ]
        refine dag_end fun W hW H => ?_
        clear H
        have HXW := Lib.hid (HX.out.trans hW)
        clear hW
        have HQ : Hid (wrap64 ((j : Int) + 1) = ((j + 1 : Nat) : Int)) := Lib.hid (by have := H5.out; unfold wrap64; omega)
        go_wp2_with fail
        go_roundg (t.length - (j + 1))
        case measure => omega
        case rel => exact ⟨j + 1, congrArg (Value.int .i64) HQ.out, hlt, rfl, HA2, HXW⟩
      | false =>
        rw [hb] at O1
        rw [hb, Bool.false_and] at ha
        have hR2 := HR.out
        rw [← ha, if_pos rfl] at hR2
        subst hR2
        clear ha HA hb
        go_wp2_with fail
        apply wp_region_dag (X := Ext) (by kernel_rfl) (by kernel_rfl) (fun _ _ _ => Ext.trans) (Ext.drew1 _)
        apply dag_val Ext.refl rfl (by intro W hW H; go_simp <;> rfl)
        simp only [Act.put, List.setIfInBounds_toArray, List.set_cons_zero, List.set_cons_succ]
        apply dag_val Ext.refl rfl (by intro W hW H; have q := hW.cell d4; go_simp <;> rfl)
        simp only [Act.put, List.setIfInBounds_toArray, List.set_cons_zero, List.set_cons_succ]
        apply dag_val Ext.refl rfl (by intro W hW H; go_simp <;> rfl)
        simp only [Act.put, List.setIfInBounds_toArray, List.set_cons_zero, List.set_cons_succ]
        apply dag_val Ext.refl rfl (by intro W hW H; go_simp <;> rfl)
        simp only [Act.put, List.setIfInBounds_toArray, List.set_cons_zero, List.set_cons_succ]
        apply dag_val Ext.refl rfl (by intro W hW H; have q0 := hW.cell m0; have q1 := hW.cell m1; have q2 := hW.cell m2; have q3 := hW.cell m3; have q4 := hW.cell m4; have q5 := hW.cell m5; go_simp <;> rfl)
        simp only [Act.put, List.setIfInBounds_toArray, List.set_cons_zero, List.set_cons_succ]
        apply dag_val Ext.refl rfl (by intro W hW H; go_simp <;> rfl)
        simp only [Act.put, List.setIfInBounds_toArray, List.set_cons_zero, List.set_cons_succ]
        apply dag_val Ext.refl rfl (by intro W hW H; have q := hW.cell d0; go_simp <;> rfl)
        simp only [Act.put, List.setIfInBounds_toArray, List.set_cons_zero, List.set_cons_succ]
        refine' dag_call (c := .bool false) (f := 45) (args := #[smv x, .int .i64 size]) rfl (by intro W; go_simp <;> rfl) (fun W hW H => O1 W) _
        rotate_left
        simp only [Act.put, List.setIfInBounds_toArray, List.set_cons_zero, List.set_cons_succ]
        apply dag_val Ext.refl rfl (by intro W hW H; go_simp <;> rfl)
        simp only [Act.put, List.setIfInBounds_toArray, List.set_cons_zero, List.set_cons_succ]
        refine dag_end fun W hW H => ?_
        clear H
        go_wp2_with fail
        go_ret
        exact ⟨rfl, (HX0.out.trans HX.out).trans hW⟩
    case neg =>
      have hje : j = t.length := by omega
      subst hje
      have hi : ¬ (t.length : Int) < (t.length : Int) := by omega
      have ha := HA.out
      rw [List.drop_length, List.all_nil] at ha
      have hR2 := HR.out
      rw [← ha, if_neg (by simp)] at hR2
      have HR2 := Lib.hid hR2
      have e4 := HX.out.cell c4
      clear hlt ha hR2 HR HA
      go_wp2_with fail
      go_loopg [4] (t.length + 1) (fun k s4 w9 => ∃ j : Nat, s4 = .int .i64 j ∧ Hid (1 ≤ j ∧ k = t.length + 2 - j ∧ j ≤ t.length + 1) ∧ Hid (∀ i, i + 1 < j → i + 1 < t.length → aheadS (t.getD i sm0) (t.getD (i + 1) sm0) = true) ∧ Hid (Ext wa w9))
      case atStart => exact ⟨1, rfl, Lib.hid ⟨Nat.le_refl _, by omega, by omega⟩, Lib.hid (fun i hi => by omega), HX⟩
      case round =>
        obtain ⟨j, rfl, HJ, HA, HX9⟩ := hrel
        obtain ⟨i, hij⟩ : ∃ i, j = i + 1 := ⟨j - 1, by have := HJ.out; omega⟩
        have HIJ := Lib.hid hij
        by_cases hlt : j < t.length
        case pos =>
          have hii : (j : Int) < (t.length : Int) := by omega
          have hit : i < t.length := by omega
          have hpp : (i : Int) < (t.length : Int) := by omega
          have hsub : (j : Int) - 1 = (i : Int) := by omega
          have hwp : IntKind.i64.wrap (i : Int) = (i : Int) := by have := H5.out; rw [IntKind.wrap_i64]; omega
          obtain ⟨b, o, e1, ⟨m0, m1, m2, m3, m4, m5⟩⟩ := sm_at (HV.out.ext (HX0.out.trans HX9.out)) hit
          obtain ⟨b', o', e2, ⟨n0, n1, n2, n3, n4, n5⟩⟩ := sm_at (HV.out.ext (HX0.out.trans HX9.out)) hlt
          subst e1
          injection e2 with e2
          injection e2 with e2 e3 e4
          subst e2; subst e3
          clear e4
          have HG : Hid (t.getD i sm0 = t[i] ∧ t.getD j sm0 = t[j]) := Lib.hid ⟨getD_sm hit, getD_sm hlt⟩
          have O1 := fun W => rahead_any t[i] t[j] W
          have d4 := HX9.out.cell c4
          generalize hz : aheadS t[i] t[j] = z at *
          have HZ : Hid (aheadS (t.getD i sm0) (t.getD j sm0) = z) := Lib.hid (by rw [HG.out.1, HG.out.2]; exact hz)
          generalize t[i] = ei at *
          generalize t[j] = ej at *
          clear hz HG hij
          go_wp2_with fail
          apply wp_region_dag (X := Ext) (by kernel_rfl) (by kernel_rfl) (fun _ _ _ => Ext.trans) (Ext.drew1 _)
          apply dag_val Ext.refl rfl (by intro W hW H; go_simp <;> rfl)
          simp only [Act.put, List.setIfInBounds_toArray, List.set_cons_zero, List.set_cons_succ]
          apply dag_val Ext.refl rfl (by intro W hW H; have q := hW.cell d4; go_simp <;> rfl)
          simp only [Act.put, List.setIfInBounds_toArray, List.set_cons_zero, List.set_cons_succ]
          apply dag_val Ext.refl rfl (by intro W hW H; go_simp <;> rfl)
          simp only [Act.put, List.setIfInBounds_toArray, List.set_cons_zero, List.set_cons_succ]
          apply dag_val Ext.refl rfl (by intro W hW H; go_simp <;> rfl)
          simp only [Act.put, List.setIfInBounds_toArray, List.set_cons_zero, List.set_cons_succ]
          apply dag_val Ext.refl rfl (by intro W hW H; go_simp <;> rfl)
          simp only [Act.put, List.setIfInBounds_toArray, List.set_cons_zero, List.set_cons_succ]
          apply dag_val Ext.refl rfl (by intro W hW H; have q0 := hW.cell m0; have q1 := hW.cell m1; have q2 := hW.cell m2; have q3 := hW.cell m3; have q4 := hW.cell m4; have q5 := hW.cell m5; go_simp <;> rfl)
          simp only [Act.put, List.setIfInBounds_toArray, List.set_cons_zero, List.set_cons_succ]
          apply dag_val Ext.refl rfl (by intro W hW H; go_simp <;> rfl)
          simp only [Act.put, List.setIfInBounds_toArray, List.set_cons_zero, List.set_cons_succ]
          apply dag_val Ext.refl rfl (by intro W hW H; have q := hW.cell d4; go_simp <;> rfl)
          simp only [Act.put, List.setIfInBounds_toArray, List.set_cons_zero, List.set_cons_succ]
          apply dag_val Ext.refl rfl (by intro W hW H; go_simp <;> rfl)
          simp only [Act.put, List.setIfInBounds_toArray, List.set_cons_zero, List.set_cons_succ]
          apply dag_val Ext.refl rfl (by intro W hW H; go_simp <;> rfl)
          simp only [Act.put, List.setIfInBounds_toArray, List.set_cons_zero, List.set_cons_succ]
          apply dag_val Ext.refl rfl (by intro W hW H; have q0 := hW.cell n0; have q1 := hW.cell n1; have q2 := hW.cell n2; have q3 := hW.cell n3; have q4 := hW.cell n4; have q5 := hW.cell n5; go_simp <;> rfl)
          simp only [Act.put, List.setIfInBounds_toArray, List.set_cons_zero, List.set_cons_succ]
          refine' dag_call (c := .bool z) (f := 46) (args := #[smv ei, smv ej]) rfl (by intro W; go_simp <;> rfl) (fun W hW H => O1 W) _
          rotate_left
          simp only [Act.put, List.setIfInBounds_toArray, List.set_cons_zero, List.set_cons_succ]
          apply dag_val Ext.refl rfl (by intro W hW H; go_simp <;> rfl)
          simp only [Act.put, List.setIfInBounds_toArray, List.set_cons_zero, List.set_cons_succ]
          refine dag_end fun W hW H => ?_
          clear H
          have HXW := Lib.hid (HX9.out.trans hW)
          clear hW
          cases z with
          | true =>
            have HQ : Hid (wrap64 ((j : Int) + 1) = ((j + 1 : Nat) : Int)) := Lib.hid (by have := H5.out; unfold wrap64; omega)
            go_wp2_with fail
            go_roundg (t.length + 1 - j)
            case measure => have := HJ.out; omega
            case rel =>
              refine ⟨j + 1, congrArg (Value.int .i64) HQ.out, Lib.hid (by have := HJ.out; omega), Lib.hid (fun i' h1 h2 => ?_), HXW⟩
              by_cases he : i' = i
              · subst he
                have h3 := HZ.out
                rw [HIJ.out] at h3
                exact h3
              · exact HA.out i' (by have := HIJ.out; omega) h2
          | false =>
            have hr : risesS t = false := rises_take (i := i) (by have h3 := HZ.out; rw [HIJ.out] at h3; rw [h3]; simp) (by have := HIJ.out; omega)
            have hR2 := HR2.out
            rw [hr, if_pos rfl] at hR2
            subst hR2
            clear hr
            go_wp2_with fail
            go_ret
            exact ⟨rfl, HX0.out.trans HXW.out⟩
        case neg =>
          have hi2 : ¬ (j : Int) < (t.length : Int) := by omega
          have d4 := HX9.out.cell c4
          have hr : risesS t = true := rises_full fun i' h => HA.out i' (by omega) h
          have hR2 := HR2.out
          rw [hr, if_neg (by simp)] at hR2
          subst hR2
          clear hr hlt hij
          go_wp2_with fail
          go_ret
          exact ⟨rfl, HX0.out.trans HX9.out⟩
theorem rwt_results2 {fn : Func} {p u : Tmp} (h : fn.results = #[.cell p 24, .tmp u]) (tmps : Array Value) (w : World) (g : Nat) (s : Wt) (v : Value)
    (hp : tmps.getD p undef = .pointer (some ⟨g, 0, none⟩)) (hg : ObjAt w g 24 (wtC s v)) : (results fn tmps).run Try.prog w = .ok (.tuple #[wtv s v, tmps.getD u undef]) w :=
  results_row_tmp h tmps w g _ (wtC s v).toArray _ hp hg Try.underlying24 rfl T.rwtSize
theorem rwt_results3 {fn : Func} {p u r : Tmp} (h : fn.results = #[.cell p 24, .tmp u, .tmp r]) (tmps : Array Value) (w : World) (g : Nat) (s : Wt) (v : Value)
    (hp : tmps.getD p undef = .pointer (some ⟨g, 0, none⟩)) (hg : ObjAt w g 24 (wtC s v)) : (results fn tmps).run Try.prog w = .ok (.tuple #[wtv s v, tmps.getD u undef, tmps.getD r undef]) w := by
  have hp' : tmps[p]?.getD undef = .pointer (some ⟨g, 0, none⟩) := by simpa using hp
  simp [results, h, hp', asAddr, run_loadVar_row w g 24 24 (wtC s v).toArray (0, 0) _ hg Try.underlying24 rfl T.rwtSize, Result.andThen]
set_option maxHeartbeats 1000000 in
theorem rwnew_any (size late : Int) (w : World) :
    Calls Try.prog 15 #[.int .i64 size, .int .i64 late] w fun e w' => e = .returned (.tuple #[wtv (newW size late).1 (.slice none 0 0), .int .i64 (newW size late).2]) ∧ Ext w w' := by
  have C1 := fun W => rcheck_any ⟨size, late, -1, 0, []⟩ (.slice none 0 0) W (sm_nil W)
  unfold newW
  obtain ⟨oa, ob, hx0, hsz⟩ := objs2 w 24 24 (wtC wt0 (.slice none 0 0)) (wtC ⟨size, late, -1, 0, []⟩ (.slice none 0 0))
  have a0 := ob.cell (j := 0) rfl
  have a1 := ob.cell (j := 1) rfl
  have a2 := ob.cell (j := 2) rfl
  have a3 := ob.cell (j := 3) rfl
  have a4 := ob.cell (j := 4) rfl
  have HSZ := Lib.hid hsz
  unfold wt0 at oa hx0
  clear hsz
  by_cases hc : checkW ⟨size, late, -1, 0, []⟩ = 0
  · rw [hc] at C1 ⊢
    rw [if_neg (by simp)]
    clear hc
    go_enter Try.func15, Try.ntmps15
    go_wp2_with (first
      | (go_at_call 21; refine (C1 _).mono ?_; rintro e w1 ⟨rfl, hx1⟩
         have oa1 := oa.ext hx1
         have b0 := hx1.cell a0
         have b1 := hx1.cell a1
         have b2 := hx1.cell a2
         have b3 := hx1.cell a3
         have b4 := hx1.cell a4)
      | ((with_reducible show wpList _ _ _ (Oper.mk _ (Op.store _ _ _) _ _ _ _ :: _) _ _); refine st_put (vs := wtC ⟨size, late, -1, 0, []⟩ (.slice none 0 0)) oa1 T.rwtSize rfl (wt_one _ rfl) ?_; intro w3 ob3 hg3))
    refine bodyPost_ret (rwt_results2 rfl _ _ w.heap.size ⟨size, late, -1, 0, []⟩ _ rfl ob3) rfl ?_
    exact ⟨rfl, (hx0.trans hx1).grown hg3 (Nat.le_refl _)⟩
  · rw [if_pos hc]
    have hb : (checkW ⟨size, late, -1, 0, []⟩ != 0) = true := by rw [bne_iff_ne]; exact hc
    generalize checkW ⟨size, late, -1, 0, []⟩ = k at *
    clear hc
    go_enter Try.func15, Try.ntmps15
    go_wp2_with (first
      | (go_at_call 21; refine (C1 _).mono ?_; rintro e w1 ⟨rfl, hx1⟩
         have oa1 := oa.ext hx1)
      | ((with_reducible show wpList _ _ _ (Oper.mk _ (Op.store _ _ _) _ _ _ _ :: _) _ _); refine st_put (vs := wtC wt0 (.slice none 0 0)) oa1 T.rwtSize rfl (wt_one _ rfl) ?_; intro w3 ob3 hg3))
    refine bodyPost_ret (rwt_results2 rfl _ _ w.heap.size wt0 _ rfl ob3) rfl ?_
    exact ⟨rfl, (hx0.trans hx1).grown hg3 (Nat.le_refl _)⟩
end Go.Proofs.Ytpejdompanhieaa
