/- The four statements of layer 2: CheckOfs, CheckOpens, CheckTurned, CheckLinear: the walks of the laws. -/
import Derived.Test.YtcfociegdnhneaaAwake02
import Derived.Test.YtcfociegdnhneaaSum2
namespace Go.Proofs.Ytcfociegdnhneaa
open Go.RowKit

set_option maxHeartbeats 1000000 in
theorem checkOfs_walk (v : Value) (l : List UInt8) (u : Nat) (w : World) (h : BV w v l) (hu : u < 65536) :
    Calls Try.prog 3 #[v, .int .u16 u] w fun e w' => e = .returned (.bool true) ∧ Ext w w' := by
  have h0 := h
  obtain ⟨p, c, rfl, hn, hc, hs⟩ := h
  unfold maxLen at hc
  by_cases hl : 1500 < l.length
  · go_enter Try.func3, Try.ntmps3
    go_wp2_with (go_at_call 7; refine (awake_any _).mono ?_; rintro e w1 ⟨rfl, hx1⟩)
    go_ret
    exact ⟨rfl, hx1⟩
  · obtain ⟨k, hk, hkl⟩ : ∃ k : Nat, (u : Int).tmod ((l.length : Int) + 1) = (k : Int) ∧ k ≤ l.length := by
      refine ⟨u % (l.length + 1), ?_, ?_⟩
      · rw [Int.tmod_eq_emod_of_nonneg (by omega)]; exact (Int.natCast_emod u (l.length + 1)).symm
      · have := Nat.mod_lt u (show 0 < l.length + 1 by omega); omega
    have e1 : sumMore (sumOf (l.take k)) (l.drop k) = sumOf l := by
      have := sumMore_append 0 (l.take k) (l.drop k)
      rw [List.take_append_drop] at this
      exact this
    have t1 := h0.take (k := k) (c' := c) hkl (by omega) (Nat.le_refl _)
    have d1 := h0.drop (k := k) hkl
    go_enter Try.func3, Try.ntmps3
    go_wp2_with (go_at_call 8; refine (rof_any _ l _ h0).mono ?_; rintro e w' ⟨rfl, rfl⟩)
    apply wp_region_dag (X := Ext) (by kernel_rfl) (by kernel_rfl) (fun _ _ _ => Ext.trans) (Ext.drew1 _)
    apply dag_val Ext.refl rfl (by intro W hW H; go_simp <;> rfl)
    simp only [Act.put, List.setIfInBounds_toArray, List.set_cons_zero, List.set_cons_succ]
    refine' dag_call rfl (by intro W; go_simp <;> rfl) (fun W hW H => (of_any _ l W (h0.ext hW)).mono (by rintro e w' ⟨rfl, rfl⟩; exact ⟨rfl, Ext.refl _⟩)) _
    rotate_left
    simp only [Act.put, List.setIfInBounds_toArray, List.set_cons_zero, List.set_cons_succ]
    apply dag_val Ext.refl rfl (by intro W hW H; go_simp <;> rfl)
    simp only [Act.put, List.setIfInBounds_toArray, List.set_cons_zero, List.set_cons_succ]
    apply dag_val Ext.refl rfl (by intro W hW H; go_simp <;> rfl)
    simp only [Act.put, List.setIfInBounds_toArray, List.set_cons_zero, List.set_cons_succ]
    apply dag_val Ext.refl rfl (by intro W hW H; go_simp <;> rfl)
    simp only [Act.put, List.setIfInBounds_toArray, List.set_cons_zero, List.set_cons_succ]
    apply dag_val Ext.refl rfl (by intro W hW H; go_simp <;> rfl)
    simp only [Act.put, List.setIfInBounds_toArray, List.set_cons_zero, List.set_cons_succ]
    apply dag_val Ext.refl rfl (by intro W hW H; go_simp <;> rfl)
    simp only [Act.put, List.setIfInBounds_toArray, List.set_cons_zero, List.set_cons_succ]
    refine' dag_val Ext.refl rfl (fun W hW H => run_sliceTo T.bytes rfl rfl W k c) _
    rotate_left
    simp only [Act.put, List.setIfInBounds_toArray, List.set_cons_zero, List.set_cons_succ]
    refine' dag_call rfl (by intro W; go_simp <;> rfl) (fun W hW H => (of_any _ (l.take k) W (t1.ext hW)).mono (by rintro e w' ⟨rfl, rfl⟩; exact ⟨rfl, Ext.refl _⟩)) _
    rotate_left
    simp only [Act.put, List.setIfInBounds_toArray, List.set_cons_zero, List.set_cons_succ]
    apply dag_val Ext.refl rfl (by intro W hW H; go_simp <;> rfl)
    simp only [Act.put, List.setIfInBounds_toArray, List.set_cons_zero, List.set_cons_succ]
    apply dag_val Ext.refl rfl (by intro W hW H; go_simp <;> rfl)
    simp only [Act.put, List.setIfInBounds_toArray, List.set_cons_zero, List.set_cons_succ]
    refine' dag_val Ext.refl rfl (fun W hW H => run_slice T.bytes rfl rfl W k l.length c) _
    rotate_left
    simp only [Act.put, List.setIfInBounds_toArray, List.set_cons_zero, List.set_cons_succ]
    refine' dag_call rfl (by intro W; go_simp <;> rfl) (fun W hW H => (more_any (sumOf (l.take k)) _ (l.drop k) W (d1.ext hW)).mono (by rintro e w' ⟨rfl, rfl⟩; exact ⟨rfl, Ext.refl _⟩)) _
    rotate_left
    simp only [Act.put, List.setIfInBounds_toArray, List.set_cons_zero, List.set_cons_succ]
    apply dag_val Ext.refl rfl (by intro W hW H; go_simp <;> rfl)
    simp only [Act.put, List.setIfInBounds_toArray, List.set_cons_zero, List.set_cons_succ]
    apply dag_val Ext.refl rfl (by intro W hW H; go_simp <;> rfl)
    simp only [Act.put, List.setIfInBounds_toArray, List.set_cons_zero, List.set_cons_succ]
    apply dag_val Ext.refl rfl (by intro W hW H; go_simp <;> rfl)
    simp only [Act.put, List.setIfInBounds_toArray, List.set_cons_zero, List.set_cons_succ]
    apply dag_val Ext.refl rfl (by intro W hW H; go_simp <;> rfl)
    simp only [Act.put, List.setIfInBounds_toArray, List.set_cons_zero, List.set_cons_succ]
    refine' dag_call rfl (by intro W; go_simp <;> rfl) (fun W hW H => awake_any W) _
    rotate_left
    simp only [Act.put, List.setIfInBounds_toArray, List.set_cons_zero, List.set_cons_succ]
    apply dag_val Ext.refl rfl (by intro W hW H; go_simp <;> rfl)
    simp only [Act.put, List.setIfInBounds_toArray, List.set_cons_zero, List.set_cons_succ]
    apply dag_val Ext.refl rfl (by intro W hW H; go_simp <;> rfl)
    simp only [Act.put, List.setIfInBounds_toArray, List.set_cons_zero, List.set_cons_succ]
    refine dag_end fun W hW H => ?_
    go_wp2_with fail
    go_ret
    exact ⟨rfl, hW⟩

set_option maxHeartbeats 1000000 in
theorem checkOpens_walk (v : Value) (l : List UInt8) (w : World) (h : BV w v l) :
    Calls Try.prog 4 #[v] w fun e w' => e = .returned (.bool true) ∧ Ext w w' := by
  have h0 := h
  obtain ⟨p, c, rfl, hn, hc, hs⟩ := h
  unfold maxLen at hc
  by_cases hl : 1500 < l.length
  · go_enter Try.func4, Try.ntmps4
    go_wp2_with (go_at_call 7; refine (awake_any _).mono ?_; rintro e w1 ⟨rfl, hx1⟩)
    go_ret
    exact ⟨rfl, hx1⟩
  · go_enter Try.func4, Try.ntmps4
    go_wp2_with (first
      | (go_at_call 11; refine (open_any _ l _ h0 (by omega)).mono ?_; rintro e w1 ⟨v1, rfl, hf1, hx1⟩)
      | (go_at_call 12; refine (ropen_any _ l _ (h0.ext hx1) (by omega)).mono ?_; rintro e w2 ⟨v2, rfl, hf2, hx2⟩))
    apply wp_region_dag (X := Ext) (by kernel_rfl) (by kernel_rfl) (fun _ _ _ => Ext.trans) (Ext.drew1 _)
    apply dag_val Ext.refl rfl (by intro W hW H; go_simp <;> rfl)
    simp only [Act.put, List.setIfInBounds_toArray, List.set_cons_zero, List.set_cons_succ]
    refine' dag_val Ext.refl rfl (fun W hW H => run_op_bytes_string T.bytes T.u8 T.str rfl rfl (v := v1) (l := (openL l).1) (by exact (hf1.view.ext hx2).ext hW)) _
    rotate_left
    simp only [Act.put, List.setIfInBounds_toArray, List.set_cons_zero, List.set_cons_succ]
    apply dag_val Ext.refl rfl (by intro W hW H; go_simp <;> rfl)
    simp only [Act.put, List.setIfInBounds_toArray, List.set_cons_zero, List.set_cons_succ]
    refine' dag_val Ext.refl rfl (fun W hW H => run_op_bytes_string T.bytes T.u8 T.str rfl rfl (v := v2) (l := (openL l).1) (by exact hf2.view.ext hW)) _
    rotate_left
    simp only [Act.put, List.setIfInBounds_toArray, List.set_cons_zero, List.set_cons_succ]
    apply dag_val Ext.refl rfl (by intro W hW H; go_simp <;> rfl)
    simp only [Act.put, List.setIfInBounds_toArray, List.set_cons_zero, List.set_cons_succ]
    apply dag_val Ext.refl rfl (by intro W hW H; go_simp <;> rfl)
    simp only [Act.put, List.setIfInBounds_toArray, List.set_cons_zero, List.set_cons_succ]
    apply dag_val Ext.refl rfl (by intro W hW H; go_simp <;> rfl)
    simp only [Act.put, List.setIfInBounds_toArray, List.set_cons_zero, List.set_cons_succ]
    apply dag_val Ext.refl rfl (by intro W hW H; go_simp <;> rfl)
    simp only [Act.put, List.setIfInBounds_toArray, List.set_cons_zero, List.set_cons_succ]
    apply dag_val Ext.refl rfl (by intro W hW H; go_simp <;> rfl)
    simp only [Act.put, List.setIfInBounds_toArray, List.set_cons_zero, List.set_cons_succ]
    apply dag_val Ext.refl rfl (by intro W hW H; go_simp <;> rfl)
    simp only [Act.put, List.setIfInBounds_toArray, List.set_cons_zero, List.set_cons_succ]
    apply dag_val Ext.refl rfl (by intro W hW H; go_simp <;> rfl)
    simp only [Act.put, List.setIfInBounds_toArray, List.set_cons_zero, List.set_cons_succ]
    apply dag_val Ext.refl rfl (by intro W hW H; go_simp <;> rfl)
    simp only [Act.put, List.setIfInBounds_toArray, List.set_cons_zero, List.set_cons_succ]
    refine' dag_calls (fun v W => BV W v (sealL l)) (BV.stable _) rfl (by intro W; go_simp <;> rfl) (fun W hW H => (seal_any _ l W (((h0.ext hx1).ext hx2).ext hW) (by omega)).mono (by rintro e w' ⟨v3, rfl, hf3, hx3⟩; exact ⟨v3, rfl, hf3.view, hx3⟩)) (fun v3 => _)
    rotate_left
    simp only [Act.put, List.setIfInBounds_toArray, List.set_cons_zero, List.set_cons_succ]
    refine' dag_val Ext.refl rfl (fun W hW H => run_op_bytes_string T.bytes T.u8 T.str rfl rfl (v := v3) (l := sealL l) (by exact H 12 (by kernel_rfl))) _
    rotate_left
    simp only [Act.put, List.setIfInBounds_toArray, List.set_cons_zero, List.set_cons_succ]
    apply dag_val Ext.refl rfl (by intro W hW H; go_simp <;> rfl)
    simp only [Act.put, List.setIfInBounds_toArray, List.set_cons_zero, List.set_cons_succ]
    refine' dag_calls (fun v W => BV W v (sealL l)) (BV.stable _) rfl (by intro W; go_simp <;> rfl) (fun W hW H => (rseal_any _ l W (((h0.ext hx1).ext hx2).ext hW) (by omega)).mono (by rintro e w' ⟨v3, rfl, hf3, hx3⟩; exact ⟨v3, rfl, hf3.view, hx3⟩)) (fun v4 => _)
    rotate_left
    simp only [Act.put, List.setIfInBounds_toArray, List.set_cons_zero, List.set_cons_succ]
    refine' dag_val Ext.refl rfl (fun W hW H => run_op_bytes_string T.bytes T.u8 T.str rfl rfl (v := v4) (l := sealL l) (by exact H 15 (by kernel_rfl))) _
    rotate_left
    simp only [Act.put, List.setIfInBounds_toArray, List.set_cons_zero, List.set_cons_succ]
    apply dag_val Ext.refl rfl (by intro W hW H; go_simp <;> rfl)
    simp only [Act.put, List.setIfInBounds_toArray, List.set_cons_zero, List.set_cons_succ]
    apply dag_val Ext.refl rfl (by intro W hW H; go_simp <;> rfl)
    simp only [Act.put, List.setIfInBounds_toArray, List.set_cons_zero, List.set_cons_succ]
    apply dag_val Ext.refl rfl (by intro W hW H; go_simp <;> rfl)
    simp only [Act.put, List.setIfInBounds_toArray, List.set_cons_zero, List.set_cons_succ]
    refine' dag_call rfl (by intro W; go_simp <;> rfl) (fun W hW H => awake_any W) _
    rotate_left
    simp only [Act.put, List.setIfInBounds_toArray, List.set_cons_zero, List.set_cons_succ]
    apply dag_val Ext.refl rfl (by intro W hW H; go_simp <;> rfl)
    simp only [Act.put, List.setIfInBounds_toArray, List.set_cons_zero, List.set_cons_succ]
    apply dag_val Ext.refl rfl (by intro W hW H; go_simp <;> rfl)
    simp only [Act.put, List.setIfInBounds_toArray, List.set_cons_zero, List.set_cons_succ]
    refine dag_end fun W hW H => ?_
    go_wp2_with fail
    go_ret
    exact ⟨rfl, (hx1.trans hx2).trans hW⟩

set_option maxHeartbeats 1000000 in
theorem checkTurned_walk (v : Value) (l : List UInt8) (u b : Nat) (w : World) (h : BV w v l) (hu : u < 65536) (hb : b < 256) :
    Calls Try.prog 5 #[v, .int .u16 u, .int .u8 b] w fun e w' => e = .returned (.bool true) ∧ Ext w w' := by
  have h0 := h
  obtain ⟨p, c, rfl, hn, hc, hs⟩ := h
  unfold maxLen at hc
  by_cases hl : 1000 < l.length
  · go_enter Try.func5, Try.ntmps5
    go_wp2_with (go_at_call 7; refine (awake_any _).mono ?_; rintro e w1 ⟨rfl, hx1⟩)
    go_ret
    exact ⟨rfl, hx1⟩
  · go_enter Try.func5, Try.ntmps5
    go_wp2_with fail
    refine (seal_any _ l _ h0 (by omega)).mono ?_
    rintro e w1 ⟨v1, rfl, hf1, hx1⟩
    have hsl := sealL_length l
    obtain ⟨g, c1, rfl, hc1, hc1m, hg, hg2⟩ := hf1.head (by intro e; rw [e] at hsl; simp at hsl)
    rw [hsl] at hf1 hc1 ⊢
    have HL := Lib.hid hsl; clear hsl
    unfold maxLen at hc1m
    go_wp2_with fail
    refine (open_any _ (sealL l) _ hf1.view (by rw [HL.out]; omega)).mono ?_
    rw [openL_seal]
    rintro e w2 ⟨v2, rfl, hf2, hx2⟩
    have hi : u % (l.length + 8) < (sealL l).length := by rw [HL.out]; exact Nat.mod_lt _ (by omega)
    have hfk := hf1.keep hx2
    have hcell := hfk.cell hi
    have hfree := hfk.free (u % (l.length + 8))
    obtain ⟨x, hxe⟩ : ∃ x, (sealL l)[u % (l.length + 8)] = x := ⟨_, rfl⟩
    rw [hxe] at hcell
    have HX := Lib.hid hxe; clear hxe
    have HK := Lib.hid hfk; clear hfk
    have hi2 : (u : Int) % ((l.length : Int) + 8) < (l.length : Int) + 8 := Int.emod_lt_of_pos _ (by omega)
    have hi3 : 0 ≤ (u : Int) % ((l.length : Int) + 8) := Int.emod_nonneg _ (by omega)
    obtain ⟨d, hd1, hd2⟩ : ∃ d : UInt8, 1 + (b : Int) % 255 = (d.toNat : Int) ∧ d ≠ 0 := by
      refine ⟨UInt8.ofNat (1 + b % 255), by rw [toNat_ofNat8]; omega, fun e => ?_⟩
      have := congrArg UInt8.toNat e
      rw [toNat_ofNat8] at this
      simp at this
      omega
    have hxor := byte_xor x d
    have hne : x ^^^ d ≠ (sealL l)[u % (l.length + 8)] := by
      rw [HX.out]
      intro e
      have e2 := congrArg (x ^^^ ·) e
      simp [← UInt8.xor_assoc] at e2
      exact hd2 e2
    have hop := open_changed l _ hi _ hne
    have HO := Lib.hid hop; clear hop hne hd2
    have HN : (((l.length : Int) + 8) == ((l.length : Int) + 8)) = true := by simp
    go_wp2_with (first
      | (with_reducible show wpList _ _ _ (Oper.mk _ (Op.convert _ _ _) _ _ _ _ :: _) _ _; refine wpList_string T.bytes T.u8 T.str rfl rfl rfl (v := v2) (l := l) (by exact hf2.view) ?_)
      | (with_reducible show wpList _ _ _ (Oper.mk _ (Op.convert _ _ _) _ _ _ _ :: _) _ _; refine wpList_string T.bytes T.u8 T.str rfl rfl rfl (v := .slice p l.length c) (l := l) (by exact (h0.ext hx1).ext hx2) ?_))
    have hset := HK.out.store (u % (l.length + 8)) (x ^^^ d)
    have hvw := hset.view
    refine (open_any _ _ _ hvw (by rw [List.length_set, HL.out]; omega)).mono ?_
    rw [HO.out]
    rintro e w3 ⟨v3, rfl, hf3, hx3⟩
    go_wp2_with (go_at_call 7; refine (awake_any _).mono ?_; rintro e w4 ⟨rfl, hx4⟩)
    go_ret
    exact ⟨rfl, ((((hx1.trans hx2).store hg _).trans hx3).trans hx4)⟩

set_option maxHeartbeats 1000000 in
theorem checkLinear_walk (va : Value) (la : List UInt8) (vb : Value) (lb : List UInt8) (w : World) (ha : BV w va la) (hb : BV w vb lb) :
    Calls Try.prog 6 #[va, vb] w fun e w' => e = .returned (.bool true) ∧ Ext w w' := by
  have ha0 := ha
  have hb0 := hb
  obtain ⟨p, c, rfl, hn, hc, hs⟩ := ha
  obtain ⟨q, d, rfl, hm, hd, ht⟩ := hb
  unfold maxLen at hc hd
  obtain ⟨n, hmin, hna, hnb⟩ : ∃ n : Nat, min (la.length : Int) (lb.length : Int) = (n : Int) ∧ n ≤ la.length ∧ n ≤ lb.length := ⟨min la.length lb.length, by omega, by omega, by omega⟩
  by_cases hl : 400 < n
  · go_enter Try.func6, Try.ntmps6
    go_wp2_with (first
      | (with_reducible show wpList _ _ _ (Oper.mk _ (Op.call { callee := Callee.builtin Builtin.min, args := _, argTypes := _ }) _ _ _ _ :: _) _ _; refine wpList_run rfl (run_min rfl rfl rfl _) ?_; rw [hmin])
      | (go_at_call 7; refine (awake_any _).mono ?_; rintro e w1 ⟨rfl, hx1⟩))
    go_ret
    exact ⟨rfl, hx1⟩
  · have hmk := run_make_zeros T.bytes .i64 .i64 n (by omega)
    have hlin := sum_linear (la.take n) (lb.take n) (by simp; omega)
    have HL := Lib.hid hlin; clear hlin
    obtain ⟨Z, hZ⟩ : ∃ Z, (bs (List.replicate n 0)).toArray = Z := ⟨_, rfl⟩
    rw [hZ] at hmk
    have HZ := Lib.hid hZ; clear hZ
    go_enter Try.func6, Try.ntmps6
    go_wp2_with (with_reducible show wpList _ _ _ (Oper.mk _ (Op.call { callee := Callee.builtin Builtin.min, args := _, argTypes := _ }) _ _ _ _ :: _) _ _; refine wpList_run rfl (run_min rfl rfl rfl _) ?_; rw [hmin])
    go_region
    · clear hmk
      obtain ⟨hfx, hfz, hX0⟩ := zeros_two w n (by simp only [maxLen]; omega) HZ.out
      generalize ((w.alloc (.cells Z 5)).alloc (.cells Z 5)).drew = W0 at *
      clear HZ
      go_wp2_with fail
      go_loopw [8] (fun i wr => ∃ j : Nat, j ≤ n ∧ i = .int .i64 j ∧ FB wr w.heap.size (.slice (some ⟨w.heap.size, 0, none⟩) n n) (xorL (la.take j) (lb.take j) ++ List.replicate (n - j) 0) ∧ FB wr w.heap.size (.slice (some ⟨w.heap.size + 1, 0, none⟩) n n) (List.replicate n 0) ∧ Ext w wr) (fun i _ => n - (intOf i).toNat)
      case atStart => exact ⟨0, by omega, rfl, by simpa [xorL] using hfx, hfz, hX0⟩
      case round =>
        obtain ⟨j, hj, rfl, hfx, hfz, hX⟩ := hrel
        clear hX0
        by_cases hlt : j < n
        · obtain ⟨b1, o1, rfl, hca⟩ := hs.at (bs_get la (show j < la.length by omega))
          obtain ⟨b2, o2, rfl, hcb⟩ := ht.at (bs_get lb (show j < lb.length by omega))
          have hca1 := hX.cell hca
          have hcb1 := hX.cell hcb
          have hja : j < la.length := by omega
          have hjb : j < lb.length := by omega
          have hx := byte_xor la[j] lb[j]
          have HX := Lib.hid hx; clear hx hca hcb
          go_wp2_with fail
          apply wp_region_dag_tail 12 (X := Ext) (by kernel_rfl) (by kernel_rfl) (by kernel_rfl) (by decide) (fun _ _ _ => Ext.trans) (Ext.drew1 _)
          simp only [List.take_succ_cons, List.take_zero, List.drop_succ_cons, List.drop_zero]
          apply dag_val Ext.refl rfl (by intro W hW H; go_simp <;> rfl)
          simp only [Act.put, List.setIfInBounds_toArray, List.set_cons_zero, List.set_cons_succ]
          apply dag_val Ext.refl rfl (by intro W hW H; go_simp <;> rfl)
          simp only [Act.put, List.setIfInBounds_toArray, List.set_cons_zero, List.set_cons_succ]
          apply dag_val Ext.refl rfl (by intro W hW H; go_simp <;> rfl)
          simp only [Act.put, List.setIfInBounds_toArray, List.set_cons_zero, List.set_cons_succ]
          apply dag_val Ext.refl rfl (by intro W hW H; go_simp <;> rfl)
          simp only [Act.put, List.setIfInBounds_toArray, List.set_cons_zero, List.set_cons_succ]
          apply dag_val Ext.refl rfl (by intro W hW H; go_simp <;> rfl)
          simp only [Act.put, List.setIfInBounds_toArray, List.set_cons_zero, List.set_cons_succ]
          apply dag_val Ext.refl rfl (by intro W hW H; have hq := hW.cell hca1; go_simp <;> rfl)
          simp only [Act.put, List.setIfInBounds_toArray, List.set_cons_zero, List.set_cons_succ]
          apply dag_val Ext.refl rfl (by intro W hW H; go_simp <;> rfl)
          simp only [Act.put, List.setIfInBounds_toArray, List.set_cons_zero, List.set_cons_succ]
          apply dag_val Ext.refl rfl (by intro W hW H; go_simp <;> rfl)
          simp only [Act.put, List.setIfInBounds_toArray, List.set_cons_zero, List.set_cons_succ]
          apply dag_val Ext.refl rfl (by intro W hW H; go_simp <;> rfl)
          simp only [Act.put, List.setIfInBounds_toArray, List.set_cons_zero, List.set_cons_succ]
          apply dag_val Ext.refl rfl (by intro W hW H; have hq := hW.cell hcb1; go_simp <;> rfl)
          simp only [Act.put, List.setIfInBounds_toArray, List.set_cons_zero, List.set_cons_succ]
          apply dag_val Ext.refl rfl (by intro W hW H; go_simp <;> rfl)
          simp only [Act.put, List.setIfInBounds_toArray, List.set_cons_zero, List.set_cons_succ]
          apply dag_val Ext.refl rfl (by intro W hW H; go_simp <;> rfl)
          simp only [Act.put, List.setIfInBounds_toArray, List.set_cons_zero, List.set_cons_succ]
          refine dag_end fun W hW H => ?_
          have hfx1 := hfx.keep hW
          have hcx := hfx1.cell (j := j) (by rw [List.length_append, xorL_length _ _ (by simp; omega)]; simp; omega)
          have hfr := hfx1.free j
          have hst := hfx1.store j (la[j] ^^^ lb[j])
          rw [HX.out]
          have HF := Lib.hid hst; clear hst hfx1
          go_wp2
          go_roundw
          case rel =>
            refine ⟨j + 1, by omega, by go_num, ?_, FB.far (hfz.keep hW) (by simp [Value.ownBlock]) _, (hX.trans hW).store (by simp) _⟩
            rw [← xorL_take_set la lb hna hnb hlt]
            exact HF.out
          case measure => simp [intOf]; omega
        · obtain rfl : j = n := by omega
          have ta := (ha0.ext hX).take (k := j) (c' := c) hna (by omega) (Nat.le_refl _)
          have tb := (hb0.ext hX).take (k := j) (c' := d) hnb (by omega) (Nat.le_refl _)
          have hfx' : FB wr w.heap.size (.slice (some ⟨w.heap.size, 0, none⟩) j j) (xorL (la.take j) (lb.take j)) := by simpa using hfx
          have hK : (un (sumOf (xorL (la.take j) (lb.take j))) == un (sumOf (la.take j) ^^^ sumOf (lb.take j) ^^^ sumOf (List.replicate j 0))) = true := by
            have e : (la.take j).length = j := by simp; omega
            have := HL.out
            rw [e] at this
            rw [this]; simp
          have b1 := bits_xor_bv (sumOf (la.take j)) (sumOf (lb.take j))
          have b2 := bits_xor_bv (sumOf (la.take j) ^^^ sumOf (lb.take j)) (sumOf (List.replicate j 0))
          clear hfx hmin
          go_wp2_with fail
          apply wp_region_dag (X := Ext) (by kernel_rfl) (by kernel_rfl) (fun _ _ _ => Ext.trans) (Ext.drew1 _)
          apply dag_val Ext.refl rfl (by intro W hW H; go_simp <;> rfl)
          simp only [Act.put, List.setIfInBounds_toArray, List.set_cons_zero, List.set_cons_succ]
          refine' dag_call rfl (by intro W; go_simp <;> rfl) (fun W hW H => (of_any _ (xorL (la.take j) (lb.take j)) W (hfx'.view.ext hW)).mono (by rintro e w' ⟨rfl, rfl⟩; exact ⟨rfl, Ext.refl _⟩)) _
          rotate_left
          simp only [Act.put, List.setIfInBounds_toArray, List.set_cons_zero, List.set_cons_succ]
          apply dag_val Ext.refl rfl (by intro W hW H; go_simp <;> rfl)
          simp only [Act.put, List.setIfInBounds_toArray, List.set_cons_zero, List.set_cons_succ]
          apply dag_val Ext.refl rfl (by intro W hW H; go_simp <;> rfl)
          simp only [Act.put, List.setIfInBounds_toArray, List.set_cons_zero, List.set_cons_succ]
          refine' dag_val Ext.refl rfl (fun W hW H => run_sliceTo T.bytes rfl rfl W j c) _
          rotate_left
          simp only [Act.put, List.setIfInBounds_toArray, List.set_cons_zero, List.set_cons_succ]
          refine' dag_call rfl (by intro W; go_simp <;> rfl) (fun W hW H => (of_any _ (la.take j) W (ta.ext hW)).mono (by rintro e w' ⟨rfl, rfl⟩; exact ⟨rfl, Ext.refl _⟩)) _
          rotate_left
          simp only [Act.put, List.setIfInBounds_toArray, List.set_cons_zero, List.set_cons_succ]
          apply dag_val Ext.refl rfl (by intro W hW H; go_simp <;> rfl)
          simp only [Act.put, List.setIfInBounds_toArray, List.set_cons_zero, List.set_cons_succ]
          apply dag_val Ext.refl rfl (by intro W hW H; go_simp <;> rfl)
          simp only [Act.put, List.setIfInBounds_toArray, List.set_cons_zero, List.set_cons_succ]
          refine' dag_val Ext.refl rfl (fun W hW H => run_sliceTo T.bytes rfl rfl W j d) _
          rotate_left
          simp only [Act.put, List.setIfInBounds_toArray, List.set_cons_zero, List.set_cons_succ]
          refine' dag_call rfl (by intro W; go_simp <;> rfl) (fun W hW H => (of_any _ (lb.take j) W (tb.ext hW)).mono (by rintro e w' ⟨rfl, rfl⟩; exact ⟨rfl, Ext.refl _⟩)) _
          rotate_left
          simp only [Act.put, List.setIfInBounds_toArray, List.set_cons_zero, List.set_cons_succ]
          apply dag_val Ext.refl rfl (by intro W hW H; go_simp <;> rfl)
          simp only [Act.put, List.setIfInBounds_toArray, List.set_cons_zero, List.set_cons_succ]
          apply dag_val Ext.refl rfl (by intro W hW H; go_simp <;> rfl)
          simp only [Act.put, List.setIfInBounds_toArray, List.set_cons_zero, List.set_cons_succ]
          refine' dag_call rfl (by intro W; go_simp <;> rfl) (fun W hW H => (of_any _ (List.replicate j 0) W (hfz.view.ext hW)).mono (by rintro e w' ⟨rfl, rfl⟩; exact ⟨rfl, Ext.refl _⟩)) _
          rotate_left
          simp only [Act.put, List.setIfInBounds_toArray, List.set_cons_zero, List.set_cons_succ]
          apply dag_val Ext.refl rfl (by intro W hW H; go_simp <;> rfl)
          simp only [Act.put, List.setIfInBounds_toArray, List.set_cons_zero, List.set_cons_succ]
          apply dag_val Ext.refl rfl (by intro W hW H; go_simp <;> rfl)
          simp only [Act.put, List.setIfInBounds_toArray, List.set_cons_zero, List.set_cons_succ]
          apply dag_val Ext.refl rfl (by intro W hW H; go_simp <;> rfl)
          simp only [Act.put, List.setIfInBounds_toArray, List.set_cons_zero, List.set_cons_succ]
          refine' dag_call rfl (by intro W; go_simp <;> rfl) (fun W hW H => awake_any W) _
          rotate_left
          simp only [Act.put, List.setIfInBounds_toArray, List.set_cons_zero, List.set_cons_succ]
          apply dag_val Ext.refl rfl (by intro W hW H; go_simp <;> rfl)
          simp only [Act.put, List.setIfInBounds_toArray, List.set_cons_zero, List.set_cons_succ]
          apply dag_val Ext.refl rfl (by intro W hW H; go_simp <;> rfl)
          simp only [Act.put, List.setIfInBounds_toArray, List.set_cons_zero, List.set_cons_succ]
          refine dag_end fun W hW H => ?_
          go_wp2_with fail
          go_ret
          exact ⟨rfl, hX.trans hW⟩
    · clear hmk
      obtain ⟨hfz, hfx, hX0⟩ := zeros_two w n (by simp only [maxLen]; omega) HZ.out
      generalize ((w.alloc (.cells Z 5)).alloc (.cells Z 5)).drew = W0 at *
      clear HZ
      go_wp2_with fail
      go_loopw [8] (fun i wr => ∃ j : Nat, j ≤ n ∧ i = .int .i64 j ∧ FB wr w.heap.size (.slice (some ⟨w.heap.size + 1, 0, none⟩) n n) (xorL (la.take j) (lb.take j) ++ List.replicate (n - j) 0) ∧ FB wr w.heap.size (.slice (some ⟨w.heap.size, 0, none⟩) n n) (List.replicate n 0) ∧ Ext w wr) (fun i _ => n - (intOf i).toNat)
      case atStart => exact ⟨0, by omega, rfl, by simpa [xorL] using hfx, hfz, hX0⟩
      case round =>
        obtain ⟨j, hj, rfl, hfx, hfz, hX⟩ := hrel
        clear hX0
        by_cases hlt : j < n
        · obtain ⟨b1, o1, rfl, hca⟩ := hs.at (bs_get la (show j < la.length by omega))
          obtain ⟨b2, o2, rfl, hcb⟩ := ht.at (bs_get lb (show j < lb.length by omega))
          have hca1 := hX.cell hca
          have hcb1 := hX.cell hcb
          have hja : j < la.length := by omega
          have hjb : j < lb.length := by omega
          have hx := byte_xor la[j] lb[j]
          have HX := Lib.hid hx; clear hx hca hcb
          go_wp2_with fail
          apply wp_region_dag_tail 12 (X := Ext) (by kernel_rfl) (by kernel_rfl) (by kernel_rfl) (by decide) (fun _ _ _ => Ext.trans) (Ext.drew1 _)
          simp only [List.take_succ_cons, List.take_zero, List.drop_succ_cons, List.drop_zero]
          apply dag_val Ext.refl rfl (by intro W hW H; go_simp <;> rfl)
          simp only [Act.put, List.setIfInBounds_toArray, List.set_cons_zero, List.set_cons_succ]
          apply dag_val Ext.refl rfl (by intro W hW H; go_simp <;> rfl)
          simp only [Act.put, List.setIfInBounds_toArray, List.set_cons_zero, List.set_cons_succ]
          apply dag_val Ext.refl rfl (by intro W hW H; go_simp <;> rfl)
          simp only [Act.put, List.setIfInBounds_toArray, List.set_cons_zero, List.set_cons_succ]
          apply dag_val Ext.refl rfl (by intro W hW H; go_simp <;> rfl)
          simp only [Act.put, List.setIfInBounds_toArray, List.set_cons_zero, List.set_cons_succ]
          apply dag_val Ext.refl rfl (by intro W hW H; go_simp <;> rfl)
          simp only [Act.put, List.setIfInBounds_toArray, List.set_cons_zero, List.set_cons_succ]
          apply dag_val Ext.refl rfl (by intro W hW H; have hq := hW.cell hca1; go_simp <;> rfl)
          simp only [Act.put, List.setIfInBounds_toArray, List.set_cons_zero, List.set_cons_succ]
          apply dag_val Ext.refl rfl (by intro W hW H; go_simp <;> rfl)
          simp only [Act.put, List.setIfInBounds_toArray, List.set_cons_zero, List.set_cons_succ]
          apply dag_val Ext.refl rfl (by intro W hW H; go_simp <;> rfl)
          simp only [Act.put, List.setIfInBounds_toArray, List.set_cons_zero, List.set_cons_succ]
          apply dag_val Ext.refl rfl (by intro W hW H; go_simp <;> rfl)
          simp only [Act.put, List.setIfInBounds_toArray, List.set_cons_zero, List.set_cons_succ]
          apply dag_val Ext.refl rfl (by intro W hW H; have hq := hW.cell hcb1; go_simp <;> rfl)
          simp only [Act.put, List.setIfInBounds_toArray, List.set_cons_zero, List.set_cons_succ]
          apply dag_val Ext.refl rfl (by intro W hW H; go_simp <;> rfl)
          simp only [Act.put, List.setIfInBounds_toArray, List.set_cons_zero, List.set_cons_succ]
          apply dag_val Ext.refl rfl (by intro W hW H; go_simp <;> rfl)
          simp only [Act.put, List.setIfInBounds_toArray, List.set_cons_zero, List.set_cons_succ]
          refine dag_end fun W hW H => ?_
          have hfx1 := hfx.keep hW
          have hcx := hfx1.cell (j := j) (by rw [List.length_append, xorL_length _ _ (by simp; omega)]; simp; omega)
          have hfr := hfx1.free j
          have hst := hfx1.store j (la[j] ^^^ lb[j])
          rw [HX.out]
          have HF := Lib.hid hst; clear hst hfx1
          go_wp2
          go_roundw
          case rel =>
            refine ⟨j + 1, by omega, by go_num, ?_, FB.far (hfz.keep hW) (by simp [Value.ownBlock]) _, (hX.trans hW).store (by simp) _⟩
            rw [← xorL_take_set la lb hna hnb hlt]
            exact HF.out
          case measure => simp [intOf]; omega
        · obtain rfl : j = n := by omega
          have ta := (ha0.ext hX).take (k := j) (c' := c) hna (by omega) (Nat.le_refl _)
          have tb := (hb0.ext hX).take (k := j) (c' := d) hnb (by omega) (Nat.le_refl _)
          have hfx' : FB wr w.heap.size (.slice (some ⟨w.heap.size + 1, 0, none⟩) j j) (xorL (la.take j) (lb.take j)) := by simpa using hfx
          have hK : (un (sumOf (xorL (la.take j) (lb.take j))) == un (sumOf (la.take j) ^^^ sumOf (lb.take j) ^^^ sumOf (List.replicate j 0))) = true := by
            have e : (la.take j).length = j := by simp; omega
            have := HL.out
            rw [e] at this
            rw [this]; simp
          have b1 := bits_xor_bv (sumOf (la.take j)) (sumOf (lb.take j))
          have b2 := bits_xor_bv (sumOf (la.take j) ^^^ sumOf (lb.take j)) (sumOf (List.replicate j 0))
          clear hfx hmin
          go_wp2_with fail
          apply wp_region_dag (X := Ext) (by kernel_rfl) (by kernel_rfl) (fun _ _ _ => Ext.trans) (Ext.drew1 _)
          apply dag_val Ext.refl rfl (by intro W hW H; go_simp <;> rfl)
          simp only [Act.put, List.setIfInBounds_toArray, List.set_cons_zero, List.set_cons_succ]
          refine' dag_call rfl (by intro W; go_simp <;> rfl) (fun W hW H => (of_any _ (xorL (la.take j) (lb.take j)) W (hfx'.view.ext hW)).mono (by rintro e w' ⟨rfl, rfl⟩; exact ⟨rfl, Ext.refl _⟩)) _
          rotate_left
          simp only [Act.put, List.setIfInBounds_toArray, List.set_cons_zero, List.set_cons_succ]
          apply dag_val Ext.refl rfl (by intro W hW H; go_simp <;> rfl)
          simp only [Act.put, List.setIfInBounds_toArray, List.set_cons_zero, List.set_cons_succ]
          apply dag_val Ext.refl rfl (by intro W hW H; go_simp <;> rfl)
          simp only [Act.put, List.setIfInBounds_toArray, List.set_cons_zero, List.set_cons_succ]
          refine' dag_val Ext.refl rfl (fun W hW H => run_sliceTo T.bytes rfl rfl W j c) _
          rotate_left
          simp only [Act.put, List.setIfInBounds_toArray, List.set_cons_zero, List.set_cons_succ]
          refine' dag_call rfl (by intro W; go_simp <;> rfl) (fun W hW H => (of_any _ (la.take j) W (ta.ext hW)).mono (by rintro e w' ⟨rfl, rfl⟩; exact ⟨rfl, Ext.refl _⟩)) _
          rotate_left
          simp only [Act.put, List.setIfInBounds_toArray, List.set_cons_zero, List.set_cons_succ]
          apply dag_val Ext.refl rfl (by intro W hW H; go_simp <;> rfl)
          simp only [Act.put, List.setIfInBounds_toArray, List.set_cons_zero, List.set_cons_succ]
          apply dag_val Ext.refl rfl (by intro W hW H; go_simp <;> rfl)
          simp only [Act.put, List.setIfInBounds_toArray, List.set_cons_zero, List.set_cons_succ]
          refine' dag_val Ext.refl rfl (fun W hW H => run_sliceTo T.bytes rfl rfl W j d) _
          rotate_left
          simp only [Act.put, List.setIfInBounds_toArray, List.set_cons_zero, List.set_cons_succ]
          refine' dag_call rfl (by intro W; go_simp <;> rfl) (fun W hW H => (of_any _ (lb.take j) W (tb.ext hW)).mono (by rintro e w' ⟨rfl, rfl⟩; exact ⟨rfl, Ext.refl _⟩)) _
          rotate_left
          simp only [Act.put, List.setIfInBounds_toArray, List.set_cons_zero, List.set_cons_succ]
          apply dag_val Ext.refl rfl (by intro W hW H; go_simp <;> rfl)
          simp only [Act.put, List.setIfInBounds_toArray, List.set_cons_zero, List.set_cons_succ]
          apply dag_val Ext.refl rfl (by intro W hW H; go_simp <;> rfl)
          simp only [Act.put, List.setIfInBounds_toArray, List.set_cons_zero, List.set_cons_succ]
          refine' dag_call rfl (by intro W; go_simp <;> rfl) (fun W hW H => (of_any _ (List.replicate j 0) W (hfz.view.ext hW)).mono (by rintro e w' ⟨rfl, rfl⟩; exact ⟨rfl, Ext.refl _⟩)) _
          rotate_left
          simp only [Act.put, List.setIfInBounds_toArray, List.set_cons_zero, List.set_cons_succ]
          apply dag_val Ext.refl rfl (by intro W hW H; go_simp <;> rfl)
          simp only [Act.put, List.setIfInBounds_toArray, List.set_cons_zero, List.set_cons_succ]
          apply dag_val Ext.refl rfl (by intro W hW H; go_simp <;> rfl)
          simp only [Act.put, List.setIfInBounds_toArray, List.set_cons_zero, List.set_cons_succ]
          apply dag_val Ext.refl rfl (by intro W hW H; go_simp <;> rfl)
          simp only [Act.put, List.setIfInBounds_toArray, List.set_cons_zero, List.set_cons_succ]
          refine' dag_call rfl (by intro W; go_simp <;> rfl) (fun W hW H => awake_any W) _
          rotate_left
          simp only [Act.put, List.setIfInBounds_toArray, List.set_cons_zero, List.set_cons_succ]
          apply dag_val Ext.refl rfl (by intro W hW H; go_simp <;> rfl)
          simp only [Act.put, List.setIfInBounds_toArray, List.set_cons_zero, List.set_cons_succ]
          apply dag_val Ext.refl rfl (by intro W hW H; go_simp <;> rfl)
          simp only [Act.put, List.setIfInBounds_toArray, List.set_cons_zero, List.set_cons_succ]
          refine dag_end fun W hW H => ?_
          go_wp2_with fail
          go_ret
          exact ⟨rfl, hX.trans hW⟩
end Go.Proofs.Ytcfociegdnhneaa
