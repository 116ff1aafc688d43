/- What the program's and the document's functions of layer 2 compute: sums, sealing and opening. -/
import Derived.Test.YtlbeemjcndhenaaFixR
namespace Go.Proofs.Ytlbeemjcndhenaa
open Go.RowKit

set_option maxHeartbeats 400000 in
theorem half_any (c : BitVec 64) (w : World) :
    Calls Try.prog 46 #[uv c] w fun e w' => e = .returned (uv (crcN 4 c)) ∧ w = w' := by
  go_enter Try.func46, Try.ntmps46
  go_wp2
  go_loop [0, 3] (fun t i => ∃ k : Nat, k ≤ 4 ∧ i = .int .i64 k ∧ t = uv (crcN k c)) (fun _ i => 4 - (intOf i).toNat)
  case atStart => exact ⟨0, by omega, rfl, rfl⟩
  case round =>
    obtain ⟨k, hk, rfl, rfl⟩ := hrel
    by_cases hlt : k < 4
    · have HS := Lib.hid (half_step (crcN k c))
      go_wp2
      go_round
      case rel => exact ⟨k + 1, by omega, by go_num, by rw [HS.out]; rfl⟩
      case measure => simp [intOf]; omega
    · obtain rfl : k = 4 := by omega
      go_wp2
      go_ret
      exact ⟨rfl, rfl⟩

set_option maxHeartbeats 400000 in
theorem more_any (s : BitVec 64) (v : Value) (l : List UInt8) (w : World) (h : BV w v l) :
    Calls Try.prog 45 #[uv s, v] w fun e w' => e = .returned (uv (sumMore s l)) ∧ w = w' := by
  obtain ⟨p, c, rfl, hn, hc, hs⟩ := h
  unfold maxLen at hc
  go_enter Try.func45, Try.ntmps45
  have HN := Lib.hid (not_bv s)
  go_wp2_with fail
  rw [HN.out]
  go_loop [5, 12] (fun t i => ∃ k : Nat, k ≤ l.length ∧ i = .int .i64 k ∧ t = uv (crcAll (~~~ s) (l.take k))) (fun _ i => l.length - (intOf i).toNat)
  case atStart => exact ⟨0, by omega, rfl, rfl⟩
  case round =>
    obtain ⟨k, hk, rfl, rfl⟩ := hrel
    by_cases hlt : k < l.length
    · obtain ⟨b, o, rfl, hcell⟩ := hs.at (bs_get l hlt)
      have HX := xor_byte (crcAll (~~~ s) (l.take k)) l[k]
      have HS := Lib.hid (crcAll_snoc (~~~ s) l hlt)
      go_wp2_with (go_at_call 46; refine (half_any _ _).mono ?_; rintro e w' ⟨rfl, rfl⟩)
      go_round
      case rel => exact ⟨k + 1, by omega, by go_num, by rw [HS.out]⟩
      case measure => simp [intOf]; omega
    · obtain rfl : k = l.length := by omega
      have HM := Lib.hid (not_bv (crcAll (~~~ s) l))
      go_wp2
      go_ret
      exact ⟨by rw [HM.out]; rfl, rfl⟩

set_option maxHeartbeats 400000 in
theorem of_any (v : Value) (l : List UInt8) (w : World) (h : BV w v l) :
    Calls Try.prog 39 #[v] w fun e w' => e = .returned (uv (sumOf l)) ∧ w = w' := by
  go_enter Try.func39, Try.ntmps39
  go_wp2_with (go_at_call 45; refine (more_any 0 v l _ h).mono ?_; rintro e w' ⟨rfl, rfl⟩)
  go_ret
  exact ⟨rfl, rfl⟩

set_option maxHeartbeats 400000 in
theorem seal_any (v : Value) (l : List UInt8) (w : World) (h : BV w v l) (hl : l.length ≤ 140737488355000) :
    Calls Try.prog 24 #[v] w fun e w' => ∃ v', e = .returned v' ∧ FB w' w.heap.size v' (sealL l) ∧ Ext w w' := by
  go_enter Try.func24, Try.ntmps24
  go_wp2_with (first
    | (go_at_call 39; refine (of_any v l _ h).mono ?_; rintro e w' ⟨rfl, rfl⟩)
    | (go_at_call 23; refine (fixed_any _ 8 (by omega) _).mono ?_; rintro e w1 ⟨v1, rfl, hf1, hx1⟩)
    | (at_builtin; refine wpList_append_bytes T.bytes rfl rfl rfl rfl hf1 (h.ext hx1) (by rw [fixedL_length]; omega) hx1.size ?_; intro v2 w2 hf2 hg2 _))
  go_ret
  exact ⟨_, rfl, hf2, hx1.thenBelow (below_grown hf1 hg2 (Nat.le_refl _) hx1.size)⟩

set_option maxHeartbeats 400000 in
theorem open_any (v : Value) (l : List UInt8) (w : World) (h : BV w v l) (hl : l.length ≤ 140737488355328) :
    Calls Try.prog 32 #[v] w fun e w' => ∃ v', e = .returned (.tuple #[v', .int .i64 (openL l).2]) ∧ FB w' w.heap.size v' (openL l).1 ∧ Ext w w' := by
  have h0 := h
  obtain ⟨p, c, rfl, hn, hc, hs⟩ := h
  unfold maxLen at hc
  by_cases h8 : l.length < 8
  · have e : openL l = ([], 3) := by unfold openL; rw [if_pos h8]
    rw [e]
    go_enter Try.func32, Try.ntmps32
    go_wp2_with fail
    go_ret2
    exact ⟨_, rfl, FB.nil _ _, Ext.refl _⟩
  · have t8 := h0.take (k := 8) (c' := c) (by omega) (by omega) (Nat.le_refl _)
    have d8 := h0.drop (k := 8) (by omega)
    go_enter Try.func32, Try.ntmps32
    go_wp2_with fail
    apply wp_region_dag (X := Ext) (by kernel_rfl) (by kernel_rfl) (fun _ _ _ => Ext.trans) (Ext.drew1 _)
    apply dag_val Ext.refl rfl (by intro W hW H; go_simp <;> rfl)
    simp only [Act.put, List.setIfInBounds_toArray, List.set_cons_zero, List.set_cons_succ]
    refine' dag_val Ext.refl rfl (fun W _ _ => run_sliceTo T.bytes rfl rfl W 8 c) _
    rotate_left
    simp only [Act.put, List.setIfInBounds_toArray, List.set_cons_zero, List.set_cons_succ]
    refine' dag_call rfl (by intro W; go_simp <;> rfl) (fun W hW H => (unfixed_any _ _ W (t8.ext hW)).mono (by rintro e w' ⟨rfl, rfl⟩; exact ⟨rfl, Ext.refl _⟩)) _
    rotate_left
    simp only [Act.put, List.setIfInBounds_toArray, List.set_cons_zero, List.set_cons_succ]
    apply dag_val Ext.refl rfl (by intro W hW H; go_simp <;> rfl)
    simp only [Act.put, List.setIfInBounds_toArray, List.set_cons_zero, List.set_cons_succ]
    refine' dag_val Ext.refl rfl (fun W _ _ => run_slice T.bytes rfl rfl W 8 l.length c) _
    rotate_left
    simp only [Act.put, List.setIfInBounds_toArray, List.set_cons_zero, List.set_cons_succ]
    refine' dag_call rfl (by intro W; go_simp <;> rfl) (fun W hW H => (of_any _ _ W (d8.ext hW)).mono (by rintro e w' ⟨rfl, rfl⟩; exact ⟨rfl, Ext.refl _⟩)) _
    rotate_left
    simp only [Act.put, List.setIfInBounds_toArray, List.set_cons_zero, List.set_cons_succ]
    apply dag_val Ext.refl rfl (by intro W hW H; go_simp <;> rfl)
    simp only [Act.put, List.setIfInBounds_toArray, List.set_cons_zero, List.set_cons_succ]
    apply dag_val Ext.refl rfl (by intro W hW H; go_simp <;> rfl)
    simp only [Act.put, List.setIfInBounds_toArray, List.set_cons_zero, List.set_cons_succ]
    refine dag_end fun W hW _ => ?_
    have h1 := (d8.ext hW)
    by_cases hne : unfixed (l.take 8) = sumOf (l.drop 8)
    · have e : openL l = (l.drop 8, 0) := by unfold openL; rw [if_neg h8, if_neg (by simpa using hne)]
      have E := Lib.hid e; clear e
      have hb : (un (unfixed (l.take 8)) != un (sumOf (l.drop 8))) = false := by rw [hne]; simp
      rw [hb]
      go_wp2_with (first
        | (refine wpList_slice T.bytes rfl rfl rfl 8 l.length c ?_)
        | (go_at_call 43; refine (clone_any _ _ _ h1 (by simp; omega)).mono ?_; rintro e w1 ⟨v1, rfl, hf1, hx1⟩))
      go_ret2
      exact ⟨_, by rw [E.out]; rfl, by rw [E.out]; exact hf1.base hW.size, hW.trans hx1⟩
    · have e : openL l = ([], 12) := by unfold openL; rw [if_neg h8, if_pos hne]
      have E := Lib.hid e; clear e
      have hb : (un (unfixed (l.take 8)) != un (sumOf (l.drop 8))) = true := by
        rw [bne_iff_ne]; exact fun e => hne (un_inj e)
      rw [hb]
      go_wp2_with fail
      go_ret2
      exact ⟨_, by rw [E.out]; rfl, by rw [E.out]; exact FB.nil _ _, hW⟩

/-! ### The document's functions -/

set_option maxHeartbeats 400000 in
theorem rof_any (v : Value) (l : List UInt8) (w : World) (h : BV w v l) :
    Calls Try.prog 41 #[v] w fun e w' => e = .returned (uv (sumOf l)) ∧ w = w' := by
  obtain ⟨p, c, rfl, hn, hc, hs⟩ := h
  unfold maxLen at hc
  go_enter Try.func41, Try.ntmps41
  go_wp2_with fail
  go_loop [3, 4] (fun t i => ∃ k : Nat, k ≤ l.length ∧ i = .int .i64 k ∧ t = uv (crcAll ones (l.take k))) (fun _ i => l.length - (intOf i).toNat)
  case atStart => exact ⟨0, by omega, rfl, rfl⟩
  case round =>
    obtain ⟨k, hk, rfl, rfl⟩ := hrel
    by_cases hlt : k < l.length
    · obtain ⟨b, o, rfl, hcell⟩ := hs.at (bs_get l hlt)
      have HX := xor_byte (crcAll ones (l.take k)) l[k]
      have HS := Lib.hid (crcAll_snoc8 ones l hlt)
      go_wp2
      go_loop [3, 5] (fun t j => ∃ m : Nat, m ≤ 8 ∧ j = .int .i64 m ∧ t = uv (crcN m (crcAll ones (l.take k) ^^^ ofByte l[k]))) (fun _ j => 8 - (intOf j).toNat)
      case atStart => exact ⟨0, by omega, rfl, rfl⟩
      case round =>
        obtain ⟨m, hm, rfl, rfl⟩ := hrel
        by_cases hm8 : m < 8
        · generalize hd : crcN m (crcAll ones (l.take k) ^^^ ofByte l[k]) = d
          have HD := Lib.hid hd; clear hd
          have HC := Lib.hid (shr_crc d)
          have h1 := quo2_bv d
          have h2 := poly_xor (d >>> 1)
          have h3 := un_nonneg d
          by_cases hb : un d % 2 = 1
          · have hb1 : (un d % 2 == 1) = true := by simp [hb]
            have HB := Lib.hid hb; clear hb
            go_wp2
            go_round
            case rel => exact ⟨m + 1, by omega, by go_num, by simp only [crcN]; rw [HD.out, HC.out, if_pos HB.out]⟩
            case measure => simp [intOf]; omega
          · have hb1 : (un d % 2 == 1) = false := by simp [hb]
            have HB := Lib.hid hb; clear hb
            go_wp2
            go_round
            case rel => exact ⟨m + 1, by omega, by go_num, by simp only [crcN]; rw [HD.out, HC.out, if_neg HB.out]⟩
            case measure => simp [intOf]; omega
        · obtain rfl : m = 8 := by omega
          go_wp2
          go_round
          case rel => exact ⟨k + 1, by omega, by go_num, by rw [HS.out]⟩
          case measure => simp [intOf]; omega
    · obtain rfl : k = l.length := by omega
      have HM := Lib.hid (ones_xor (crcAll ones l))
      go_wp2
      go_ret
      exact ⟨by show Ending.returned (Value.int .u64 (bits .xor .u64 (un (crcAll ones l)) 18446744073709551615)) = _; rw [HM.out]; rfl, rfl⟩

set_option maxHeartbeats 400000 in
theorem rseal_any (v : Value) (l : List UInt8) (w : World) (h : BV w v l) (hl : l.length ≤ 140737488355000) :
    Calls Try.prog 27 #[v] w fun e w' => ∃ v', e = .returned v' ∧ FB w' w.heap.size v' (sealL l) ∧ Ext w w' := by
  go_enter Try.func27, Try.ntmps27
  go_wp2_with (first
    | (go_at_call 41; refine (rof_any v l _ h).mono ?_; rintro e w' ⟨rfl, rfl⟩)
    | (go_at_call 26; refine (rfixed_any _ 8 (by omega) _).mono ?_; rintro e w1 ⟨v1, rfl, hf1, hx1⟩)
    | (at_builtin; refine wpList_append_bytes T.bytes rfl rfl rfl rfl hf1 (h.ext hx1) (by rw [fixedL_length]; omega) hx1.size ?_; intro v2 w2 hf2 hg2 _))
  go_ret
  exact ⟨_, rfl, hf2, hx1.thenBelow (below_grown hf1 hg2 (Nat.le_refl _) hx1.size)⟩

set_option maxHeartbeats 400000 in
theorem ropen_any (v : Value) (l : List UInt8) (w : World) (h : BV w v l) (hl : l.length ≤ 140737488355000) :
    Calls Try.prog 35 #[v] w fun e w' => ∃ v', e = .returned (.tuple #[v', .int .i64 (openL l).2]) ∧ FB w' w.heap.size v' (openL l).1 ∧ Ext w w' := by
  have h0 := h
  obtain ⟨p, c, rfl, hn, hc, hs⟩ := h
  unfold maxLen at hc
  by_cases h8 : l.length < 8
  · have e : openL l = ([], 3) := by unfold openL; rw [if_pos h8]
    rw [e]
    go_enter Try.func35, Try.ntmps35
    go_wp2_with fail
    go_ret2
    exact ⟨_, rfl, FB.nil _ _, Ext.refl _⟩
  · have d8 := h0.drop (k := 8) (by omega)
    go_enter Try.func35, Try.ntmps35
    go_wp2_with fail
    apply wp_region_dag (X := Ext) (by kernel_rfl) (by kernel_rfl) (fun _ _ _ => Ext.trans) (Ext.drew1 _)
    apply dag_val Ext.refl rfl (by intro W hW H; go_simp <;> rfl)
    simp only [Act.put, List.setIfInBounds_toArray, List.set_cons_zero, List.set_cons_succ]
    refine' dag_val Ext.refl rfl (fun W _ _ => run_slice T.bytes rfl rfl W 8 l.length c) _
    rotate_left
    simp only [Act.put, List.setIfInBounds_toArray, List.set_cons_zero, List.set_cons_succ]
    refine' dag_calls (fun v W => BV W v (sealL (l.drop 8))) (BV.stable _) rfl (by intro W; go_simp <;> rfl) (fun W hW H => (rseal_any _ _ W (d8.ext hW) (by simp; omega)).mono (by rintro e w' ⟨v1, rfl, hf1, hx1⟩; exact ⟨v1, rfl, hf1.view, hx1⟩)) (fun v1 => _)
    rotate_left
    simp only [Act.put, List.setIfInBounds_toArray, List.set_cons_zero, List.set_cons_succ]
    refine' dag_val Ext.refl rfl (fun W hW H => run_op_bytes_string T.bytes T.u8 T.str rfl rfl (l := sealL (l.drop 8)) (by exact H 2 (by kernel_rfl))) _
    rotate_left
    simp only [Act.put, List.setIfInBounds_toArray, List.set_cons_zero, List.set_cons_succ]
    apply dag_val Ext.refl rfl (by intro W hW H; go_simp <;> rfl)
    simp only [Act.put, List.setIfInBounds_toArray, List.set_cons_zero, List.set_cons_succ]
    refine' dag_val Ext.refl rfl (fun W hW H => run_op_bytes_string T.bytes T.u8 T.str rfl rfl (l := l) (by exact h0.ext hW)) _
    rotate_left
    simp only [Act.put, List.setIfInBounds_toArray, List.set_cons_zero, List.set_cons_succ]
    apply dag_val Ext.refl rfl (by intro W hW H; go_simp <;> rfl)
    simp only [Act.put, List.setIfInBounds_toArray, List.set_cons_zero, List.set_cons_succ]
    refine dag_end fun W hW _ => ?_
    have h1 := (d8.ext hW)
    have hb := beq_seal l (by omega)
    by_cases hne : unfixed (l.take 8) = sumOf (l.drop 8)
    · have e : openL l = (l.drop 8, 0) := by unfold openL; rw [if_neg h8, if_neg (by simpa using hne)]
      have E := Lib.hid e; clear e
      rw [hb, decide_eq_true hne]
      clear hb hne
      go_wp2_with (first
        | (refine wpList_slice T.bytes rfl rfl rfl 8 l.length c ?_)
        | (at_builtin; refine wpList_append_bytes T.bytes rfl rfl rfl rfl (FB.lit0 W (Nat.le_refl _)) (h1.ext (Ext.alloc _ _)) (by simp; omega) (by simp) ?_; intro v2 w2 hf2 hg2 _))
      go_ret2
      exact ⟨_, by rw [E.out]; rfl, by rw [E.out]; exact FB.base (by simpa using hf2) hW.size, (hW.trans (Ext.alloc _ _)).thenBelow (below_grown (FB.lit0 W (Nat.le_refl _)) hg2 hW.size (by have := hW.size; simp; omega))⟩
    · have e : openL l = ([], 12) := by unfold openL; rw [if_neg h8, if_pos hne]
      have E := Lib.hid e; clear e
      rw [hb, decide_eq_false hne]
      clear hb hne
      go_wp2_with fail
      go_ret2
      exact ⟨_, by rw [E.out]; rfl, by rw [E.out]; exact FB.nil _ _, hW⟩
end Go.Proofs.Ytlbeemjcndhenaa
