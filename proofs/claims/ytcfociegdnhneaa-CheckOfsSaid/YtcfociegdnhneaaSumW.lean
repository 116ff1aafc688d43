/- What the program's and the document's functions of layers 1 and 2 compute: sums, numbers of a set width, sealing and opening. -/
import Derived.Test.YtcfociegdnhneaaProg
import Derived.Test.YtcfociegdnhneaaMem
import Derived.Test.YtcfociegdnhneaaSum
import Derived.Lib.Hide
import Derived.Deep.LoopGhost
namespace Go.Proofs.Ytcfociegdnhneaa
open Go.RowKit

theorem T.info : (Try.prog.info? 5).map (fun i => (i.zero, i.size, i.bytes)) = some (some (.int .u8 0), 1, 1) := by kernel_rfl
theorem T.bytes : RowT Try.prog 22 5 (.int .u8 0) 1 1 := ⟨Try.underlying22, info_parts T.info, rfl, by omega⟩

set_option maxHeartbeats 400000 in
theorem half_any (c : BitVec 64) (w : World) :
    Calls Try.prog 15 #[uv c] w fun e w' => e = .returned (uv (crcN 4 c)) ∧ w = w' := by
  go_enter Try.func15, Try.ntmps15
  go_wp2
  go_loop [0, 3] (fun t i => ∃ k : Nat, k ≤ 4 ∧ i = .int .i64 k ∧ t = uv (crcN k c)) (fun _ i => 4 - (intOf i).toNat)
  case atStart => exact ⟨0, by omega, rfl, rfl⟩
  case round =>
    obtain ⟨k, hk, rfl, rfl⟩ := hrel
    by_cases hlt : k < 4
    · have HS := Lib.hid (half_step (crcN k c))
      go_wp2
      go_round
      case rel => exact ⟨k + 1, by omega, by go_num, by rw [HS.out]; rfl⟩
      case measure => simp [intOf]; omega
    · obtain rfl : k = 4 := by omega
      go_wp2
      go_ret
      exact ⟨rfl, rfl⟩

set_option maxHeartbeats 400000 in
theorem more_any (s : BitVec 64) (v : Value) (l : List UInt8) (w : World) (h : BV w v l) :
    Calls Try.prog 10 #[uv s, v] w fun e w' => e = .returned (uv (sumMore s l)) ∧ w = w' := by
  obtain ⟨p, c, rfl, hn, hc, hs⟩ := h
  unfold maxLen at hc
  go_enter Try.func10, Try.ntmps10
  have HN := Lib.hid (not_bv s)
  go_wp2_with fail
  rw [HN.out]
  go_loop [5, 12] (fun t i => ∃ k : Nat, k ≤ l.length ∧ i = .int .i64 k ∧ t = uv (crcAll (~~~ s) (l.take k))) (fun _ i => l.length - (intOf i).toNat)
  case atStart => exact ⟨0, by omega, rfl, rfl⟩
  case round =>
    obtain ⟨k, hk, rfl, rfl⟩ := hrel
    by_cases hlt : k < l.length
    · obtain ⟨b, o, rfl, hcell⟩ := hs.at (bs_get l hlt)
      have HX := xor_byte (crcAll (~~~ s) (l.take k)) l[k]
      have HS := Lib.hid (crcAll_snoc (~~~ s) l hlt)
      go_wp2_with (go_at_call 15; refine (half_any _ _).mono ?_; rintro e w' ⟨rfl, rfl⟩)
      go_round
      case rel => exact ⟨k + 1, by omega, by go_num, by rw [HS.out]⟩
      case measure => simp [intOf]; omega
    · obtain rfl : k = l.length := by omega
      have HM := Lib.hid (not_bv (crcAll (~~~ s) l))
      go_wp2
      go_ret
      exact ⟨by rw [HM.out]; rfl, rfl⟩

set_option maxHeartbeats 400000 in
theorem of_any (v : Value) (l : List UInt8) (w : World) (h : BV w v l) :
    Calls Try.prog 9 #[v] w fun e w' => e = .returned (uv (sumOf l)) ∧ w = w' := by
  go_enter Try.func9, Try.ntmps9
  go_wp2_with (go_at_call 10; refine (more_any 0 v l _ h).mono ?_; rintro e w' ⟨rfl, rfl⟩)
  go_ret
  exact ⟨rfl, rfl⟩

set_option maxHeartbeats 400000 in
theorem unfixed_any (v : Value) (l : List UInt8) (w : World) (h : BV w v l) :
    Calls Try.prog 16 #[v] w fun e w' => e = .returned (uv (unfixed l)) ∧ w = w' := by
  obtain ⟨p, c, rfl, hn, hc, hs⟩ := h
  unfold maxLen at hc
  go_enter Try.func16, Try.ntmps16
  go_wp2_with fail
  go_loop [3, 8] (fun t i => ∃ k : Nat, k ≤ l.length ∧ i = .int .i64 k ∧ t = uv (BitVec.ofNat 64 (valL (l.take k)))) (fun _ i => l.length - (intOf i).toNat)
  case atStart => exact ⟨0, by omega, rfl, rfl⟩
  case round =>
    obtain ⟨k, hk, rfl, rfl⟩ := hrel
    by_cases hlt : k < l.length
    · obtain ⟨b, o, rfl, hcell⟩ := hs.at (bs_get l hlt)
      have HW := wrap_mul256 (valL (l.take k))
      have HX := or_byte (valL (l.take k)) l[k]
      have HS := Lib.hid (valL_take l hlt)
      go_wp2
      go_round
      case rel => exact ⟨k + 1, by omega, by go_num, by rw [HS.out]⟩
      case measure => simp [intOf]; omega
    · obtain rfl : k = l.length := by omega
      go_wp2
      go_ret
      exact ⟨rfl, rfl⟩

set_option maxHeartbeats 400000 in
theorem clone_any (v : Value) (l : List UInt8) (w : World) (h : BV w v l) (hl : l.length ≤ 140737488355328) :
    Calls Try.prog 17 #[v] w fun e w' => ∃ v', e = .returned v' ∧ FB w' w.heap.size v' l ∧ Ext w w' := by
  have h0 := h
  obtain ⟨p, c, rfl, hn, hc, hs⟩ := h
  unfold maxLen at hc
  have q22 : ∀ (w : World) (a : Option Addr) (n c n' c' : Nat), (binOp .eql 22 (.slice a n c) (.slice none n' c')).run Try.prog w = .ok (.bool a.isNone) w := fun w a n c n' c' => Lib.run_eql_slice_nil w _ _ a n c n' c' Try.underlying22
  cases p with
  | none =>
    have hl : l = [] := by
      cases l with
      | nil => rfl
      | cons x r =>
        obtain ⟨b, o, e, _⟩ := hs (by simp [bs])
        cases e
    subst hl
    go_enter Try.func17, Try.ntmps17
    go_wp2
    go_ret
    exact ⟨_, rfl, FB.nil _ _, Ext.refl _⟩
  | some ad =>
    have h1 := h0.ext (Ext.alloc w (.cells #[] 5))
    have hown : FB (w.alloc (.cells #[] 5)) w.heap.size (.slice (some ⟨w.heap.size, 0, none⟩) 0 0) [] := World.ownsRow_lit w #[] 0 (Nat.le_refl _) (by simp [maxLen]) rfl
    go_enter Try.func17, Try.ntmps17
    go_wp2_with (at_builtin; refine wpList_append_bytes T.bytes rfl rfl rfl rfl hown h1 (by simpa using hl) (by simp) ?_; intro v' w' hf hg _)
    go_ret
    exact ⟨_, rfl, by simpa using hf, (Ext.alloc w _).thenBelow (below_grown hown hg (Nat.le_refl _) (by simp))⟩

theorem wide_any (k : Nat) (hk : k ≤ 8) (w : World) :
    Calls Try.prog 20 #[.int .i64 k] w fun e w' => e = .returned (.int .i64 k) ∧ w = w' := by
  have h1 : min (k : Int) 8 = k := by omega
  have h2 : max (0 : Int) k = k := by omega
  go_enter Try.func20, Try.ntmps20
  go_wp2
  all_goals (go_ret; refine ⟨?_, rfl⟩)
  · rfl
  · have : k = 0 := by omega
    subst this
    rfl

set_option maxHeartbeats 400000 in
theorem fixed_any (n : BitVec 64) (k : Nat) (hk : k ≤ 8) (w : World) :
    Calls Try.prog 18 #[uv n, .int .i64 k] w fun e w' => ∃ v', e = .returned v' ∧ FB w' w.heap.size v' (fixedL n.toNat k) ∧ Ext w w' := by
  go_enter Try.func18, Try.ntmps18
  go_wp2_with (first | (go_at_call 20; refine (wide_any k hk _).mono ?_; rintro e w' ⟨rfl, rfl⟩) | (refine wpList_make_bytes T.bytes rfl rfl rfl rfl (by omega) ?_; intro w1 hf0 hx0))
  go_loopw [12] (fun i wr => ∃ j : Nat, j ≤ k ∧ i = .int .i64 j ∧ FB wr w.heap.size (.slice (some ⟨w.heap.size, 0, none⟩) k k) (List.replicate (k - j) 0 ++ fixedL n.toNat j) ∧ Ext w wr) (fun i _ => k - (intOf i).toNat)
  case atStart => exact ⟨0, by omega, rfl, by simpa [fixedL] using hf0, hx0⟩
  case round =>
    obtain ⟨j, hj, rfl, hf, hx⟩ := hrel
    by_cases hlt : j < k
    · have hc := hf.cell (j := k - 1 - j) (by simp [fixedL_length]; omega)
      have hz := hf.free (k - 1 - j)
      have H1 := Lib.hid hf
      have hsz := hx.size
      clear hf
      go_wp2
      go_roundw
      case rel =>
        have h1 := H1.out.store (k - 1 - j) (UInt8.ofNat (n.toNat / 256 ^ j))
        rw [fixed_store _ _ _ hlt] at h1
        rw [byte_at]
        exact ⟨j + 1, by omega, by go_num, h1, hx.setCell (Nat.le_refl _) _⟩
      case measure => simp [intOf]; omega
    · obtain rfl : j = k := by omega
      go_wp2
      go_ret
      exact ⟨_, rfl, by simpa using hf, hx⟩

set_option maxHeartbeats 400000 in
theorem seal_any (v : Value) (l : List UInt8) (w : World) (h : BV w v l) (hl : l.length ≤ 140737488355000) :
    Calls Try.prog 13 #[v] w fun e w' => ∃ v', e = .returned v' ∧ FB w' w.heap.size v' (sealL l) ∧ Ext w w' := by
  go_enter Try.func13, Try.ntmps13
  go_wp2_with (first
    | (go_at_call 9; refine (of_any v l _ h).mono ?_; rintro e w' ⟨rfl, rfl⟩)
    | (go_at_call 18; refine (fixed_any _ 8 (by omega) _).mono ?_; rintro e w1 ⟨v1, rfl, hf1, hx1⟩)
    | (at_builtin; refine wpList_append_bytes T.bytes rfl rfl rfl rfl hf1 (h.ext hx1) (by rw [fixedL_length]; omega) hx1.size ?_; intro v2 w2 hf2 hg2 _))
  go_ret
  exact ⟨_, rfl, hf2, hx1.thenBelow (below_grown hf1 hg2 (Nat.le_refl _) hx1.size)⟩

set_option maxHeartbeats 400000 in
theorem open_any (v : Value) (l : List UInt8) (w : World) (h : BV w v l) (hl : l.length ≤ 140737488355328) :
    Calls Try.prog 11 #[v] w fun e w' => ∃ v', e = .returned (.tuple #[v', .int .i64 (openL l).2]) ∧ FB w' w.heap.size v' (openL l).1 ∧ Ext w w' := by
  have h0 := h
  obtain ⟨p, c, rfl, hn, hc, hs⟩ := h
  unfold maxLen at hc
  by_cases h8 : l.length < 8
  · have e : openL l = ([], 3) := by unfold openL; rw [if_pos h8]
    rw [e]
    go_enter Try.func11, Try.ntmps11
    go_wp2_with fail
    go_ret2
    exact ⟨_, rfl, FB.nil _ _, Ext.refl _⟩
  · have t8 := h0.take (k := 8) (c' := c) (by omega) (by omega) (Nat.le_refl _)
    have d8 := h0.drop (k := 8) (by omega)
    go_enter Try.func11, Try.ntmps11
    go_wp2_with fail
    apply wp_region_dag (X := Ext) (by kernel_rfl) (by kernel_rfl) (fun _ _ _ => Ext.trans) (Ext.drew1 _)
    apply dag_val Ext.refl rfl (by intro W hW H; go_simp <;> rfl)
    simp only [Act.put, List.setIfInBounds_toArray, List.set_cons_zero, List.set_cons_succ]
    refine' dag_val Ext.refl rfl (fun W _ _ => run_sliceTo T.bytes rfl rfl W 8 c) _
    rotate_left
    simp only [Act.put, List.setIfInBounds_toArray, List.set_cons_zero, List.set_cons_succ]
    refine' dag_call rfl (by intro W; go_simp <;> rfl) (fun W hW H => (unfixed_any _ _ W (t8.ext hW)).mono (by rintro e w' ⟨rfl, rfl⟩; exact ⟨rfl, Ext.refl _⟩)) _
    rotate_left
    simp only [Act.put, List.setIfInBounds_toArray, List.set_cons_zero, List.set_cons_succ]
    apply dag_val Ext.refl rfl (by intro W hW H; go_simp <;> rfl)
    simp only [Act.put, List.setIfInBounds_toArray, List.set_cons_zero, List.set_cons_succ]
    refine' dag_val Ext.refl rfl (fun W _ _ => run_slice T.bytes rfl rfl W 8 l.length c) _
    rotate_left
    simp only [Act.put, List.setIfInBounds_toArray, List.set_cons_zero, List.set_cons_succ]
    refine' dag_call rfl (by intro W; go_simp <;> rfl) (fun W hW H => (of_any _ _ W (d8.ext hW)).mono (by rintro e w' ⟨rfl, rfl⟩; exact ⟨rfl, Ext.refl _⟩)) _
    rotate_left
    simp only [Act.put, List.setIfInBounds_toArray, List.set_cons_zero, List.set_cons_succ]
    apply dag_val Ext.refl rfl (by intro W hW H; go_simp <;> rfl)
    simp only [Act.put, List.setIfInBounds_toArray, List.set_cons_zero, List.set_cons_succ]
    apply dag_val Ext.refl rfl (by intro W hW H; go_simp <;> rfl)
    simp only [Act.put, List.setIfInBounds_toArray, List.set_cons_zero, List.set_cons_succ]
    refine dag_end fun W hW _ => ?_
    have h1 := (d8.ext hW)
    by_cases hne : unfixed (l.take 8) = sumOf (l.drop 8)
    · have e : openL l = (l.drop 8, 0) := by unfold openL; rw [if_neg h8, if_neg (by simpa using hne)]
      have E := Lib.hid e; clear e
      have hb : (un (unfixed (l.take 8)) != un (sumOf (l.drop 8))) = false := by rw [hne]; simp
      rw [hb]
      go_wp2_with (first
        | (refine wpList_slice T.bytes rfl rfl rfl 8 l.length c ?_)
        | (go_at_call 17; refine (clone_any _ _ _ h1 (by simp; omega)).mono ?_; rintro e w1 ⟨v1, rfl, hf1, hx1⟩))
      go_ret2
      exact ⟨_, by rw [E.out]; rfl, by rw [E.out]; exact hf1.base hW.size, hW.trans hx1⟩
    · have e : openL l = ([], 12) := by unfold openL; rw [if_neg h8, if_pos hne]
      have E := Lib.hid e; clear e
      have hb : (un (unfixed (l.take 8)) != un (sumOf (l.drop 8))) = true := by
        rw [bne_iff_ne]; exact fun e => hne (un_inj e)
      rw [hb]
      go_wp2_with fail
      go_ret2
      exact ⟨_, by rw [E.out]; rfl, by rw [E.out]; exact FB.nil _ _, hW⟩

/-! ### The document's functions -/
set_option maxHeartbeats 400000 in
theorem rfixed_any (n : BitVec 64) (k : Nat) (hk : k ≤ 8) (w : World) :
    Calls Try.prog 19 #[uv n, .int .i64 k] w fun e w' => ∃ v', e = .returned v' ∧ FB w' w.heap.size v' (fixedL n.toNat k) ∧ Ext w w' := by
  go_enter Try.func19, Try.ntmps19
  go_wp2
  go_loopw [0, 5, 6] (fun t v i wr => ∃ j : Nat, j ≤ k ∧ i = .int .i64 j ∧ t = .int .u64 ((n.toNat / 256 ^ j : Nat) : Int) ∧ FB wr w.heap.size v (fixedL n.toNat j) ∧ Ext w wr) (fun _ _ i _ => k - (intOf i).toNat)
  case atStart => exact ⟨0, by omega, rfl, by simp [un], FB.nil _ _, Ext.refl _⟩
  case round =>
    obtain ⟨j, hj, rfl, rfl, hf, hx⟩ := hrel
    by_cases hlt : j < k
    · have h8 : j < 8 := by omega
      have hlo : ((n.toNat / 256 ^ j : Nat) : Int) < 18446744073709551616 := by
        have := n.isLt
        have := Nat.div_le_self n.toNat (256 ^ j)
        omega
      have hq : n.toNat / 256 ^ (j + 1) = n.toNat / 256 ^ j / 256 := by rw [Nat.pow_succ, Nat.div_div_eq_div_mul]
      generalize hm : n.toNat / 256 ^ j = m at *
      have HM := Lib.hid hm; clear hm
      have HQ := Lib.hid hq; clear hq
      obtain ⟨x, h1, HX⟩ : ∃ x : UInt8, (m : Int) % 256 = (x.toNat : Int) ∧ Hid (x = UInt8.ofNat m) := ⟨UInt8.ofNat m, by rw [toNat_ofNat8]; omega, rfl⟩
      have h2 : IntKind.u64.wrap ((m : Int) / 256) = ((m / 256 : Nat) : Int) := by rw [IntKind.wrap_u64]; omega
      have H2 := Lib.hid h2; clear h2
      clear hlo
      obtain ⟨p, c, rfl, hn, hc, hs⟩ := hf.slice
      have hv := hf.view
      go_wp2_with (at_builtin; go_loud (refine wpList_append_bytes T.bytes rfl rfl rfl rfl (FB.lit1 wr hx.size _) (hv.ext (Ext.alloc _ _)) (by rw [fixedL_length]; simp; omega) (by have := hx.size; simp; omega) ?_; intro v2 w2 hf2 hg2 _))
      go_roundw
      case rel => exact ⟨j + 1, by omega, by go_num, by rw [HQ.out, H2.out], by simpa [fixedL, HM.out, HX.out] using hf2, (hx.trans (Ext.alloc _ _)).thenBelow (below_grown (FB.lit1 wr hx.size _) hg2 (Nat.le_refl _) (by have := hx.size; simp; omega))⟩
      case measure => simp [intOf]; omega
    · obtain rfl : j = k := by omega
      go_wp2
      go_ret
      exact ⟨_, rfl, hf, hx⟩

set_option maxHeartbeats 400000 in
theorem rof_any (v : Value) (l : List UInt8) (w : World) (h : BV w v l) :
    Calls Try.prog 8 #[v] w fun e w' => e = .returned (uv (sumOf l)) ∧ w = w' := by
  obtain ⟨p, c, rfl, hn, hc, hs⟩ := h
  unfold maxLen at hc
  go_enter Try.func8, Try.ntmps8
  go_wp2_with fail
  go_loop [3, 4] (fun t i => ∃ k : Nat, k ≤ l.length ∧ i = .int .i64 k ∧ t = uv (crcAll ones (l.take k))) (fun _ i => l.length - (intOf i).toNat)
  case atStart => exact ⟨0, by omega, rfl, rfl⟩
  case round =>
    obtain ⟨k, hk, rfl, rfl⟩ := hrel
    by_cases hlt : k < l.length
    · obtain ⟨b, o, rfl, hcell⟩ := hs.at (bs_get l hlt)
      have HX := xor_byte (crcAll ones (l.take k)) l[k]
      have HS := Lib.hid (crcAll_snoc8 ones l hlt)
      go_wp2
      go_loop [3, 5] (fun t j => ∃ m : Nat, m ≤ 8 ∧ j = .int .i64 m ∧ t = uv (crcN m (crcAll ones (l.take k) ^^^ ofByte l[k]))) (fun _ j => 8 - (intOf j).toNat)
      case atStart => exact ⟨0, by omega, rfl, rfl⟩
      case round =>
        obtain ⟨m, hm, rfl, rfl⟩ := hrel
        by_cases hm8 : m < 8
        · generalize hd : crcN m (crcAll ones (l.take k) ^^^ ofByte l[k]) = d
          have HD := Lib.hid hd; clear hd
          have HC := Lib.hid (shr_crc d)
          have h1 := quo2_bv d
          have h2 := poly_xor (d >>> 1)
          have h3 := un_nonneg d
          by_cases hb : un d % 2 = 1
          · have hb1 : (un d % 2 == 1) = true := by simp [hb]
            have HB := Lib.hid hb; clear hb
            go_wp2
            go_round
            case rel => exact ⟨m + 1, by omega, by go_num, by simp only [crcN]; rw [HD.out, HC.out, if_pos HB.out]⟩
            case measure => simp [intOf]; omega
          · have hb1 : (un d % 2 == 1) = false := by simp [hb]
            have HB := Lib.hid hb; clear hb
            go_wp2
            go_round
            case rel => exact ⟨m + 1, by omega, by go_num, by simp only [crcN]; rw [HD.out, HC.out, if_neg HB.out]⟩
            case measure => simp [intOf]; omega
        · obtain rfl : m = 8 := by omega
          go_wp2
          go_round
          case rel => exact ⟨k + 1, by omega, by go_num, by rw [HS.out]⟩
          case measure => simp [intOf]; omega
    · obtain rfl : k = l.length := by omega
      have HM := Lib.hid (ones_xor (crcAll ones l))
      go_wp2
      go_ret
      exact ⟨by show Ending.returned (Value.int .u64 (bits .xor .u64 (un (crcAll ones l)) 18446744073709551615)) = _; rw [HM.out]; rfl, rfl⟩

set_option maxHeartbeats 400000 in
theorem rseal_any (v : Value) (l : List UInt8) (w : World) (h : BV w v l) (hl : l.length ≤ 140737488355000) :
    Calls Try.prog 14 #[v] w fun e w' => ∃ v', e = .returned v' ∧ FB w' w.heap.size v' (sealL l) ∧ Ext w w' := by
  go_enter Try.func14, Try.ntmps14
  go_wp2_with (first
    | (go_at_call 8; refine (rof_any v l _ h).mono ?_; rintro e w' ⟨rfl, rfl⟩)
    | (go_at_call 19; refine (rfixed_any _ 8 (by omega) _).mono ?_; rintro e w1 ⟨v1, rfl, hf1, hx1⟩)
    | (at_builtin; refine wpList_append_bytes T.bytes rfl rfl rfl rfl hf1 (h.ext hx1) (by rw [fixedL_length]; omega) hx1.size ?_; intro v2 w2 hf2 hg2 _))
  go_ret
  exact ⟨_, rfl, hf2, hx1.thenBelow (below_grown hf1 hg2 (Nat.le_refl _) hx1.size)⟩

theorem T.u8 : Try.prog.underlying 5 = some (.int .u8) := Try.underlying5
theorem T.str : Try.prog.underlying 9 = some .string := Try.underlying9
theorem BV.stable (l : List UInt8) : ∀ v W W', Ext W W' → BV W v l → BV W' v l := fun _ _ _ hx h => h.ext hx

set_option maxHeartbeats 400000 in
theorem ropen_any (v : Value) (l : List UInt8) (w : World) (h : BV w v l) (hl : l.length ≤ 140737488355000) :
    Calls Try.prog 12 #[v] w fun e w' => ∃ v', e = .returned (.tuple #[v', .int .i64 (openL l).2]) ∧ FB w' w.heap.size v' (openL l).1 ∧ Ext w w' := by
  have h0 := h
  obtain ⟨p, c, rfl, hn, hc, hs⟩ := h
  unfold maxLen at hc
  by_cases h8 : l.length < 8
  · have e : openL l = ([], 3) := by unfold openL; rw [if_pos h8]
    rw [e]
    go_enter Try.func12, Try.ntmps12
    go_wp2_with fail
    go_ret2
    exact ⟨_, rfl, FB.nil _ _, Ext.refl _⟩
  · have d8 := h0.drop (k := 8) (by omega)
    go_enter Try.func12, Try.ntmps12
    go_wp2_with fail
    apply wp_region_dag (X := Ext) (by kernel_rfl) (by kernel_rfl) (fun _ _ _ => Ext.trans) (Ext.drew1 _)
    apply dag_val Ext.refl rfl (by intro W hW H; go_simp <;> rfl)
    simp only [Act.put, List.setIfInBounds_toArray, List.set_cons_zero, List.set_cons_succ]
    refine' dag_val Ext.refl rfl (fun W _ _ => run_slice T.bytes rfl rfl W 8 l.length c) _
    rotate_left
    simp only [Act.put, List.setIfInBounds_toArray, List.set_cons_zero, List.set_cons_succ]
    refine' dag_calls (fun v W => BV W v (sealL (l.drop 8))) (BV.stable _) rfl (by intro W; go_simp <;> rfl) (fun W hW H => (rseal_any _ _ W (d8.ext hW) (by simp; omega)).mono (by rintro e w' ⟨v1, rfl, hf1, hx1⟩; exact ⟨v1, rfl, hf1.view, hx1⟩)) (fun v1 => _)
    rotate_left
    simp only [Act.put, List.setIfInBounds_toArray, List.set_cons_zero, List.set_cons_succ]
    refine' dag_val Ext.refl rfl (fun W hW H => run_op_bytes_string T.bytes T.u8 T.str rfl rfl (l := sealL (l.drop 8)) (by exact H 2 (by kernel_rfl))) _
    rotate_left
    simp only [Act.put, List.setIfInBounds_toArray, List.set_cons_zero, List.set_cons_succ]
    apply dag_val Ext.refl rfl (by intro W hW H; go_simp <;> rfl)
    simp only [Act.put, List.setIfInBounds_toArray, List.set_cons_zero, List.set_cons_succ]
    refine' dag_val Ext.refl rfl (fun W hW H => run_op_bytes_string T.bytes T.u8 T.str rfl rfl (l := l) (by exact h0.ext hW)) _
    rotate_left
    simp only [Act.put, List.setIfInBounds_toArray, List.set_cons_zero, List.set_cons_succ]
    apply dag_val Ext.refl rfl (by intro W hW H; go_simp <;> rfl)
    simp only [Act.put, List.setIfInBounds_toArray, List.set_cons_zero, List.set_cons_succ]
    refine dag_end fun W hW _ => ?_
    have h1 := (d8.ext hW)
    have hb := beq_seal l (by omega)
    by_cases hne : unfixed (l.take 8) = sumOf (l.drop 8)
    · have e : openL l = (l.drop 8, 0) := by unfold openL; rw [if_neg h8, if_neg (by simpa using hne)]
      have E := Lib.hid e; clear e
      rw [hb, decide_eq_true hne]
      clear hb hne
      go_wp2_with (first
        | (refine wpList_slice T.bytes rfl rfl rfl 8 l.length c ?_)
        | (at_builtin; refine wpList_append_bytes T.bytes rfl rfl rfl rfl (FB.lit0 W (Nat.le_refl _)) (h1.ext (Ext.alloc _ _)) (by simp; omega) (by simp) ?_; intro v2 w2 hf2 hg2 _))
      go_ret2
      exact ⟨_, by rw [E.out]; rfl, by rw [E.out]; exact FB.base (by simpa using hf2) hW.size, (hW.trans (Ext.alloc _ _)).thenBelow (below_grown (FB.lit0 W (Nat.le_refl _)) hg2 hW.size (by have := hW.size; simp; omega))⟩
    · have e : openL l = ([], 12) := by unfold openL; rw [if_neg h8, if_pos hne]
      have E := Lib.hid e; clear e
      rw [hb, decide_eq_false hne]
      clear hb hne
      go_wp2_with fail
      go_ret2
      exact ⟨_, by rw [E.out]; rfl, by rw [E.out]; exact FB.nil _ _, hW⟩
end Go.Proofs.Ytcfociegdnhneaa
