/- Numbers of a set width: the program's. -/
import Derived.Test.YtlbeemjcndhenaaBase
import Derived.Test.YtlbeemjcndhenaaSum
namespace Go.Proofs.Ytlbeemjcndhenaa
open Go.RowKit

set_option maxHeartbeats 400000 in
theorem unfixed_any (v : Value) (l : List UInt8) (w : World) (h : BV w v l) :
    Calls Try.prog 31 #[v] w fun e w' => e = .returned (uv (unfixed l)) ∧ w = w' := by
  obtain ⟨p, c, rfl, hn, hc, hs⟩ := h
  unfold maxLen at hc
  go_enter Try.func31, Try.ntmps31
  go_wp2_with fail
  go_loop [3, 8] (fun t i => ∃ k : Nat, k ≤ l.length ∧ i = .int .i64 k ∧ t = uv (BitVec.ofNat 64 (valL (l.take k)))) (fun _ i => l.length - (intOf i).toNat)
  case atStart => exact ⟨0, by omega, rfl, rfl⟩
  case round =>
    obtain ⟨k, hk, rfl, rfl⟩ := hrel
    by_cases hlt : k < l.length
    · obtain ⟨b, o, rfl, hcell⟩ := hs.at (bs_get l hlt)
      have HW := wrap_mul256 (valL (l.take k))
      have HX := or_byte (valL (l.take k)) l[k]
      have HS := Lib.hid (valL_take l hlt)
      go_wp2
      go_round
      case rel => exact ⟨k + 1, by omega, by go_num, by rw [HS.out]⟩
      case measure => simp [intOf]; omega
    · obtain rfl : k = l.length := by omega
      go_wp2
      go_ret
      exact ⟨rfl, rfl⟩

theorem wide_any (k : Nat) (hk : k ≤ 8) (w : World) :
    Calls Try.prog 38 #[.int .i64 k] w fun e w' => e = .returned (.int .i64 k) ∧ w = w' := by
  have h1 : min (k : Int) 8 = k := by omega
  have h2 : max (0 : Int) k = k := by omega
  go_enter Try.func38, Try.ntmps38
  go_wp2
  all_goals (go_ret; refine ⟨?_, rfl⟩)
  · rfl
  · have : k = 0 := by omega
    subst this
    rfl

set_option maxHeartbeats 400000 in
theorem fixed_any (n : BitVec 64) (k : Nat) (hk : k ≤ 8) (w : World) :
    Calls Try.prog 23 #[uv n, .int .i64 k] w fun e w' => ∃ v', e = .returned v' ∧ FB w' w.heap.size v' (fixedL n.toNat k) ∧ Ext w w' := by
  go_enter Try.func23, Try.ntmps23
  go_wp2_with (first | (go_at_call 38; refine (wide_any k hk _).mono ?_; rintro e w' ⟨rfl, rfl⟩) | (refine wpList_make_bytes T.bytes rfl rfl rfl rfl (by omega) ?_; intro w1 hf0 hx0))
  go_loopw [12] (fun i wr => ∃ j : Nat, j ≤ k ∧ i = .int .i64 j ∧ FB wr w.heap.size (.slice (some ⟨w.heap.size, 0, none⟩) k k) (List.replicate (k - j) 0 ++ fixedL n.toNat j) ∧ Ext w wr) (fun i _ => k - (intOf i).toNat)
  case atStart => exact ⟨0, by omega, rfl, by simpa [fixedL] using hf0, hx0⟩
  case round =>
    obtain ⟨j, hj, rfl, hf, hx⟩ := hrel
    by_cases hlt : j < k
    · have hc := hf.cell (j := k - 1 - j) (by simp [fixedL_length]; omega)
      have hz := hf.free (k - 1 - j)
      have H1 := Lib.hid hf
      have hsz := hx.size
      clear hf
      go_wp2
      go_roundw
      case rel =>
        have h1 := H1.out.store (k - 1 - j) (UInt8.ofNat (n.toNat / 256 ^ j))
        rw [fixed_store _ _ _ hlt] at h1
        rw [byte_at]
        exact ⟨j + 1, by omega, by go_num, h1, hx.setCell (Nat.le_refl _) _⟩
      case measure => simp [intOf]; omega
    · obtain rfl : j = k := by omega
      go_wp2
      go_ret
      exact ⟨_, rfl, by simpa using hf, hx⟩
end Go.Proofs.Ytlbeemjcndhenaa
