/- Numbers of a set width: the document's. -/
import Derived.Test.YtlbeemjcndhenaaFix
namespace Go.Proofs.Ytlbeemjcndhenaa
open Go.RowKit

set_option maxHeartbeats 400000 in
theorem rfixed_any (n : BitVec 64) (k : Nat) (hk : k ≤ 8) (w : World) :
    Calls Try.prog 26 #[uv n, .int .i64 k] w fun e w' => ∃ v', e = .returned v' ∧ FB w' w.heap.size v' (fixedL n.toNat k) ∧ Ext w w' := by
  go_enter Try.func26, Try.ntmps26
  go_wp2
  go_loopw [0, 5, 6] (fun t v i wr => ∃ j : Nat, j ≤ k ∧ i = .int .i64 j ∧ t = .int .u64 ((n.toNat / 256 ^ j : Nat) : Int) ∧ FB wr w.heap.size v (fixedL n.toNat j) ∧ Ext w wr) (fun _ _ i _ => k - (intOf i).toNat)
  case atStart => exact ⟨0, by omega, rfl, by simp [un], FB.nil _ _, Ext.refl _⟩
  case round =>
    obtain ⟨j, hj, rfl, rfl, hf, hx⟩ := hrel
    by_cases hlt : j < k
    · have h8 : j < 8 := by omega
      have hlo : ((n.toNat / 256 ^ j : Nat) : Int) < 18446744073709551616 := by
        have := n.isLt
        have := Nat.div_le_self n.toNat (256 ^ j)
        omega
      have hq : n.toNat / 256 ^ (j + 1) = n.toNat / 256 ^ j / 256 := by rw [Nat.pow_succ, Nat.div_div_eq_div_mul]
      generalize hm : n.toNat / 256 ^ j = m at *
      have HM := Lib.hid hm; clear hm
      have HQ := Lib.hid hq; clear hq
      obtain ⟨x, h1, HX⟩ : ∃ x : UInt8, (m : Int) % 256 = (x.toNat : Int) ∧ Hid (x = UInt8.ofNat m) := ⟨UInt8.ofNat m, by rw [toNat_ofNat8]; omega, rfl⟩
      have h2 : IntKind.u64.wrap ((m : Int) / 256) = ((m / 256 : Nat) : Int) := by rw [IntKind.wrap_u64]; omega
      have H2 := Lib.hid h2; clear h2
      clear hlo
      obtain ⟨p, c, rfl, hn, hc, hs⟩ := hf.slice
      have hv := hf.view
      go_wp2_with (at_builtin; go_loud (refine wpList_append_bytes T.bytes rfl rfl rfl rfl (FB.lit1 wr hx.size _) (hv.ext (Ext.alloc _ _)) (by rw [fixedL_length]; simp; omega) (by have := hx.size; simp; omega) ?_; intro v2 w2 hf2 hg2 _))
      go_roundw
      case rel => exact ⟨j + 1, by omega, by go_num, by rw [HQ.out, H2.out], by simpa [fixedL, HM.out, HX.out] using hf2, (hx.trans (Ext.alloc _ _)).thenBelow (below_grown (FB.lit1 wr hx.size _) hg2 (Nat.le_refl _) (by have := hx.size; simp; omega))⟩
      case measure => simp [intOf]; omega
    · obtain rfl : j = k := by omega
      go_wp2
      go_ret
      exact ⟨_, rfl, hf, hx⟩
end Go.Proofs.Ytlbeemjcndhenaa
