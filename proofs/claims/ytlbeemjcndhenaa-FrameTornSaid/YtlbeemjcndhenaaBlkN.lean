/- What the program's and the document's functions of layer 5 compute when they tell how many blocks are needed. -/
import Derived.Test.YtlbeemjcndhenaaBlkO
import Derived.Deep.LoopGhost
namespace Go.Proofs.Ytlbeemjcndhenaa
open Go.RowKit

theorem need_low (n : Int) (h : n ≤ 61) : needB n = 1 := by
  unfold needB; split
  · rfl
  · omega
theorem need_high (n : Int) (h : 61 < n) : needB n = needB (n - 61) + 1 := by
  unfold needB; rw [if_neg (by omega)]; split <;> omega

theorem bneed_any (n : Int) (w : World) (h1 : -1000000 ≤ n) (h2 : n ≤ 1000000) :
    Calls Try.prog 28 #[.int .i64 n] w fun e w' => e = .returned (.int .i64 (needB n)) ∧ w = w' := by
  by_cases h : n ≤ 0
  · have e : needB n = 1 := need_low n (by omega)
    rw [e]
    go_enter Try.func28, Try.ntmps28
    go_wp2_with fail
    go_ret
    exact ⟨rfl, rfl⟩
  · have e1 : IntKind.i64.wrap (n - 1) = n - 1 := by rw [IntKind.wrap_i64]; omega
    have e2 : (n - 1).tdiv 61 = (n - 1) / 61 := Int.tdiv_eq_ediv_of_nonneg (by omega)
    have e3 : IntKind.i64.wrap ((n - 1) / 61) = (n - 1) / 61 := by rw [IntKind.wrap_i64]; omega
    have e4 : IntKind.i64.wrap ((n - 1) / 61 + 1) = (n - 1) / 61 + 1 := by rw [IntKind.wrap_i64]; omega
    have e5 : needB n = (n - 1) / 61 + 1 := by unfold needB; rw [if_neg h]
    rw [e5]
    go_enter Try.func28, Try.ntmps28
    go_wp2_with fail
    go_ret
    exact ⟨rfl, rfl⟩

theorem rbneed_any (n : Int) (w : World) (h1 : -1000000 ≤ n) (h2 : n ≤ 1000000) :
    Calls Try.prog 29 #[.int .i64 n] w fun e w' => e = .returned (.int .i64 (needB n)) ∧ w = w' := by
  go_enter Try.func29, Try.ntmps29
  go_wp2_with fail
  go_loopg [0, 3] (n.toNat) (fun k s0 s3 wr => ∃ m j : Int, s0 = .int .i64 m ∧ s3 = .int .i64 j ∧ wr = w ∧ m.toNat ≤ k ∧ 1 ≤ j ∧ m + 61 * j ≤ 1000061 ∧ m ≤ 1000000 ∧ -1000000 ≤ m ∧ needB n = j - 1 + needB m)
  case atStart => exact ⟨n, 1, rfl, rfl, rfl, by omega, by omega, by omega, h2, h1, by omega⟩
  case round =>
    obtain ⟨m, j, rfl, rfl, rfl, hk, hj, hmj, hm1, hm2, he⟩ := hrel
    by_cases h : m ≤ 61
    · rw [need_low m h] at he
      have he2 : needB n = j := by omega
      go_wp2_with fail
      go_ret
      exact ⟨rfl, rfl⟩
    · have HE := Lib.hid (he.trans (by rw [need_high m (by omega)]))
      have e1 : IntKind.i64.wrap (m - 61) = m - 61 := by rw [IntKind.wrap_i64]; omega
      have e2 : IntKind.i64.wrap (j + 1) = j + 1 := by rw [IntKind.wrap_i64]; omega
      go_wp2_with fail
      go_roundg (m - 61).toNat
      case measure => omega
      case rel => exact ⟨m - 61, j + 1, rfl, rfl, rfl, Nat.le_refl _, by omega, by omega, by omega, by omega, by rw [HE.out]; omega⟩
end Go.Proofs.Ytlbeemjcndhenaa
