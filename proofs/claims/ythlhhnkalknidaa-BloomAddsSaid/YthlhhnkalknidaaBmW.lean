/- What the program's functions of layer 33 compute: Check, own, Places, Has, Same, Full. -/
import Derived.Test.YthlhhnkalknidaaVarS
import Derived.Test.YthlhhnkalknidaaSumO
import Derived.Test.YthlhhnkalknidaaBm
namespace Go.Proofs.Ythlhhnkalknidaa
open Go.RowKit

abbrev stv (v : Value) (each n : Int) : Value := .agg #[v, .int .i64 each, .int .i64 n]
set_option maxHeartbeats 1000000 in
theorem check_any (v : Value) (l : List UInt8) (each n : Int) (w : World) (h : BV w v l) :
    Calls Try.prog 17 #[stv v each n] w fun e w' => e = .returned (.int .i64 (checkB ⟨l, each, n⟩)) ∧ Ext w w' := by
  obtain ⟨p, c, rfl, hn, hc, hs⟩ := h
  by_cases h1 : l.length = 0
  · rw [checkB_bad (by unfold goodB; simp only; omega)]
    have hz : ((l.length : Int) == 0) = true := by rw [beq_iff_eq]; omega
    have hz2 : (l.length : Int) < 1 := by omega
    clear h1
    go_enter Try.func17, Try.ntmps17
    go_wp2_with fail
    go_ret
    exact ⟨rfl, Ext.alloc _ _⟩
  have hz : ((l.length : Int) == 0) = false := by rw [beq_eq_false_iff_ne]; omega
  have hz2 : ¬ (l.length : Int) < 1 := by omega
  by_cases hg : l.length ≤ 4096 ∧ 1 ≤ each ∧ each ≤ 16 ∧ 0 ≤ n ∧ n ≤ 1099511627776
  · rw [checkB_ok (by unfold goodB; simp only; omega)]
    obtain ⟨g1, g2, g3, g4, g5⟩ := hg
    have k1 : ¬ (4096 : Int) < (l.length : Int) := by omega
    have k2 : ¬ each < 1 := by omega
    have k3 : ¬ 16 < each := by omega
    have k4 : ¬ n < 0 := by omega
    have k5 : ¬ 1099511627776 < n := by omega
    clear h1 g1 g2 g3 g4 g5
    go_enter Try.func17, Try.ntmps17
    go_wp2_with fail
    go_ret
    exact ⟨rfl, Ext.alloc _ _⟩
  rw [checkB_bad (by unfold goodB; simp only; omega)]
  rcases (by omega : (4096 : Int) < (l.length : Int) ∨ (¬ (4096 : Int) < (l.length : Int) ∧ each < 1) ∨ (¬ (4096 : Int) < (l.length : Int) ∧ ¬ each < 1 ∧ 16 < each) ∨ (¬ (4096 : Int) < (l.length : Int) ∧ ¬ each < 1 ∧ ¬ 16 < each ∧ n < 0) ∨ (¬ (4096 : Int) < (l.length : Int) ∧ ¬ each < 1 ∧ ¬ 16 < each ∧ ¬ n < 0 ∧ 1099511627776 < n)) with k1 | ⟨k1, k2⟩ | ⟨k1, k2, k3⟩ | ⟨k1, k2, k3, k4⟩ | ⟨k1, k2, k3, k4, k5⟩
  all_goals
    clear h1 hg
    go_enter Try.func17, Try.ntmps17
    go_wp2_with fail
    go_ret
    exact ⟨rfl, Ext.alloc _ _⟩
set_option maxHeartbeats 1000000 in
theorem rcheck_any (v : Value) (l : List UInt8) (each n : Int) (w : World) (h : BV w v l) :
    Calls Try.prog 18 #[stv v each n] w fun e w' => e = .returned (.int .i64 (checkB ⟨l, each, n⟩)) ∧ Ext w w' := by
  obtain ⟨p, c, rfl, hn, hc, hs⟩ := h
  by_cases h1 : l.length = 0
  · rw [checkB_bad (by unfold goodB; simp only; omega)]
    have hz : ((l.length : Int) == 0) = true := by rw [beq_iff_eq]; omega
    have hz2 : (l.length : Int) < 1 := by omega
    clear h1
    go_enter Try.func18, Try.ntmps18
    go_wp2_with fail
    go_ret
    exact ⟨rfl, Ext.alloc _ _⟩
  have hz : ((l.length : Int) == 0) = false := by rw [beq_eq_false_iff_ne]; omega
  have hz2 : ¬ (l.length : Int) < 1 := by omega
  by_cases hg : l.length ≤ 4096 ∧ 1 ≤ each ∧ each ≤ 16 ∧ 0 ≤ n ∧ n ≤ 1099511627776
  · rw [checkB_ok (by unfold goodB; simp only; omega)]
    obtain ⟨g1, g2, g3, g4, g5⟩ := hg
    have k1 : ¬ (4096 : Int) < (l.length : Int) := by omega
    have k2 : ¬ each < 1 := by omega
    have k3 : ¬ 16 < each := by omega
    have k4 : ¬ n < 0 := by omega
    have k5 : ¬ 1099511627776 < n := by omega
    clear h1 g1 g2 g3 g4 g5
    go_enter Try.func18, Try.ntmps18
    go_wp2_with fail
    go_ret
    exact ⟨rfl, Ext.alloc _ _⟩
  rw [checkB_bad (by unfold goodB; simp only; omega)]
  rcases (by omega : (4096 : Int) < (l.length : Int) ∨ (¬ (4096 : Int) < (l.length : Int) ∧ each < 1) ∨ (¬ (4096 : Int) < (l.length : Int) ∧ ¬ each < 1 ∧ 16 < each) ∨ (¬ (4096 : Int) < (l.length : Int) ∧ ¬ each < 1 ∧ ¬ 16 < each ∧ n < 0) ∨ (¬ (4096 : Int) < (l.length : Int) ∧ ¬ each < 1 ∧ ¬ 16 < each ∧ ¬ n < 0 ∧ 1099511627776 < n)) with k1 | ⟨k1, k2⟩ | ⟨k1, k2, k3⟩ | ⟨k1, k2, k3, k4⟩ | ⟨k1, k2, k3, k4, k5⟩
  all_goals
    clear h1 hg
    go_enter Try.func18, Try.ntmps18
    go_wp2_with fail
    go_ret
    exact ⟨rfl, Ext.alloc _ _⟩
end Go.Proofs.Ythlhhnkalknidaa
