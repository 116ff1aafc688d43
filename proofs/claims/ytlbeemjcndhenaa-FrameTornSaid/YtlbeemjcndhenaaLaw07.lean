/- The statements of layer 7: FrameLays: the walk of the law. -/
import Derived.Test.YtlbeemjcndhenaaAwake07
namespace Go.Proofs.Ytlbeemjcndhenaa
open Go.RowKit

theorem frLay_few (l : List UInt8) : (frLay l).1.length ≤ l.length + 13 := by
  unfold frLay
  split
  · simp
  · have := layF_length (frameL l).length 1 (frameL l) (Nat.le_refl _)
    have hl := frameL_length l
    unfold needB at this
    show (layF (frameL l).length 1 (frameL l)).length ≤ _
    split at this <;> omega

set_option maxHeartbeats 1000000 in
theorem frameLays_walk (v : Value) (l : List UInt8) (n : Int) (w : World) (h : BV w v l) (_hn : -9223372036854775808 ≤ n ∧ n ≤ 9223372036854775807) :
    Calls Try.prog 3 #[v, .int .i64 n] w fun e w' => e = .returned (.bool true) ∧ Ext w w' := by
  obtain ⟨p1, c1, rfl, _, _, _⟩ := id h
  clear _hn
  by_cases hl1 : 1500 < l.length
  · go_enter Try.func3, Try.ntmps3
    go_wp2_with (go_at_call 7; refine (awake_any _).mono ?_; rintro e w1 ⟨rfl, hx1⟩)
    go_ret
    exact ⟨rfl, hx1⟩
  by_cases hn2 : 100000 < n
  · go_enter Try.func3, Try.ntmps3
    go_wp2_with (go_at_call 7; refine (awake_any _).mono ?_; rintro e w1 ⟨rfl, hx1⟩)
    go_ret
    exact ⟨rfl, hx1⟩
  have L1 := fun w h => flay_any (.slice p1 l.length c1) l w h
  have L2 := fun w h => rflay_any (.slice p1 l.length c1) l w h
  have hlen := frLay_few l
  have N1 := fun w => fneed_any n w (by omega)
  have N2 := fun w => rfneed_any n w (by omega)
  generalize frLay l = o at *
  obtain ⟨ls, le⟩ := o
  dsimp only at *
  generalize frNeed n = y at *
  go_enter Try.func3, Try.ntmps3
  go_wp2_with (first
    | (go_at_call 8; refine (L1 _ h).mono ?_; rintro e w1 ⟨v1, rfl, ho1, hx1⟩)
    | (go_at_call 9; refine (L2 _ (h.ext hx1)).mono ?_; rintro e w2 ⟨v2, rfl, ho2, hx2⟩)
    | (go_at_call 10; refine (sameBlocks_any _ ls _ ls _ ((ho1.view.mono fun _ _ _ => trivial).ext hx2) (ho2.view.mono fun _ _ _ => trivial) (by omega)).mono ?_; rw [decide_eq_true rfl]; rintro e w3 ⟨rfl, hx3⟩)
    | (go_at_call 11; refine (N1 _).mono ?_; rintro e w' ⟨rfl, rfl⟩)
    | (go_at_call 12; refine (N2 _).mono ?_; rintro e w' ⟨rfl, rfl⟩)
    | (go_at_call 7; refine (awake_any _).mono ?_; rintro e w4 ⟨rfl, hx4⟩))
  go_ret
  exact ⟨rfl, ((hx1.trans hx2).trans hx3).trans hx4⟩
end Go.Proofs.Ytlbeemjcndhenaa
