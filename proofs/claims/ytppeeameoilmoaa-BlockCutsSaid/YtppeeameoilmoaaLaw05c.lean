/- The statements of layer 5: BlockLays, BlockBack: the walks of the laws. -/
import Derived.Test.YtppeeameoilmoaaLaw05b
namespace Go.Proofs.Ytppeeameoilmoaa
open Go.RowKit

set_option maxHeartbeats 2000000 in
theorem blockLays_walk (v : Value) (l : List UInt8) (n : Int) (w : World) (h : BV w v l) (hn : -9223372036854775808 ≤ n ∧ n ≤ 9223372036854775807) :
    Calls Try.prog 4 #[v, .int .i64 n] w fun e w' => e = .returned (.bool true) ∧ Ext w w' := by
  obtain ⟨p1, c1, rfl, _, _, _⟩ := id h
  by_cases hl1 : 1500 < l.length
  · go_enter Try.func4, Try.ntmps4
    go_wp2_with (go_at_call 9; refine (awake_any _).mono ?_; rintro e w1 ⟨rfl, hx1⟩)
    go_ret
    exact ⟨rfl, hx1⟩
  by_cases hn1 : n < -100000
  · go_enter Try.func4, Try.ntmps4
    go_wp2_with (go_at_call 9; refine (awake_any _).mono ?_; rintro e w1 ⟨rfl, hx1⟩)
    go_ret
    exact ⟨rfl, hx1⟩
  by_cases hn2 : 100000 < n
  · go_enter Try.func4, Try.ntmps4
    go_wp2_with (go_at_call 9; refine (awake_any _).mono ?_; rintro e w1 ⟨rfl, hx1⟩)
    go_ret
    exact ⟨rfl, hx1⟩
  have L1 := fun w h => blay_any (.slice p1 l.length c1) l w h (by omega)
  have L2 := fun w h => rblay_any (.slice p1 l.length c1) l w h (by omega)
  have hlen : (layB l).length ≤ 100000 := by
    have := layF_length l.length 1 l (Nat.le_refl _)
    unfold needB at this
    show (layF l.length 1 l).length ≤ _
    split at this <;> omega
  have N1 := fun w => bneed_any n w (by omega) (by omega)
  have N2 := fun w => rbneed_any n w (by omega) (by omega)
  generalize layB l = ls at *
  generalize needB n = y at *
  go_enter Try.func4, Try.ntmps4
  go_wp2_with (first
    | (go_at_call 14; refine (L1 _ h).mono ?_; rintro e w1 ⟨v1, rfl, ho1, hx1⟩; obtain ⟨q1, d1, rfl, _, hd1⟩ := ho1.view.slice)
    | (go_at_call 15; refine (L2 _ (h.ext hx1)).mono ?_; rintro e w2 ⟨v2, rfl, ho2, hx2⟩; obtain ⟨q2, d2, rfl, _, hd2⟩ := ho2.view.slice)
    | (go_at_call 16; refine (N1 _).mono ?_; rintro e w' ⟨rfl, rfl⟩)
    | (go_at_call 17; refine (N2 _).mono ?_; rintro e w' ⟨rfl, rfl⟩))
  have s1 := (ho1.view.mono (T := fun _ => True) fun _ _ _ => trivial).ext hx2
  have s2 := ho2.view.mono (T := fun _ => True) fun _ _ _ => trivial
  have hx12 := hx1.trans hx2
  clear ho1 ho2
  go_loopg [7] (ls.length) (fun k s7 wr => ∃ j : Nat, s7 = .int .i64 j ∧ j ≤ ls.length ∧ k = ls.length - j ∧ Ext w2 wr)
  case atStart => exact ⟨0, rfl, Nat.zero_le _, rfl, Ext.refl _⟩
  case round =>
    obtain ⟨j, rfl, hj, hk, hx⟩ := hrel
    by_cases hlt : j < ls.length
    case neg =>
      go_wp2_with (go_at_call 9; refine (awake_any _).mono ?_; rintro e w3 ⟨rfl, hx3⟩)
      go_ret
      exact ⟨rfl, (hx12.trans hx).trans hx3⟩
    case pos =>
      obtain ⟨b1, o1, u1, rfl, hc1, hu1⟩ := s1.row hlt
      obtain ⟨b2, o2, u2, rfl, hc2, hu2⟩ := s2.row hlt
      have r1 := hu1.now
      have r2 := hu2.now
      clear hu1 hu2
      generalize ls[j] = z at *
      go_wp2_with fail
      apply wp_region_dag (X := Ext) (by kernel_rfl) (by kernel_rfl) (fun _ _ _ => Ext.trans) (Ext.drew1 _)
      apply dag_val Ext.refl rfl (by intro W hW H; go_simp <;> rfl)
      simp only [Act.put, List.setIfInBounds_toArray, List.set_cons_zero, List.set_cons_succ]
      apply dag_val Ext.refl rfl (by intro W hW H; go_simp <;> rfl)
      simp only [Act.put, List.setIfInBounds_toArray, List.set_cons_zero, List.set_cons_succ]
      apply dag_val Ext.refl rfl (by intro W hW H; have hi : (j : Int) < (ls.length : Int) := (by omega); go_simp <;> rfl)
      simp only [Act.put, List.setIfInBounds_toArray, List.set_cons_zero, List.set_cons_succ]
      apply dag_val Ext.refl rfl (by intro W hW H; have hq := (hx.trans hW).cell hc1; go_simp <;> rfl)
      simp only [Act.put, List.setIfInBounds_toArray, List.set_cons_zero, List.set_cons_succ]
      refine' dag_val Ext.refl rfl (fun W hW H => run_op_bytes_string T.bytes T.u8 T.str rfl rfl (v := u1) (l := z) (by exact (r1.ext hx).ext hW)) _
      rotate_left
      simp only [Act.put, List.setIfInBounds_toArray, List.set_cons_zero, List.set_cons_succ]
      apply dag_val Ext.refl rfl (by intro W hW H; go_simp <;> rfl)
      simp only [Act.put, List.setIfInBounds_toArray, List.set_cons_zero, List.set_cons_succ]
      apply dag_val Ext.refl rfl (by intro W hW H; go_simp <;> rfl)
      simp only [Act.put, List.setIfInBounds_toArray, List.set_cons_zero, List.set_cons_succ]
      apply dag_val Ext.refl rfl (by intro W hW H; have hi : (j : Int) < (ls.length : Int) := (by omega); go_simp <;> rfl)
      simp only [Act.put, List.setIfInBounds_toArray, List.set_cons_zero, List.set_cons_succ]
      apply dag_val Ext.refl rfl (by intro W hW H; have hq := (hx.trans hW).cell hc2; go_simp <;> rfl)
      simp only [Act.put, List.setIfInBounds_toArray, List.set_cons_zero, List.set_cons_succ]
      refine' dag_val Ext.refl rfl (fun W hW H => run_op_bytes_string T.bytes T.u8 T.str rfl rfl (v := u2) (l := z) (by exact (r2.ext hx).ext hW)) _
      rotate_left
      simp only [Act.put, List.setIfInBounds_toArray, List.set_cons_zero, List.set_cons_succ]
      apply dag_val Ext.refl rfl (by intro W hW H; go_simp <;> rfl)
      simp only [Act.put, List.setIfInBounds_toArray, List.set_cons_zero, List.set_cons_succ]
      refine dag_end fun W hW H => ?_
      go_wp2_with fail
      go_roundg (ls.length - (j + 1))
      case measure => omega
      case rel => exact ⟨j + 1, by go_num, hlt, rfl, hx.trans hW⟩
end Go.Proofs.Ytppeeameoilmoaa
