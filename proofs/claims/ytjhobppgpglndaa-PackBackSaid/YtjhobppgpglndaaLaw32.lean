/- The statements of layer 32: PackPacks, PackOpens, PackBack: the walks of the laws. -/
import Derived.Test.YtjhobppgpglndaaAwake32
namespace Go.Proofs.Ytjhobppgpglndaa
open Go.RowKit

set_option maxHeartbeats 1000000 in
theorem packPacks_walk (v : Value) (l : List UInt8) (i : Int) (w : World) (h : BV w v l) (_hi : -9223372036854775808 ≤ i ∧ i ≤ 9223372036854775807) :
    Calls Try.prog 3 #[v, .int .i64 i] w fun e w' => e = .returned (.bool true) ∧ Ext w w' := by
  obtain ⟨p1, c1, rfl, hlc, hc1, _⟩ := id h
  clear _hi
  by_cases hl : 400 < l.length
  · go_enter Try.func3, Try.ntmps3
    go_wp2_with (go_at_call 7; refine (awake_any _).mono ?_; rintro e w1 ⟨rfl, hx1⟩)
    go_ret
    exact ⟨rfl, hx1⟩
  have M1 := fun w h => matchi_any (.slice p1 l.length c1) l i w h
  have M2 := fun w h => rmatchi_any (.slice p1 l.length c1) l i w h
  generalize matchI l i = mm at *
  obtain ⟨n, d⟩ := mm
  dsimp only at M1 M2
  go_enter Try.func3, Try.ntmps3
  go_wp2_with (first
    | (go_at_call 8; refine (M1 _ h).mono ?_; rintro e w1 ⟨rfl, hx1⟩)
    | (go_at_call 9; refine (M2 _ (h.ext hx1)).mono ?_; rintro e w2 ⟨rfl, hx2⟩))
  have h2 := (h.ext hx1).ext hx2
  apply wp_region_dag (X := Ext) (by kernel_rfl) (by kernel_rfl) (fun _ _ _ => Ext.trans) (Ext.drew1 _)
  apply dag_val Ext.refl rfl (by intro W hW H; go_simp <;> rfl)
  simp only [Act.put, List.setIfInBounds_toArray, List.set_cons_zero, List.set_cons_succ]
  refine' dag_calls (fun v W => BV W v (packB l)) (BV.stable _) rfl (by intro W; go_simp <;> rfl) (fun W hW H => (pack_any _ l W (h2.ext hW) (by omega)).mono (by rintro e w' ⟨v3, rfl, hf3, hx3⟩; exact ⟨v3, rfl, hf3.view, hx3⟩)) (fun v1 => _)
  rotate_left
  simp only [Act.put, List.setIfInBounds_toArray, List.set_cons_zero, List.set_cons_succ]
  refine' dag_val Ext.refl rfl (fun W hW H => run_op_bytes_string T.bytes T.u8 T.str rfl rfl (v := v1) (l := packB l) (by exact H 1 (by kernel_rfl))) _
  rotate_left
  simp only [Act.put, List.setIfInBounds_toArray, List.set_cons_zero, List.set_cons_succ]
  apply dag_val Ext.refl rfl (by intro W hW H; go_simp <;> rfl)
  simp only [Act.put, List.setIfInBounds_toArray, List.set_cons_zero, List.set_cons_succ]
  refine' dag_calls (fun v W => BV W v (packB l)) (BV.stable _) rfl (by intro W; go_simp <;> rfl) (fun W hW H => (rpack_any _ l W (h2.ext hW) (by omega)).mono (by rintro e w' ⟨v3, rfl, hf3, hx3⟩; exact ⟨v3, rfl, hf3.view, hx3⟩)) (fun v2 => _)
  rotate_left
  simp only [Act.put, List.setIfInBounds_toArray, List.set_cons_zero, List.set_cons_succ]
  refine' dag_val Ext.refl rfl (fun W hW H => run_op_bytes_string T.bytes T.u8 T.str rfl rfl (v := v2) (l := packB l) (by exact H 4 (by kernel_rfl))) _
  rotate_left
  simp only [Act.put, List.setIfInBounds_toArray, List.set_cons_zero, List.set_cons_succ]
  apply dag_val Ext.refl rfl (by intro W hW H; go_simp <;> rfl)
  simp only [Act.put, List.setIfInBounds_toArray, List.set_cons_zero, List.set_cons_succ]
  apply dag_val Ext.refl rfl (by intro W hW H; go_simp <;> rfl)
  simp only [Act.put, List.setIfInBounds_toArray, List.set_cons_zero, List.set_cons_succ]
  apply dag_val Ext.refl rfl (by intro W hW H; go_simp <;> rfl)
  simp only [Act.put, List.setIfInBounds_toArray, List.set_cons_zero, List.set_cons_succ]
  refine' dag_calls (fun v W => BV W v (sealP l)) (BV.stable _) rfl (by intro W; go_simp <;> rfl) (fun W hW H => (pseal_any _ l W (h2.ext hW) (by omega)).mono (by rintro e w' ⟨v3, rfl, hf3, hx3⟩; exact ⟨v3, rfl, hf3.view, hx3⟩)) (fun v3 => _)
  rotate_left
  simp only [Act.put, List.setIfInBounds_toArray, List.set_cons_zero, List.set_cons_succ]
  refine' dag_val Ext.refl rfl (fun W hW H => run_op_bytes_string T.bytes T.u8 T.str rfl rfl (v := v3) (l := sealP l) (by exact H 9 (by kernel_rfl))) _
  rotate_left
  simp only [Act.put, List.setIfInBounds_toArray, List.set_cons_zero, List.set_cons_succ]
  apply dag_val Ext.refl rfl (by intro W hW H; go_simp <;> rfl)
  simp only [Act.put, List.setIfInBounds_toArray, List.set_cons_zero, List.set_cons_succ]
  refine' dag_calls (fun v W => BV W v (sealP l)) (BV.stable _) rfl (by intro W; go_simp <;> rfl) (fun W hW H => (rpseal_any _ l W (h2.ext hW) (by omega)).mono (by rintro e w' ⟨v3, rfl, hf3, hx3⟩; exact ⟨v3, rfl, hf3.view, hx3⟩)) (fun v4 => _)
  rotate_left
  simp only [Act.put, List.setIfInBounds_toArray, List.set_cons_zero, List.set_cons_succ]
  refine' dag_val Ext.refl rfl (fun W hW H => run_op_bytes_string T.bytes T.u8 T.str rfl rfl (v := v4) (l := sealP l) (by exact H 12 (by kernel_rfl))) _
  rotate_left
  simp only [Act.put, List.setIfInBounds_toArray, List.set_cons_zero, List.set_cons_succ]
  apply dag_val Ext.refl rfl (by intro W hW H; go_simp <;> rfl)
  simp only [Act.put, List.setIfInBounds_toArray, List.set_cons_zero, List.set_cons_succ]
  apply dag_val Ext.refl rfl (by intro W hW H; go_simp <;> rfl)
  simp only [Act.put, List.setIfInBounds_toArray, List.set_cons_zero, List.set_cons_succ]
  apply dag_val Ext.refl rfl (by intro W hW H; go_simp <;> rfl)
  simp only [Act.put, List.setIfInBounds_toArray, List.set_cons_zero, List.set_cons_succ]
  apply dag_val Ext.refl rfl (by intro W hW H; go_simp <;> rfl)
  simp only [Act.put, List.setIfInBounds_toArray, List.set_cons_zero, List.set_cons_succ]
  apply dag_val Ext.refl rfl (by intro W hW H; go_simp <;> rfl)
  simp only [Act.put, List.setIfInBounds_toArray, List.set_cons_zero, List.set_cons_succ]
  apply dag_val Ext.refl rfl (by intro W hW H; go_simp <;> rfl)
  simp only [Act.put, List.setIfInBounds_toArray, List.set_cons_zero, List.set_cons_succ]
  apply dag_val Ext.refl rfl (by intro W hW H; go_simp <;> rfl)
  simp only [Act.put, List.setIfInBounds_toArray, List.set_cons_zero, List.set_cons_succ]
  apply dag_val Ext.refl rfl (by intro W hW H; go_simp <;> rfl)
  simp only [Act.put, List.setIfInBounds_toArray, List.set_cons_zero, List.set_cons_succ]
  apply dag_val Ext.refl rfl (by intro W hW H; go_simp <;> rfl)
  simp only [Act.put, List.setIfInBounds_toArray, List.set_cons_zero, List.set_cons_succ]
  apply dag_val Ext.refl rfl (by intro W hW H; go_simp <;> rfl)
  simp only [Act.put, List.setIfInBounds_toArray, List.set_cons_zero, List.set_cons_succ]
  apply dag_val Ext.refl rfl (by intro W hW H; go_simp <;> rfl)
  simp only [Act.put, List.setIfInBounds_toArray, List.set_cons_zero, List.set_cons_succ]
  apply dag_val Ext.refl rfl (by intro W hW H; go_simp <;> rfl)
  simp only [Act.put, List.setIfInBounds_toArray, List.set_cons_zero, List.set_cons_succ]
  apply dag_val Ext.refl rfl (by intro W hW H; go_simp <;> rfl)
  simp only [Act.put, List.setIfInBounds_toArray, List.set_cons_zero, List.set_cons_succ]
  refine' dag_call rfl (by intro W; go_simp <;> rfl) (fun W hW H => awake_any W) _
  rotate_left
  simp only [Act.put, List.setIfInBounds_toArray, List.set_cons_zero, List.set_cons_succ]
  apply dag_val Ext.refl rfl (by intro W hW H; go_simp <;> rfl)
  simp only [Act.put, List.setIfInBounds_toArray, List.set_cons_zero, List.set_cons_succ]
  apply dag_val Ext.refl rfl (by intro W hW H; go_simp <;> rfl)
  simp only [Act.put, List.setIfInBounds_toArray, List.set_cons_zero, List.set_cons_succ]
  refine dag_end fun W hW H => ?_
  go_wp2_with fail
  go_ret
  exact ⟨rfl, (hx1.trans hx2).trans hW⟩

set_option maxHeartbeats 1000000 in
theorem packOpens_walk (v : Value) (l : List UInt8) (i : Int) (w : World) (h : BV w v l) (hi : -9223372036854775808 ≤ i ∧ i ≤ 9223372036854775807) :
    Calls Try.prog 5 #[v, .int .i64 i] w fun e w' => e = .returned (.bool true) ∧ Ext w w' := by
  obtain ⟨p1, c1, rfl, hlc, hc1, _⟩ := id h
  by_cases hl : 400 < l.length
  · clear hi
    go_enter Try.func5, Try.ntmps5
    go_wp2_with (go_at_call 7; refine (awake_any _).mono ?_; rintro e w1 ⟨rfl, hx1⟩)
    go_ret
    exact ⟨rfl, hx1⟩
  have U1 := fun w h => unpack_any (.slice p1 l.length c1) l i w h (by omega) hi
  have U2 := fun w h => runpack_any (.slice p1 l.length c1) l i w h (by omega) hi
  have O1 := fun w h => popen_any (.slice p1 l.length c1) l w h (by omega)
  have O2 := fun w h => rpopen_any (.slice p1 l.length c1) l w h (by omega)
  clear hi
  generalize unpB l i.toNat = u at *
  generalize openP l = q at *
  obtain ⟨uo, ue⟩ := u
  obtain ⟨qo, qe⟩ := q
  dsimp only at U1 U2 O1 O2
  go_enter Try.func5, Try.ntmps5
  go_wp2_with (first
    | (go_at_call 14; refine (U1 _ h).mono ?_; rintro e w1 ⟨v1, rfl, hf1, hx1⟩)
    | (go_at_call 15; refine (U2 _ (h.ext hx1)).mono ?_; rintro e w2 ⟨v2, rfl, hf2, hx2⟩)
    | (go_at_call 16; refine (O1 _ ((h.ext hx1).ext hx2)).mono ?_; rintro e w3 ⟨v3, rfl, hf3, hx3⟩)
    | (go_at_call 17; refine (O2 _ (((h.ext hx1).ext hx2).ext hx3)).mono ?_; rintro e w4 ⟨v4, rfl, hf4, hx4⟩
       have b1 := ((hf1.view.ext hx2).ext hx3).ext hx4
       have b2 := (hf2.view.ext hx3).ext hx4
       have b3 := hf3.view.ext hx4
       have b4 := hf4.view)
    | ((with_reducible show wpList _ _ _ (Oper.mk _ (Op.convert _ _ _) _ _ _ _ :: _) _ _); refine st_string T.bytes T.u8 T.str b1 ?_)
    | ((with_reducible show wpList _ _ _ (Oper.mk _ (Op.convert _ _ _) _ _ _ _ :: _) _ _); refine st_string T.bytes T.u8 T.str b2 ?_)
    | ((with_reducible show wpList _ _ _ (Oper.mk _ (Op.convert _ _ _) _ _ _ _ :: _) _ _); refine st_string T.bytes T.u8 T.str b3 ?_)
    | ((with_reducible show wpList _ _ _ (Oper.mk _ (Op.convert _ _ _) _ _ _ _ :: _) _ _); refine st_string T.bytes T.u8 T.str b4 ?_)
    | (go_at_call 7; refine (awake_any _).mono ?_; rintro e w5 ⟨rfl, hx5⟩))
  go_ret
  exact ⟨rfl, (((hx1.trans hx2).trans hx3).trans hx4).trans hx5⟩

set_option maxHeartbeats 1000000 in
theorem packBack_walk (v : Value) (l : List UInt8) (w : World) (h : BV w v l) :
    Calls Try.prog 6 #[v] w fun e w' => e = .returned (.bool true) ∧ Ext w w' := by
  obtain ⟨p1, c1, rfl, hlc, hc1, _⟩ := id h
  by_cases hl : 600 < l.length
  · go_enter Try.func6, Try.ntmps6
    go_wp2_with (go_at_call 7; refine (awake_any _).mono ?_; rintro e w1 ⟨rfl, hx1⟩)
    go_ret
    exact ⟨rfl, hx1⟩
  have hpl := packB_length l
  have hsl := sealP_length l
  have P1 := fun w h => pack_any (.slice p1 l.length c1) l w h (by omega)
  have S1 := fun w h => pseal_any (.slice p1 l.length c1) l w h (by omega)
  have U1 := fun v w h => unpack_any v (packB l) (l.length : Int) w h (by omega) (by omega)
  rw [show (l.length : Int).toNat = l.length by omega, unp_back, if_pos (Nat.le_refl _)] at U1
  have O1 := fun v w h => popen_any v (sealP l) w h (by omega)
  rw [open_back l (by omega)] at O1
  obtain ⟨ge, hge, U2⟩ : ∃ ge : Bool, ge = decide ((0 : Int) < (l.length : Int)) ∧ ∀ v w, BV w v (packB l) → Calls Try.prog 14 #[v, .int .i64 ((l.length : Int) - 1)] w fun e w' => ∃ v' x, e = .returned (.tuple #[v', .int .i64 x]) ∧ (x == 5) = ge ∧ Ext w w' := by
    by_cases h0 : l = []
    · subst h0
      have e0 : unpB (packB []) (-1 : Int).toNat = ⟨[], 0⟩ := by kernel_rfl
      refine ⟨false, rfl, fun v w h => ?_⟩
      have U := unpack_any v (packB []) (-1) w h (by rw [show packB [] = [] by kernel_rfl]; simp) (by omega)
      rw [e0] at U
      dsimp only at U
      refine U.mono ?_
      rintro e w' ⟨v', rfl, _, hx⟩
      exact ⟨v', 0, rfl, rfl, hx⟩
    · have hp : 0 < l.length := List.length_pos_iff.2 h0
      refine ⟨true, by rw [decide_eq_true (by omega)], fun v w h => ?_⟩
      have U := unpack_any v (packB l) ((l.length : Int) - 1) w h (by omega) (by omega)
      rw [unp_back, if_neg (by omega)] at U
      dsimp only at U
      refine U.mono ?_
      rintro e w' ⟨v', rfl, _, hx⟩
      exact ⟨v', 5, rfl, rfl, hx⟩
  dsimp only at U1 O1
  have hs1 : ¬ (l.length : Int) + 1 < ((sealP l).length : Int) := by omega
  have hw1 : IntKind.i64.wrap ((l.length : Int) - 1) = (l.length : Int) - 1 := by rw [IntKind.wrap_i64]; omega
  generalize packB l = pl at *
  generalize sealP l = sl at *
  clear hpl hsl
  go_enter Try.func6, Try.ntmps6
  go_wp2_with (first
    | (go_at_call 14; have hq := hx5; refine (U2 _ _ (hf1.view.ext hx15)).mono ?_; rintro e w6 ⟨v6, x6, rfl, hx6v, hx6⟩)
    | (go_at_call 14; refine (U1 _ _ hf1.view).mono ?_; rintro e w2 ⟨v2, rfl, hf2, hx2⟩)
    | (go_at_call 10; refine (P1 _ h).mono ?_; rintro e w1 ⟨v1, rfl, hf1, hx1⟩)
    | (go_at_call 12; have hq := hx4; refine (S1 _ (h.ext hx04)).mono ?_; rintro e w5 ⟨v5, rfl, hf5, hx5⟩; obtain ⟨p5, c5, rfl, _, _, _⟩ := hf5.slice; have hx15 := hx14.trans hx5)
    | (go_at_call 12; refine (S1 _ ((h.ext hx1).ext hx2)).mono ?_; rintro e w3 ⟨v3, rfl, hf3, hx3⟩)
    | (go_at_call 16; refine (O1 _ _ hf3.view).mono ?_; rintro e w4 ⟨v4, rfl, hf4, hx4⟩
       have hx14 := (hx2.trans hx3).trans hx4
       have hx04 := hx1.trans hx14
       have b2 := (hf2.view.ext hx3).ext hx4
       have b4 := hf4.view
       have b0 := h.ext hx04)
    | ((with_reducible show wpList _ _ _ (Oper.mk _ (Op.convert _ _ _) _ _ _ _ :: _) _ _); refine st_string T.bytes T.u8 T.str b2 ?_)
    | ((with_reducible show wpList _ _ _ (Oper.mk _ (Op.convert _ _ _) _ _ _ _ :: _) _ _); refine st_string T.bytes T.u8 T.str b4 ?_)
    | ((with_reducible show wpList _ _ _ (Oper.mk _ (Op.convert _ _ _) _ _ _ _ :: _) _ _); refine st_string T.bytes T.u8 T.str b0 ?_)
    | (go_at_call 7; refine (awake_any _).mono ?_; rintro e w7 ⟨rfl, hx7⟩))
  go_ret
  exact ⟨rfl, ((hx1.trans hx15).trans hx6).trans hx7⟩
end Go.Proofs.Ytjhobppgpglndaa
