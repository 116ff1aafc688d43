/- 'awake' of layer 32's statements answers true. -/
import Derived.Test.YtjhobppgpglndaaPkS
namespace Go.Proofs.Ytjhobppgpglndaa
open Go.RowKit

theorem unp_six : unpB [0, 97, 129, 0, 1] 9 = ⟨[97, 97, 97, 97, 97, 97], 0⟩ := by kernel_rfl
theorem match_abcd : matchB [97, 98, 99, 100, 97, 98, 99, 100] 4 = (4, 4) := by kernel_rfl
theorem pack_six : packB [97, 97, 97, 97, 97, 97] = [0, 97, 129, 0, 1] := by kernel_rfl
theorem pack_ab : packB [97, 98] = [1, 97, 98] := by kernel_rfl
theorem seal_ab32 : sealP [97, 98] = [0, 97, 98] := by kernel_rfl

set_option maxHeartbeats 1000000 in
theorem awake_any (w : World) :
    Calls Try.prog 7 #[] w fun e w' => e = .returned (.bool true) ∧ Ext w w' := by
  have U1 := fun v w h => unpack_any v [0, 97, 129, 0, 1] 9 w h (by simp) (by omega)
  have M1 := fun v w h => match_any v [97, 98, 99, 100, 97, 98, 99, 100] 4 w h (by simp)
  have P1 := fun v w h => pack_any v [97, 97, 97, 97, 97, 97] w h (by simp)
  have P2 := fun v w h => pack_any v [97, 98] w h (by simp)
  have S1 := fun v w h => pseal_any v [97, 98] w h (by simp)
  rw [show (9 : Int).toNat = 9 from rfl, unp_six] at U1
  rw [match_abcd] at M1
  rw [pack_six] at P1
  rw [pack_ab] at P2
  rw [seal_ab32] at S1
  dsimp only at U1 M1
  go_enter Try.func7, Try.ntmps7
  go_wp2_with (first
    | (go_at_call 14; refine (U1 _ _ hb1).mono ?_; rintro e w2 ⟨v2, rfl, hf2, hx2⟩)
    | (go_at_call 8; refine (M1 _ _ hb3).mono ?_; rintro e w4 ⟨rfl, hx4⟩)
    | (go_at_call 10; refine (P2 _ _ hb7).mono ?_; rintro e w8 ⟨v8, rfl, hf8, hx8⟩)
    | (go_at_call 10; refine (P1 _ _ hb5).mono ?_; rintro e w6 ⟨v6, rfl, hf6, hx6⟩)
    | (go_at_call 12; refine (S1 _ _ hb9).mono ?_; rintro e w10 ⟨v10, rfl, hf10, hx10⟩)
    | ((with_reducible show wpList _ _ _ (Oper.mk _ (Op.convert _ _ _) _ _ _ _ :: _) _ _); refine wpList_mark T.bytes T.u8 rfl rfl rfl [0, 97, 129, 0, 1] rfl rfl (by simp [maxLen]) ?_; intro v1 w1 hb1 hx1)
    | ((with_reducible show wpList _ _ _ (Oper.mk _ (Op.convert _ _ _) _ _ _ _ :: _) _ _); refine wpList_mark T.bytes T.u8 rfl rfl rfl [97, 98, 99, 100, 97, 98, 99, 100] rfl rfl (by simp [maxLen]) ?_; intro v3 w3 hb3 hx3)
    | ((with_reducible show wpList _ _ _ (Oper.mk _ (Op.convert _ _ _) _ _ _ _ :: _) _ _); refine wpList_mark T.bytes T.u8 rfl rfl rfl [97, 97, 97, 97, 97, 97] rfl rfl (by simp [maxLen]) ?_; intro v5 w5 hb5 hx5)
    | ((with_reducible show wpList _ _ _ (Oper.mk _ (Op.convert _ _ _) _ _ _ _ :: _) _ _); have hq := hx8; refine wpList_mark T.bytes T.u8 rfl rfl rfl [97, 98] rfl rfl (by simp [maxLen]) ?_; intro v9 w9 hb9 hx9)
    | ((with_reducible show wpList _ _ _ (Oper.mk _ (Op.convert _ _ _) _ _ _ _ :: _) _ _); refine wpList_mark T.bytes T.u8 rfl rfl rfl [97, 98] rfl rfl (by simp [maxLen]) ?_; intro v7 w7 hb7 hx7)
    | ((with_reducible show wpList _ _ _ (Oper.mk _ (Op.convert _ _ _) _ _ _ _ :: _) _ _); refine wpList_string T.bytes T.u8 T.str rfl rfl rfl (v := v10) (l := [0, 97, 98]) (by exact hf10.view) ?_)
    | ((with_reducible show wpList _ _ _ (Oper.mk _ (Op.convert _ _ _) _ _ _ _ :: _) _ _); refine wpList_string T.bytes T.u8 T.str rfl rfl rfl (v := v2) (l := [97, 97, 97, 97, 97, 97]) (by exact (((((hf2.view.ext hx3).ext hx4).ext hx5).ext hx6).ext hx7).ext hx8) ?_)
    | ((with_reducible show wpList _ _ _ (Oper.mk _ (Op.convert _ _ _) _ _ _ _ :: _) _ _); refine wpList_string T.bytes T.u8 T.str rfl rfl rfl (v := v8) (l := [1, 97, 98]) (by exact hf8.view) ?_)
    | ((with_reducible show wpList _ _ _ (Oper.mk _ (Op.convert _ _ _) _ _ _ _ :: _) _ _); refine wpList_string T.bytes T.u8 T.str rfl rfl rfl (v := v6) (l := [0, 97, 129, 0, 1]) (by exact hf6.view) ?_))
  go_ret
  exact ⟨rfl, ((((((((hx1.trans hx2).trans hx3).trans hx4).trans hx5).trans hx6).trans hx7).trans hx8).trans hx9).trans hx10⟩
end Go.Proofs.Ytjhobppgpglndaa
