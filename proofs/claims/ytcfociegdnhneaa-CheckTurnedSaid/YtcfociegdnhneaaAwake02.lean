/- 'awake' of layer 2's statements answers true. -/
import Derived.Test.YtcfociegdnhneaaSumW
namespace Go.Proofs.Ytcfociegdnhneaa
open Go.RowKit

set_option maxHeartbeats 1000000 in
theorem awake_any (w : World) :
    Calls Try.prog 7 #[] w fun e w' => e = .returned (.bool true) ∧ Ext w w' := by
  have K1 : (un (sumOf [49, 50, 51, 52, 53, 54, 55, 56, 57]) == 11051210869376104954) = true := by decide +kernel
  have K2 : sumMore (sumOf [49, 50, 51, 52]) [53, 54, 55, 56, 57] = sumOf [49, 50, 51, 52, 53, 54, 55, 56, 57] := sumMore_append 0 _ _
  go_enter Try.func7, Try.ntmps7
  go_wp2_with (first
    | (go_at_call 13; refine (seal_any _ [120] _ hb1 (by simp)).mono ?_; rintro e w2 ⟨v2, rfl, hf2, hx2⟩)
    | (go_at_call 11; refine (open_any _ (sealL [120]) _ hf2.view (by simp [sealL_length])).mono ?_; rw [openL_seal]; rintro e w3 ⟨v3, rfl, hf3, hx3⟩)
    | (with_reducible show wpList _ _ _ (Oper.mk _ (Op.convert _ _ _) _ _ _ _ :: _) _ _; refine wpList_mark T.bytes T.u8 rfl rfl rfl [120] rfl rfl (by simp [maxLen]) ?_; intro v1 w1 hb1 hx1)
    | (with_reducible show wpList _ _ _ (Oper.mk _ (Op.convert _ _ _) _ _ _ _ :: _) _ _; refine wpList_mark T.bytes T.u8 rfl rfl rfl [49, 50, 51, 52, 53, 54, 55, 56, 57] rfl rfl (by simp [maxLen]) ?_; intro v4 w4 hb4 hx4)
    | (go_at_call 9; refine (of_any v4 _ _ hb4).mono ?_; rintro e w' ⟨rfl, rfl⟩)
    | (with_reducible show wpList _ _ _ (Oper.mk _ (Op.convert _ _ _) _ _ _ _ :: _) _ _; refine wpList_mark T.bytes T.u8 rfl rfl rfl [49, 50, 51, 52] rfl rfl (by simp [maxLen]) ?_; intro v5 w5 hb5 hx5)
    | (go_at_call 9; refine (of_any v5 _ _ hb5).mono ?_; rintro e w' ⟨rfl, rfl⟩)
    | (with_reducible show wpList _ _ _ (Oper.mk _ (Op.convert _ _ _) _ _ _ _ :: _) _ _; refine wpList_mark T.bytes T.u8 rfl rfl rfl [53, 54, 55, 56, 57] rfl rfl (by simp [maxLen]) ?_; intro v6 w6 hb6 hx6)
    | (go_at_call 10; refine (more_any _ v6 _ _ hb6).mono ?_; rintro e w' ⟨rfl, rfl⟩)
    | (with_reducible show wpList _ _ _ (Oper.mk _ (Op.convert _ _ _) _ _ _ _ :: _) _ _; refine wpList_string T.bytes T.u8 T.str rfl rfl rfl (v := v3) (l := [120]) (by exact ((hf3.view.ext hx4).ext hx5).ext hx6) ?_))
  go_ret
  exact ⟨rfl, (((((hx1.trans hx2).trans hx3).trans hx4).trans hx5).trans hx6)⟩
end Go.Proofs.Ytcfociegdnhneaa
