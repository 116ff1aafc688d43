/- 'awake' of layer 5's statements answers true. -/
import Derived.Test.YtppeeameoilmoaaBlkL
import Derived.Test.YtppeeameoilmoaaBlkN
import Derived.Test.YtppeeameoilmoaaBlkJ
namespace Go.Proofs.Ytppeeameoilmoaa
open Go.RowKit

theorem seal_ab : ∃ z, sealB 1 [97, 98] = (z, 0) ∧ z.length = 64 ∧ z.take 5 = [1, 2, 97, 98, 0] ∧ z[63]? = some 90 ∧ openB z = ⟨1, [97, 98], 0⟩ :=
  ⟨blockL 1 [97, 98], rfl, blockL_length _ _ (by simp), rfl, rfl, open_block 1 [97, 98] (.inl rfl) (by simp)⟩
theorem join_62 : ∃ ls, layB (List.replicate 62 0) = ls ∧ joinB ls = ⟨List.replicate 62 0, 2, 0⟩ ∧ ls.length = 2 := by
  have e := join_lay 62 1 (List.replicate 62 0) [] (.inl rfl) (by simp) rfl
  rw [List.append_nil] at e
  have e2 : (layF 62 1 (List.replicate 62 0)).length = 2 := rfl
  rw [e2] at e
  exact ⟨_, rfl, told_some e (by decide), e2⟩

theorem seal_ab_any (v : Value) (z : List UInt8) (hz1 : sealB 1 [97, 98] = (z, 0)) (hz2 : z.length = 64) (hz4 : z[63]? = some 90) (w : World) (h : BV w v [97, 98]) :
    Calls Try.prog 10 #[.int .u8 1, v] w fun e w' => ∃ g c, e = .returned (.tuple #[.slice (some ⟨g, 0, none⟩) 64 c, .int .i64 0]) ∧ 64 ≤ c ∧ FB w' w.heap.size (.slice (some ⟨g, 0, none⟩) 64 c) z ∧ w'.cell? ⟨g, 63, none⟩ = some (.int .u8 90) ∧ Ext w w' := by
  refine (bseal_any 1 _ [97, 98] _ h (by simp)).mono ?_
  rw [hz1]
  rintro e w2 ⟨v2, rfl, hf2', hx2⟩
  have hf2 : FB w2 w.heap.size v2 z := hf2'
  obtain ⟨g, c, rfl, hc1, hc2, hg1, hg2⟩ := hf2.head (by intro e; subst e; cases hz2)
  rw [hz2] at hf2 hc1 ⊢
  refine ⟨g, c, rfl, hc1, hf2, ?_, hx2⟩
  rw [show w2.cell? ⟨g, 63, none⟩ = some (bv z[63]) from hf2.cell (j := 63) (by omega)]
  rw [List.getElem?_eq_getElem (by omega)] at hz4
  rw [Option.some.inj hz4]
  rfl

theorem open_ab_any (v : Value) (z : List UInt8) (hz5 : openB z = ⟨1, [97, 98], 0⟩) (w : World) (h : BV w v z) :
    Calls Try.prog 12 #[v] w fun e w' => ∃ v', e = .returned (.tuple #[.int .u8 1, v', .int .i64 0]) ∧ FB w' w.heap.size v' [97, 98] ∧ Ext w w' := by
  have := bopen_any v z w h
  rw [hz5] at this
  exact this
theorem join_62_any (v : Value) (ls : List (List UInt8)) (hj2 : joinB ls = ⟨List.replicate 62 0, 2, 0⟩) (hj3 : ls.length = 2) (w : World) (h : LV w v ls) :
    Calls Try.prog 19 #[v] w fun e w' => ∃ p c, e = .returned (.tuple #[.slice p 62 c, .int .i64 2, .int .i64 0]) ∧ Ext w w' := by
  refine (bjoin_any v ls w h (by omega)).mono ?_
  rw [hj2]
  rintro e w6 ⟨v6, rfl, hf6, hx6⟩
  obtain ⟨p6, c6, rfl, _, _, _⟩ := hf6.slice
  exact ⟨p6, c6, by simp, hx6⟩
theorem need_61_any (w : World) : Calls Try.prog 16 #[.int .i64 61] w fun e w' => e = .returned (.int .i64 1) ∧ w = w' := bneed_any 61 w (by omega) (by omega)
theorem need_62_any (w : World) : Calls Try.prog 16 #[.int .i64 62] w fun e w' => e = .returned (.int .i64 2) ∧ w = w' := bneed_any 62 w (by omega) (by omega)

set_option maxHeartbeats 1000000 in
theorem awake_any (w : World) :
    Calls Try.prog 9 #[] w fun e w' => e = .returned (.bool true) ∧ Ext w w' := by
  obtain ⟨z, hz1, hz2, hz3, hz4, hz5⟩ := seal_ab
  obtain ⟨ls, hj1, hj2, hj3⟩ := join_62
  go_enter Try.func9, Try.ntmps9
  repeat' (first
    | ((with_reducible show wpList _ _ _ (List.append _ _) _ _); show wpList _ _ _ (_ :: _) _ _)
    | (go_big_may; first
        | (go_at_call 10; refine (seal_ab_any _ z hz1 hz2 hz4 _ hb1).mono ?_; rintro e w2 ⟨g, c, rfl, hc1, hf2, c63, hx2⟩)
        | (go_at_call 12; refine (open_ab_any _ _ hz5 _ hf2.view).mono ?_; rintro e w3 ⟨v3, rfl, hf3, hx3⟩)
        | ((with_reducible show wpList _ _ _ (Oper.mk _ (Op.convert _ _ _) _ _ _ _ :: _) _ _); refine wpList_mark T.bytes T.u8 rfl rfl rfl [97, 98] rfl rfl (by simp [maxLen]) ?_; intro v1 w1 hb1 hx1)
        | ((with_reducible show wpList _ _ _ (Oper.mk _ (Op.makeSlice _ _ _) _ _ _ _ :: _) _ _); refine wpList_make_bytes T.bytes (n := 62) rfl rfl rfl rfl (by omega) ?_; intro w4 hf4 hx4)
        | (go_at_call 14; refine (blay_any _ _ _ hf4.view (by simp)).mono ?_; rw [hj1]; rintro e w5 ⟨v5, rfl, ho5, hx5⟩)
        | (go_at_call 19; refine (join_62_any _ _ hj2 hj3 _ (ho5.view.mono fun _ _ _ => trivial)).mono ?_; rintro e w6 ⟨p6, c6, rfl, hx6⟩
           have hxx := ((((hx1.trans hx2).trans hx3).trans hx4).trans hx5).trans hx6
           have d63 := (((hx3.trans hx4).trans hx5).trans hx6).cell c63
           have hbv := (hf2.view.take (k := 5) (c' := c) (by omega) (by omega) (Nat.le_refl _)).ext (((hx3.trans hx4).trans hx5).trans hx6)
           rw [hz3] at hbv
           have hb3 := hf3.view.ext ((hx4.trans hx5).trans hx6))
        | (go_at_call 16; refine (need_61_any _).mono ?_; rintro e w' ⟨rfl, rfl⟩)
        | (go_at_call 16; refine (need_62_any _).mono ?_; rintro e w' ⟨rfl, rfl⟩)
        | ((with_reducible show wpList _ _ _ (Oper.mk _ (Op.slice _ _ _ _ _) _ _ _ _ :: _) _ _); refine st_sliceTo T.bytes 5 c ?_)
        | ((with_reducible show wpList _ _ _ (Oper.mk _ (Op.convert _ _ _) _ _ _ _ :: _) _ _); refine st_string T.bytes T.u8 T.str hbv ?_)
        | ((with_reducible show wpList _ _ _ (Oper.mk _ (Op.convert _ _ _) _ _ _ _ :: _) _ _); refine st_string T.bytes T.u8 T.str hb3 ?_))
    | go_values | go_skip | go_guarded | go_step | go_upon | go_back | (simp only [Int.not_lt, Int.not_le] at *; go_simp) | (go_values <;> (try go_simp)) | (go_ite <;> go_prune <;> (try go_simp)) | (split <;> (first | (rename_i hx; exact (hx _ rfl).elim) | go_prune)))
  go_ret
  exact ⟨rfl, hxx⟩
end Go.Proofs.Ytppeeameoilmoaa
