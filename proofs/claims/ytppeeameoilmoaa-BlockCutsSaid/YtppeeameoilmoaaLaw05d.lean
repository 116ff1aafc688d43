/- The statements of layer 5: BlockBack: the walk of the law. -/
import Derived.Test.YtppeeameoilmoaaLaw05c
import Derived.Test.YtppeeameoilmoaaLst2
namespace Go.Proofs.Ytppeeameoilmoaa
open Go.RowKit

theorem layB_pos (l : List UInt8) : (layB l).length ≠ 0 := by
  have := layF_length l.length 1 l (Nat.le_refl _)
  unfold needB at this
  show (layF l.length 1 l).length ≠ 0
  split at this <;> omega
theorem layB_joins (l : List UInt8) (r : List (List UInt8)) (hr : joinGo 2 r = ⟨[], 0⟩) : joinB (layB l ++ r) = ⟨l, (layB l).length, 0⟩ :=
  told_some (join_lay l.length 1 l r (.inl rfl) (Nat.le_refl _) hr) (Nat.pos_of_ne_zero (layB_pos l))
theorem layB_need (l : List UInt8) : needB l.length = ((layB l).length : Int) := (layF_length l.length 1 l (Nat.le_refl _)).symm
theorem joinGo_first' (l : List UInt8) : joinGo 2 (layB l) = ⟨[], 0⟩ := by
  have := joinGo_first l []
  rwa [List.append_nil] at this
theorem layB_few (l : List UInt8) : (layB l).length ≤ l.length + 1 := by
  have := layF_length l.length 1 l (Nat.le_refl _)
  unfold needB at this
  show (layF l.length 1 l).length ≤ _
  split at this <;> omega

set_option maxHeartbeats 2000000 in
theorem blockBack_walk (v1 : Value) (l1 : List UInt8) (v2 : Value) (l2 : List UInt8) (w : World) (h1 : BV w v1 l1) (h2 : BV w v2 l2) :
    Calls Try.prog 6 #[v1, v2] w fun e w' => e = .returned (.bool true) ∧ Ext w w' := by
  obtain ⟨p1, c1, rfl, _, _, _⟩ := id h1
  obtain ⟨p2, c2, rfl, _, _, _⟩ := id h2
  by_cases hl1 : 1000 < l1.length
  · go_enter Try.func6, Try.ntmps6
    go_wp2_with (go_at_call 9; refine (awake_any _).mono ?_; rintro e w1 ⟨rfl, hx1⟩)
    go_ret
    exact ⟨rfl, hx1⟩
  by_cases hl2 : 200 < l2.length
  · go_enter Try.func6, Try.ntmps6
    go_wp2_with (go_at_call 9; refine (awake_any _).mono ?_; rintro e w1 ⟨rfl, hx1⟩)
    go_ret
    exact ⟨rfl, hx1⟩
  have A1 := fun w h => blay_any (.slice p1 l1.length c1) l1 w h (by omega)
  have A2 := fun w h => blay_any (.slice p2 l2.length c2) l2 w h (by omega)
  have N1 := fun w => bneed_any (l1.length : Int) w (by omega) (by omega)
  have f1 := layB_few l1
  have f2 := layB_few l2
  have j1 := layB_joins l1 (layB l2) (joinGo_first' l2)
  have j2 := layB_joins l1 [] rfl
  rw [List.append_nil] at j2
  rw [layB_need l1] at N1
  generalize layB l1 = ls at *
  generalize layB l2 = ms at *
  have J1 := fun v w h => bjoin_any v (ls ++ ms) w h (by simp; omega)
  have J2 := fun v w h => bjoin_any v ls w h (by omega)
  rw [j1] at J1
  rw [j2] at J2
  clear j1 j2
  go_enter Try.func6, Try.ntmps6
  dsimp only at J1 J2
  go_wp2_with (first
    | (go_at_call 14; refine (A2 _ (h2'.ext hx2)).mono ?_; rintro e w3 ⟨v3, rfl, ho3, hx3⟩
       have s3 : SRow 1 RB (fun k => True ∧ some k ≠ v2.ownBlock) w3 v3 ms := ho3.view.mono fun k hk hs => ⟨trivial, fun e => by have := (ho2.own k e.symm).2; have := hs.1; omega⟩)
    | (go_at_call 14; refine (A1 _ h1).mono ?_; rintro e w1 ⟨v1, rfl, ho1, hx1⟩; obtain ⟨q1, d1, rfl, _, hd1⟩ := ho1.view.slice; have s1 := ho1.view.mono (T := fun _ => True) fun _ _ _ => trivial; have h2' := h2.ext hx1
       have s2 : SRow 1 RB (fun k => True ∧ some k ≠ (Value.slice (some ⟨w1.heap.size, 0, none⟩) 0 0).ownBlock) (w1.alloc (.cells #[] 22)) (.slice q1 ls.length d1) ls := (s1.mono fun k hk _ => ⟨trivial, fun e => by cases e; exact Nat.lt_irrefl _ hk⟩).ext (Ext.alloc _ _))
    | (go_at_call 19; refine (J2 _ _ (s1.ext (hx4.trans hx5))).mono ?_; rintro e w6 ⟨v6, rfl, hf6, hx6⟩; have hxx := ((hx1.trans hx4).trans hx5).trans hx6; have b5 := hf5.view.ext hx6; have b6 := hf6.view; have b1 := h1.ext hxx)
    | (go_at_call 19; refine (J1 _ _ (ho4.view.mono fun _ _ _ => trivial)).mono ?_; rintro e w5 ⟨v5, rfl, hf5, hx5⟩)
    | (at_builtin; refine st_items T.lists (ORow.lit0 (fun _ => True) w1 (Nat.le_refl _)) s2 ?_ (by simp [maxLen]; omega) (by simp; omega) (by simp); intro v2 w2 ho2 hg2 hw2; rw [List.nil_append] at ho2; have hx2 := (ORow.lit0 (α := List UInt8) (sz := 1) (R := RB) (fun _ => True) w1 (Nat.le_refl _)).grown (Ext.alloc _ _) hg2)
    | (at_builtin; refine st_items T.lists (ho2.keep hx3) s3 ?_ (by simp [maxLen]; omega) (by omega) (hx2.trans hx3).size; intro v4 w4 ho4 hg4 hw4; have hx4 := (ho2.keep hx3).grown (hx2.trans hx3) hg4)
    | ((with_reducible show wpList _ _ _ (Oper.mk _ (Op.convert _ _ _) _ _ _ _ :: _) _ _); refine st_string T.bytes T.u8 T.str b5 ?_)
    | ((with_reducible show wpList _ _ _ (Oper.mk _ (Op.convert _ _ _) _ _ _ _ :: _) _ _); refine st_string T.bytes T.u8 T.str b6 ?_)
    | ((with_reducible show wpList _ _ _ (Oper.mk _ (Op.convert _ _ _) _ _ _ _ :: _) _ _); refine st_string T.bytes T.u8 T.str b1 ?_)
    | (go_at_call 16; refine (N1 _).mono ?_; rintro e w' ⟨rfl, rfl⟩)
    | (go_at_call 9; refine (awake_any _).mono ?_; rintro e w7 ⟨rfl, hx7⟩))
  go_ret
  exact ⟨rfl, hxx.trans hx7⟩
end Go.Proofs.Ytppeeameoilmoaa
