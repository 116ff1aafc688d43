/- 'awake' of layer 7's statements answers true. -/
import Derived.Test.YtlbeemjcndhenaaFrA
import Derived.Test.YtlbeemjcndhenaaLst2
namespace Go.Proofs.Ytlbeemjcndhenaa
open Go.RowKit

theorem frame_ab : ∃ z, frLay [97, 98] = ([z], 0) ∧ z.length = 64 ∧ z[1]? = some 14 ∧ oneB [z] = ⟨[97, 98], 1, 0⟩ ∧ scanB ([z] ++ [[]]) = ([((0 : Int), [97, 98])], 1) := by
  have hl := frameL_length [97, 98]
  have e : layB (frameL [97, 98]) = [blockL 1 (frameL [97, 98])] := layF_short _ 1 _ (by rw [hl]; simp)
  refine ⟨blockL 1 (frameL [97, 98]), ?_, blockL_length _ _ (by rw [hl]; simp), ?_, ?_, ?_⟩
  · unfold frLay; rw [if_neg (by simp), e]
  · show some (UInt8.ofNat (frameL [97, 98]).length) = _
    rw [hl]; rfl
  · have := oneB_lay [97, 98] (by simp) [] rfl
    rw [e] at this
    exact this
  · have h1 : oneB [[]] = ⟨[], 0, 8⟩ := by
      have : joinB [[]] = ⟨[], 0, 8⟩ := by kernel_rfl
      unfold oneB; rw [this]; rfl
    have := scan_laid [[97, 98]] 0 [[]] (by simp) (by kernel_rfl) (by rw [h1]; decide)
    simp only [laidB, placeB, e, List.append_nil] at this
    exact this

theorem lay_ab_any (v : Value) (z : List UInt8) (hz : frLay [97, 98] = ([z], 0)) (w : World) (h : BV w v [97, 98]) :
    Calls Try.prog 8 #[v] w fun e w' => ∃ p d, e = .returned (.tuple #[.slice p 1 d, .int .i64 0]) ∧ LB (fun k => w.heap.size ≤ k) w' w.heap.size (.slice p 1 d) [z] ∧ Ext w w' := by
  have := flay_any v [97, 98] w h
  rw [hz] at this
  refine this.mono ?_
  rintro e w' ⟨v', rfl, ho, hx⟩
  obtain ⟨p, d, rfl, _, _⟩ := ho.view.slice
  exact ⟨p, d, rfl, ho, hx⟩
theorem one_ab_any (v : Value) (z : List UInt8) (hz : oneB [z] = ⟨[97, 98], 1, 0⟩) (w : World) (h : LV w v [z]) :
    Calls Try.prog 14 #[v] w fun e w' => ∃ v', e = .returned (.tuple #[v', .int .i64 1, .int .i64 0]) ∧ FB w' w.heap.size v' [97, 98] ∧ Ext w w' := by
  have := fone_any v [z] w h (by simp)
  rw [hz] at this
  exact this
theorem scan_ab_any (v : Value) (z : List UInt8) (hz : scanB ([z] ++ [[]]) = ([((0 : Int), [97, 98])], 1)) (w : World) (h : LV w v ([z] ++ [[]])) :
    Calls Try.prog 16 #[v] w fun e w' => ∃ b o d u, e = .returned (.tuple #[.slice (some ⟨b, o, none⟩) 1 d, .int .i64 1]) ∧ w'.cell? ⟨b, o, none⟩ = some (.int .i64 0) ∧ w'.cell? ⟨b, o + 1, none⟩ = some u ∧ BV w' u [97, 98] ∧ Ext w w' := by
  have := fscan_any v ([z] ++ [[]]) w h (by simp)
  rw [hz] at this
  refine this.mono ?_
  rintro e w' ⟨v', rfl, ho, hx⟩
  obtain ⟨p, d, rfl, _, _⟩ := ho.view.slice
  obtain ⟨b, o, u, rfl, h1, h2, hu⟩ := found_at ho.view (j := 0) (by simp)
  exact ⟨b, o, d, u, rfl, by simpa using h1, by simpa using h2, hu.now, hx⟩
theorem need_49_any (w : World) : Calls Try.prog 11 #[.int .i64 49] w fun e w' => e = .returned (.int .i64 1) ∧ w = w' := fneed_any 49 w (by omega)
theorem need_50_any (w : World) : Calls Try.prog 11 #[.int .i64 50] w fun e w' => e = .returned (.int .i64 2) ∧ w = w' := fneed_any 50 w (by omega)

set_option maxHeartbeats 2000000 in
theorem awake_any (w : World) :
    Calls Try.prog 7 #[] w fun e w' => e = .returned (.bool true) ∧ Ext w w' := by
  obtain ⟨z, hz1, hz2, hz3, hz4, hz5⟩ := frame_ab
  go_enter Try.func7, Try.ntmps7
  repeat' (first
    | ((with_reducible show wpList _ _ _ (List.append _ _) _ _); show wpList _ _ _ (_ :: _) _ _)
    | (go_big_may; first
        | ((with_reducible show wpList _ _ _ (Oper.mk _ (Op.convert _ _ _) _ _ _ _ :: _) _ _); refine st_string T.bytes T.u8 T.str b3 ?_)
        | (go_at_call 8; refine (lay_ab_any _ z hz1 _ hb1).mono ?_; rintro e w2 ⟨p2, d2, rfl, ho2, hx2⟩)
        | (go_at_call 14; refine (one_ab_any _ z hz4 _ (ho2.view.mono fun _ _ _ => trivial)).mono ?_; rintro e w3 ⟨v3, rfl, hf3, hx3⟩
           have hoa := (ho2.keep hx3).keep (Ext.alloc w3 (.cells #[.slice none 0 0] 22))
           have hxa := (hx2.trans hx3).trans (Ext.alloc w3 (.cells #[.slice none 0 0] 22))
           have hs1 : SRow 1 RB (fun k => w1.heap.size ≤ k ∧ some k ≠ (Value.slice p2 1 d2).ownBlock) (w3.alloc (.cells #[.slice none 0 0] 22)) (.slice (some ⟨w3.heap.size, 0, none⟩) 1 1) [[]] := LV.lit1 fun w' _ => BV.nil w')
        | (at_builtin; refine st_items_old T.lists hoa hs1 ?_ (by simp [maxLen]) (by simp) hxa.size (by simp); intro v4 w4 ho4 hg4 hw4 s4
           have hx4 := hoa.grown hxa hg4)
        | (go_at_call 16; refine (scan_ab_any _ z hz5 _ (ho4.view.mono fun _ _ _ => trivial)).mono ?_; rintro e w5 ⟨b5, o5, d5, u5, rfl, hc5, hd5, hu5, hx5⟩
           obtain ⟨b6, o6, u6, e6, hc6, hu6⟩ := (s4.ext hx5).row (j := 0) (by simp)
           cases e6
           have hb6 := hu6.now
           obtain ⟨p7, d7, e7, hd7, _, hs7⟩ := hb6
           cases e7
           obtain ⟨b7, o7, e8, hc7⟩ := hs7.at (k := 1) (u := bv 14) (by have e9 : [z][0] = z := rfl
                                                                        rw [e9]; simp [bs, hz3])
           cases e8
           rw [Nat.add_zero] at hc6
           have hl7 : ([z][0]).length = 64 := hz2
           rw [hl7] at hc6
           obtain ⟨p9, d9, e9, _, _, _⟩ := id hu5
           cases e9
           have hne : v3.ownBlock = none ∨ v3.ownBlock ≠ (Value.slice (some ⟨b6, o6, none⟩) 1 d2).ownBlock := by
             cases hv : v3.ownBlock with
             | none => exact .inl rfl
             | some k => exact .inr fun e => by have h1 := (hf3.lt k hv).1; have h2 := (ho2.own k e.symm).2; omega
           have hf4 : FB w4 w2.heap.size v3 [97, 98] := World.ownsRow.kept (hf3.keep (Ext.alloc w3 _)) hg4 hne
           have b3 := hf4.view.ext hx5
           have hx15 := (hx1.trans hx4).trans hx5
           clear hne)
        | (go_at_call 20; refine (fsame_any 0 _ [97, 98] 0 _ [97, 98] _ (hu5.ext hx8) hb8).mono ?_; rintro e w9 ⟨rfl, hx9⟩)
        | (go_at_call 11; refine (need_49_any _).mono ?_; rintro e w' ⟨rfl, rfl⟩)
        | (go_at_call 11; refine (need_50_any _).mono ?_; rintro e w' ⟨rfl, rfl⟩)
        | ((with_reducible show wpList _ _ _ (Oper.mk _ (Op.convert _ _ _) _ _ _ _ :: _) _ _); have hq := hx5; refine wpList_mark T.bytes T.u8 rfl rfl rfl [97, 98] rfl rfl (by simp [maxLen]) ?_; intro v8 w8 hb8 hx8; obtain ⟨p8, c8, e8', _, _, _⟩ := id hb8; subst e8')
        | ((with_reducible show wpList _ _ _ (Oper.mk _ (Op.convert _ _ _) _ _ _ _ :: _) _ _); refine wpList_mark T.bytes T.u8 rfl rfl rfl [97, 98] rfl rfl (by simp [maxLen]) ?_; intro v1 w1 hb1 hx1))
    | go_values | go_skip | go_guarded | go_step | go_upon | go_back | (simp only [Int.not_lt, Int.not_le] at *; go_simp) | (go_values <;> (try go_simp)) | (go_ite <;> go_prune <;> (try go_simp)) | (split <;> (first | (rename_i hx; exact (hx _ rfl).elim) | go_prune)))
  go_ret
  exact ⟨rfl, (hx15.trans hx8).trans hx9⟩
end Go.Proofs.Ytlbeemjcndhenaa
