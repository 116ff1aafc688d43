/- The statements of layer 5: BlockSeals, BlockLays, BlockJoins, BlockBack, BlockTorn, BlockCuts: the walks of the laws. -/
import Derived.Test.YtppeeameoilmoaaAwake05
namespace Go.Proofs.Ytppeeameoilmoaa
open Go.RowKit

theorem byte_of (m : Nat) (h : m < 256) : ∃ k : UInt8, (m : Int) = (k.toNat : Int) := ⟨UInt8.ofNat m, by rw [toNat_ofNat8]; omega⟩

set_option maxHeartbeats 1000000 in
theorem blockSeals_walk (m : Nat) (v1 : Value) (l1 : List UInt8) (v2 : Value) (l2 : List UInt8) (w : World) (hm : m < 256) (h1 : BV w v1 l1) (h2 : BV w v2 l2) :
    Calls Try.prog 3 #[.int .u8 m, v1, v2] w fun e w' => e = .returned (.bool true) ∧ Ext w w' := by
  obtain ⟨k, hk⟩ := byte_of m hm
  rw [hk]
  obtain ⟨p1, c1, rfl, _, _, _⟩ := id h1
  obtain ⟨p2, c2, rfl, _, _, _⟩ := id h2
  by_cases hl1 : 200 < l1.length
  · go_enter Try.func3, Try.ntmps3
    go_wp2_with (go_at_call 9; refine (awake_any _).mono ?_; rintro e w1 ⟨rfl, hx1⟩)
    go_ret
    exact ⟨rfl, hx1⟩
  by_cases hl2 : 200 < l2.length
  · go_enter Try.func3, Try.ntmps3
    go_wp2_with (go_at_call 9; refine (awake_any _).mono ?_; rintro e w1 ⟨rfl, hx1⟩)
    go_ret
    exact ⟨rfl, hx1⟩
  obtain ⟨s, hs⟩ : ∃ s, sealB k l1 = s := ⟨_, rfl⟩
  obtain ⟨o, ho⟩ : ∃ o, openB l2 = o := ⟨_, rfl⟩
  have S1 := fun v w h => bseal_any k v l1 w h (by omega)
  have S2 := fun v w h => rbseal_any k v l1 w h (by omega)
  have O1 := fun v w h => bopen_any v l2 w h
  have O2 := fun v w h => rbopen_any v l2 w h
  rw [hs] at S1 S2
  rw [ho] at O1 O2
  obtain ⟨s1, s2⟩ := s
  obtain ⟨o1, o2, o3⟩ := o
  clear hs ho
  go_enter Try.func3, Try.ntmps3
  repeat' (first
    | ((with_reducible show wpList _ _ _ (List.append _ _) _ _); show wpList _ _ _ (_ :: _) _ _)
    | (go_big_may; first
        | (go_at_call 10; refine (S1 _ _ h1).mono ?_; rintro e w1 ⟨r1, rfl, hf1, hx1⟩)
        | (go_at_call 11; refine (S2 _ _ (h1.ext hx1)).mono ?_; rintro e w2 ⟨r2, rfl, hf2, hx2⟩)
        | (go_at_call 12; refine (O1 _ _ ((h2.ext hx1).ext hx2)).mono ?_; rintro e w3 ⟨r3, rfl, hf3, hx3⟩)
        | (go_at_call 13; refine (O2 _ _ (((h2.ext hx1).ext hx2).ext hx3)).mono ?_; rintro e w4 ⟨r4, rfl, hf4, hx4⟩
           have b1 := ((hf1.view.ext hx2).ext hx3).ext hx4
           have b2 := (hf2.view.ext hx3).ext hx4
           have b3 := hf3.view.ext hx4
           have b4 := hf4.view)
        | ((with_reducible show wpList _ _ _ (Oper.mk _ (Op.convert _ _ _) _ _ _ _ :: _) _ _); refine st_string T.bytes T.u8 T.str b1 ?_)
        | ((with_reducible show wpList _ _ _ (Oper.mk _ (Op.convert _ _ _) _ _ _ _ :: _) _ _); refine st_string T.bytes T.u8 T.str b2 ?_)
        | ((with_reducible show wpList _ _ _ (Oper.mk _ (Op.convert _ _ _) _ _ _ _ :: _) _ _); refine st_string T.bytes T.u8 T.str b3 ?_)
        | ((with_reducible show wpList _ _ _ (Oper.mk _ (Op.convert _ _ _) _ _ _ _ :: _) _ _); refine st_string T.bytes T.u8 T.str b4 ?_)
        | (go_at_call 9; refine (awake_any _).mono ?_; rintro e w5 ⟨rfl, hx5⟩))
    | go_values | go_skip | go_guarded | go_step | go_upon | go_back | (simp only [Int.not_lt, Int.not_le] at *; go_simp) | (go_values <;> (try go_simp)) | (go_ite <;> go_prune <;> (try go_simp)) | (split <;> (first | (rename_i hx; exact (hx _ rfl).elim) | go_prune)))
  go_ret
  exact ⟨rfl, (((hx1.trans hx2).trans hx3).trans hx4).trans hx5⟩
end Go.Proofs.Ytppeeameoilmoaa
