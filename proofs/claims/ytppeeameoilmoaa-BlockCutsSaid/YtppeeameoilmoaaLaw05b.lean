/- The statements of layer 5: BlockTorn, BlockJoins: the walks of the laws. -/
import Derived.Test.YtppeeameoilmoaaLaw05
namespace Go.Proofs.Ytppeeameoilmoaa
open Go.RowKit

/-- A block torn, zeros behind: its last byte is none. -/
theorem open_torn (z : List UInt8) (hz : z.length = 64) (k : Nat) (hk : k < 64) : openB (z.take k ++ List.replicate (64 - k) 0) = ⟨0, [], 3⟩ := by
  refine open_last _ ?_
  have e : (z.take k ++ List.replicate (64 - k) (0 : UInt8))[63]? = some 0 := by
    rw [List.getElem?_append_right (by rw [List.length_take]; omega), List.length_take, List.getElem?_replicate, if_pos (by omega)]
  rw [List.getD_eq_getElem?_getD, e]
  decide

set_option maxHeartbeats 1000000 in
theorem blockTorn_walk (m1 : Nat) (v : Value) (l : List UInt8) (m2 : Nat) (w : World) (hm1 : m1 < 256) (h : BV w v l) (hm2 : m2 < 256) :
    Calls Try.prog 7 #[.int .u8 m1, v, .int .u8 m2] w fun e w' => e = .returned (.bool true) ∧ Ext w w' := by
  obtain ⟨p1, c1, rfl, _, _, _⟩ := id h
  by_cases hl1 : 61 < l.length
  · go_enter Try.func7, Try.ntmps7
    go_wp2_with (go_at_call 9; refine (awake_any _).mono ?_; rintro e w1 ⟨rfl, hx1⟩)
    go_ret
    exact ⟨rfl, hx1⟩
  obtain ⟨r, hr, hr2⟩ : ∃ r : Nat, (m1 : Int).tmod 2 = (r : Int) ∧ r < 2 := ⟨m1 % 2, by rw [Int.tmod_eq_emod_of_nonneg (by omega)]; exact (Int.natCast_emod m1 2).symm, Nat.mod_lt _ (by omega)⟩
  obtain ⟨k, hk, hkg⟩ : ∃ k : UInt8, (1 : Int) + (r : Int) = (k.toNat : Int) ∧ goodKind k := by
    rcases (by omega : r = 0 ∨ r = 1) with rfl | rfl
    · exact ⟨1, rfl, .inl rfl⟩
    · exact ⟨2, rfl, .inr rfl⟩
  obtain ⟨t, ht, ht2⟩ : ∃ t : Nat, (m2 : Int).tmod 64 = (t : Int) ∧ t < 64 := ⟨m2 % 64, by rw [Int.tmod_eq_emod_of_nonneg (by omega)]; exact (Int.natCast_emod m2 64).symm, Nat.mod_lt _ (by omega)⟩
  have e1 : IntKind.u8.wrap (r : Int) = r := by rw [IntKind.wrap_u8]; omega
  have e2 : IntKind.u8.wrap ((1 : Int) + r) = k.toNat := by rw [hk]; exact byte_wrap_u8 k
  have e3 : IntKind.u8.wrap (t : Int) = t := by rw [IntKind.wrap_u8]; omega
  have e4 : IntKind.i64.wrap (t : Int) = t := by rw [IntKind.wrap_i64]; omega
  have e5 : IntKind.i64.wrap ((64 : Int) - t) = (64 : Int) - t := by rw [IntKind.wrap_i64]; omega
  have e6 : (64 : Int) - (t : Int) = ((64 - t : Nat) : Int) := by omega
  have E6 := Lib.hid e6; clear e6
  have hse : sealB k l = (blockL k l, 0) := by unfold sealB; rw [if_neg (by simpa using hkg), if_neg (by omega)]
  have hzl := blockL_length k l (by omega)
  have S1 := bseal_any k _ l w h (by omega)
  rw [hse] at S1
  generalize blockL k l = z at *
  have hot := open_torn z hzl t ht2
  go_enter Try.func7, Try.ntmps7
  go_wp2_with (first
    | (go_at_call 10; refine S1.mono ?_; rintro e w1 ⟨r1, rfl, hf1, hx1⟩
       obtain ⟨p, c, rfl, hlc, _, _⟩ := hf1.slice
       rw [hzl] at hf1 hlc ⊢
       have hbt := hf1.view.take (k := t) (c' := c) (by omega) (by omega) (Nat.le_refl _))
    | ((with_reducible show wpList _ _ _ (Oper.mk _ (Op.slice _ _ _ _ _) _ _ _ _ :: _) _ _); refine st_sliceTo T.bytes t c ?_)
    | (at_builtin; refine st_append T.bytes (FB.lit0 w1 (Nat.le_refl _)) (hbt.ext (Ext.alloc _ _)) ?_ (by simp; omega) (by simp); intro v2 w2 hf2 hg2 _; have hx2 := (Ext.alloc w1 _).append (FB.lit0 w1 (Nat.le_refl _)) hg2; rw [List.nil_append] at hf2)
    | (at_builtin; refine st_zeros T.bytes T.int (64 - t) hf2 ?_ (by simp; omega) hx2.size (by exact congrArg (Value.int .i64) E6.out); intro v3 w3 hf3 hg3 _; have hx3 := hx2.append hf2 hg3)
    | (go_at_call 12; refine (bopen_any _ _ _ hf3.view).mono ?_; rw [hot]; rintro e w4 ⟨v4, rfl, hf4, hx4⟩)
    | (go_at_call 9; refine (awake_any _).mono ?_; rintro e w5 ⟨rfl, hx5⟩))
  go_ret
  exact ⟨rfl, ((hx1.trans hx3).trans hx4).trans hx5⟩

set_option maxHeartbeats 1000000 in
theorem blockJoins_walk (v : Value) (ls : List (List UInt8)) (w : World) (h : LV w v ls) :
    Calls Try.prog 5 #[v] w fun e w' => e = .returned (.bool true) ∧ Ext w w' := by
  have L1 := blight_any v ls 60 w h
  cases hlt : lightB ls 60 with
  | false =>
    rw [hlt] at L1
    go_enter Try.func5, Try.ntmps5
    go_wp2_with (first
      | (go_at_call 18; refine L1.mono ?_; rintro e w' ⟨rfl, rfl⟩)
      | (go_at_call 9; refine (awake_any _).mono ?_; rintro e w1 ⟨rfl, hx1⟩))
    go_ret
    exact ⟨rfl, hx1⟩
  | true =>
    rw [hlt] at L1
    have hfew : ls.length ≤ 60 := by
      unfold lightB at hlt
      rw [Bool.and_eq_true] at hlt
      exact of_decide_eq_true hlt.1
    obtain ⟨j, hj⟩ : ∃ j, joinB ls = j := ⟨_, rfl⟩
    have J1 := fun w h => bjoin_any v ls w h (by omega)
    have J2 := fun w h => rbjoin_any v ls w h (by omega)
    rw [hj] at J1 J2
    obtain ⟨j1, j2, j3⟩ := j
    clear hj
    go_enter Try.func5, Try.ntmps5
    go_wp2_with (first
      | (go_at_call 18; refine L1.mono ?_; rintro e w' ⟨rfl, rfl⟩)
      | (go_at_call 19; refine (J1 _ h).mono ?_; rintro e w1 ⟨v1, rfl, hf1, hx1⟩)
      | (go_at_call 20; refine (J2 _ (h.ext hx1)).mono ?_; rintro e w2 ⟨v2, rfl, hf2, hx2⟩; have b1 := hf1.view.ext hx2; have b2 := hf2.view)
      | ((with_reducible show wpList _ _ _ (Oper.mk _ (Op.convert _ _ _) _ _ _ _ :: _) _ _); refine st_string T.bytes T.u8 T.str b1 ?_)
      | ((with_reducible show wpList _ _ _ (Oper.mk _ (Op.convert _ _ _) _ _ _ _ :: _) _ _); refine st_string T.bytes T.u8 T.str b2 ?_)
      | (go_at_call 9; refine (awake_any _).mono ?_; rintro e w3 ⟨rfl, hx3⟩))
    go_ret
    exact ⟨rfl, (hx1.trans hx2).trans hx3⟩
end Go.Proofs.Ytppeeameoilmoaa
