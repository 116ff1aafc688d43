/- What the program's and the document's functions of layer 7 compute: laying, how many blocks, the first body. -/
import Derived.Test.YtlbeemjcndhenaaFr
import Derived.Test.YtlbeemjcndhenaaSumW
import Derived.Test.YtlbeemjcndhenaaBlkL
import Derived.Test.YtlbeemjcndhenaaBlkN
import Derived.Test.YtlbeemjcndhenaaBlkJ
namespace Go.Proofs.Ytlbeemjcndhenaa
open Go.RowKit

theorem u64_of (n : Nat) (h : n ≤ 100000) : ∃ nb : BitVec 64, IntKind.u64.wrap (n : Int) = un nb ∧ Hid (nb.toNat = n) := by
  have e : (BitVec.ofNat 64 n).toNat = n := by simp; omega
  refine ⟨BitVec.ofNat 64 n, ?_, e⟩
  unfold un
  rw [e, IntKind.wrap_u64]; omega

set_option maxHeartbeats 1000000 in
theorem flay_any (v : Value) (l : List UInt8) (w : World) (h : BV w v l) :
    Calls Try.prog 8 #[v] w fun e w' => ∃ v', e = .returned (.tuple #[v', .int .i64 (frLay l).2]) ∧ LB (fun k => w.heap.size ≤ k) w' w.heap.size v' (frLay l).1 ∧ Ext w w' := by
  obtain ⟨p, cp, rfl, hn, hcp, _⟩ := id h
  unfold frLay
  by_cases hl : 8192 < l.length
  · rw [if_pos hl]
    go_enter Try.func8, Try.ntmps8
    go_wp2_with fail
    go_ret2
    exact ⟨.slice none 0 0, rfl, ORow.nil _ _ _, Ext.refl _⟩
  rw [if_neg hl]
  obtain ⟨nb, hnb, HN⟩ := u64_of l.length (by omega)
  have hsl := sealL_length l
  have hfl := frameL_length l
  have HF : Hid (fixedL nb.toNat 4 ++ sealL l = frameL l) := by
    have : fixedL nb.toNat 4 ++ sealL l = frameL l := by rw [HN.out]; rfl
    exact this
  have L1 := fun v w h => blay_any v (frameL l) w h (by omega)
  have hf4 := fixedL_length nb.toNat 4
  go_enter Try.func8, Try.ntmps8
  go_wp2_with (first
    | (go_at_call 23; refine (fixed_any nb 4 (by decide) _).mono ?_; rintro e w1 ⟨v1, rfl, hf1, hx1⟩)
    | (go_at_call 24; refine (seal_any _ l _ (h.ext hx1) (by omega)).mono ?_; rintro e w2 ⟨v2, rfl, hf2, hx2⟩)
    | (at_builtin; refine st_append T.bytes (hf1.keep hx2) hf2.view ?_ (by omega) (hx1.trans hx2).size; intro v3 w3 hf3 hg3 _; have hx3 := (hx1.trans hx2).append (hf1.keep hx2) hg3; rw [HF.out] at hf3)
    | (go_at_call 22; refine (L1 _ _ hf3.view).mono ?_; rintro e w4 ⟨v4, rfl, ho4, hx4⟩))
  go_ret2
  exact ⟨v4, rfl, (ho4.base hx3.size).mono fun k _ hk => Nat.le_trans hx3.size hk, hx3.trans hx4⟩

set_option maxHeartbeats 1000000 in
theorem rflay_any (v : Value) (l : List UInt8) (w : World) (h : BV w v l) :
    Calls Try.prog 9 #[v] w fun e w' => ∃ v', e = .returned (.tuple #[v', .int .i64 (frLay l).2]) ∧ LB (fun k => w.heap.size ≤ k) w' w.heap.size v' (frLay l).1 ∧ Ext w w' := by
  obtain ⟨p, cp, rfl, hn, hcp, _⟩ := id h
  unfold frLay
  by_cases hl : 8192 < l.length
  · rw [if_pos hl]
    go_enter Try.func9, Try.ntmps9
    go_wp2_with fail
    go_ret2
    exact ⟨.slice none 0 0, rfl, ORow.nil _ _ _, Ext.refl _⟩
  rw [if_neg hl]
  obtain ⟨nb, hnb, HN⟩ := u64_of l.length (by omega)
  have hsl := sealL_length l
  have hfl := frameL_length l
  have HF : Hid (fixedL nb.toNat 4 ++ sealL l = frameL l) := by
    have : fixedL nb.toNat 4 ++ sealL l = frameL l := by rw [HN.out]; rfl
    exact this
  have L1 := fun v w h => rblay_any v (frameL l) w h (by omega)
  have hf4 := fixedL_length nb.toNat 4
  go_enter Try.func9, Try.ntmps9
  go_wp2_with (first
    | (go_at_call 26; refine (rfixed_any nb 4 (by decide) _).mono ?_; rintro e w1 ⟨v1, rfl, hf1, hx1⟩)
    | (go_at_call 27; refine (rseal_any _ l _ (h.ext hx1) (by omega)).mono ?_; rintro e w2 ⟨v2, rfl, hf2, hx2⟩)
    | (at_builtin; refine st_append T.bytes (hf1.keep hx2) hf2.view ?_ (by omega) (hx1.trans hx2).size; intro v3 w3 hf3 hg3 _; have hx3 := (hx1.trans hx2).append (hf1.keep hx2) hg3; rw [HF.out] at hf3)
    | (go_at_call 25; refine (L1 _ _ hf3.view).mono ?_; rintro e w4 ⟨v4, rfl, ho4, hx4⟩))
  go_ret2
  exact ⟨v4, rfl, (ho4.base hx3.size).mono fun k _ hk => Nat.le_trans hx3.size hk, hx3.trans hx4⟩

def frNeed (n : Int) : Int := needB (max 0 n + 12)
theorem fneed_any (n : Int) (w : World) (h : n ≤ 100000) :
    Calls Try.prog 11 #[.int .i64 n] w fun e w' => e = .returned (.int .i64 (frNeed n)) ∧ w = w' := by
  obtain ⟨m, hm, hm2⟩ : ∃ m : Int, max 0 n = m ∧ (0 ≤ m ∧ m ≤ 100000) := ⟨_, rfl, by omega, by omega⟩
  have h1 : min n 1099511627776 = n := by omega
  have hw : IntKind.i64.wrap (m + 12) = m + 12 := by rw [IntKind.wrap_i64]; omega
  have N1 := fun w => bneed_any (m + 12) w (by omega) (by omega)
  unfold frNeed
  rw [hm]
  go_enter Try.func11, Try.ntmps11
  go_wp2_with (first
    | ((with_reducible show wpList _ _ _ (Oper.mk _ (Op.call { callee := Callee.builtin Builtin.min, args := _, argTypes := _ }) _ _ _ _ :: _) _ _); refine wpList_run rfl (run_min rfl rfl rfl _) ?_; rw [h1])
    | ((with_reducible show wpList _ _ _ (Oper.mk _ (Op.call { callee := Callee.builtin Builtin.max, args := _, argTypes := _ }) _ _ _ _ :: _) _ _); refine wpList_run rfl (run_max rfl rfl rfl _) ?_; rw [hm])
    | (go_at_call 28; refine (N1 _).mono ?_; rintro e w' ⟨rfl, rfl⟩))
  go_ret
  exact ⟨rfl, rfl⟩
theorem rfneed_any (n : Int) (w : World) (h : n ≤ 100000) :
    Calls Try.prog 12 #[.int .i64 n] w fun e w' => e = .returned (.int .i64 (frNeed n)) ∧ w = w' := by
  obtain ⟨m, hm, hm2⟩ : ∃ m : Int, max 0 n = m ∧ (0 ≤ m ∧ m ≤ 100000) := ⟨_, rfl, by omega, by omega⟩
  have h1 : min n 1099511627776 = n := by omega
  have hw : IntKind.i64.wrap (m + 12) = m + 12 := by rw [IntKind.wrap_i64]; omega
  have N1 := fun w => rbneed_any (m + 12) w (by omega) (by omega)
  unfold frNeed
  rw [hm]
  go_enter Try.func12, Try.ntmps12
  go_wp2_with (first
    | ((with_reducible show wpList _ _ _ (Oper.mk _ (Op.call { callee := Callee.builtin Builtin.min, args := _, argTypes := _ }) _ _ _ _ :: _) _ _); refine wpList_run rfl (run_min rfl rfl rfl _) ?_; rw [h1])
    | ((with_reducible show wpList _ _ _ (Oper.mk _ (Op.call { callee := Callee.builtin Builtin.max, args := _, argTypes := _ }) _ _ _ _ :: _) _ _); refine wpList_run rfl (run_max rfl rfl rfl _) ?_; rw [hm])
    | (go_at_call 29; refine (N1 _).mono ?_; rintro e w' ⟨rfl, rfl⟩))
  go_ret
  exact ⟨rfl, rfl⟩
end Go.Proofs.Ytlbeemjcndhenaa
