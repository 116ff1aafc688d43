/- What the program's and the document's functions of layer 5 compute of one block: sealing, opening, how many are needed. -/
import Derived.Test.YtlbeemjcndhenaaBase
import Derived.Test.YtlbeemjcndhenaaZeros
import Derived.Test.YtlbeemjcndhenaaBlk
namespace Go.Proofs.Ytlbeemjcndhenaa
open Go.RowKit

/-- A byte's kind, decided. -/
theorem kind_cases (k : UInt8) : goodKind k ∨ ((k.toNat : Int) != 1) = true ∧ ((k.toNat : Int) != 2) = true ∧ ¬ goodKind k := by
  by_cases h : goodKind k
  · exact .inl h
  · refine .inr ⟨?_, ?_, h⟩
    · rw [bne_iff_ne]; intro e; exact h (.inl (UInt8.toNat_inj.1 (by simp; omega)))
    · rw [bne_iff_ne]; intro e; exact h (.inr (UInt8.toNat_inj.1 (by simp; omega)))

set_option maxHeartbeats 400000 in
theorem bseal_any (k : UInt8) (v : Value) (l : List UInt8) (w : World) (h : BV w v l) (hl : l.length ≤ 100000) :
    Calls Try.prog 37 #[bv k, v] w fun e w' => ∃ v', e = .returned (.tuple #[v', .int .i64 (sealB k l).2]) ∧ FB w' w.heap.size v' (sealB k l).1 ∧ Ext w w' := by
  have h0 := h
  obtain ⟨p, c, rfl, hn, hc, hs⟩ := h
  unfold maxLen at hc
  rcases kind_cases k with hk | ⟨hk1, hk2, hk⟩
  · by_cases h61 : 61 < l.length
    · have e : sealB k l = ([], 5) := by unfold sealB; rw [if_neg (by simpa using hk), if_pos h61]
      rw [e]
      rcases hk with rfl | rfl
      all_goals
        go_enter Try.func37, Try.ntmps37
        go_wp2_with fail

        go_ret2
        exact ⟨_, rfl, FB.nil _ _, Ext.refl _⟩
    · have e : sealB k l = (blockL k l, 0) := by unfold sealB; rw [if_neg (by simpa using hk), if_neg h61]
      rw [e]
      have hkk : ((k.toNat : Int) != 1) = true ∧ ((k.toNat : Int) != 2) = false ∨ ((k.toNat : Int) != 1) = false := by
        rcases hk with rfl | rfl
        · right; rfl
        · left; exact ⟨rfl, rfl⟩
      have hxv : Hid (bv (UInt8.ofNat l.length) = .int .u8 (l.length : Int)) := by
        show Value.int .u8 _ = _
        rw [toNat_ofNat8]
        congr 1; omega
      have HB := Lib.hid (laid_block k l (by omega))
      rcases hkk with ⟨hk1, hk2⟩ | hk1
      all_goals
        go_enter Try.func37, Try.ntmps37
        go_wp2_with (first
          | ((with_reducible show wpList _ _ _ (Oper.mk _ (Op.makeSlice _ _ _) _ _ _ _ :: _) _ _); refine wpList_make_bytes T.bytes (n := 64) rfl rfl rfl rfl (by omega) ?_; intro w1 hf0 hx0
             have c0 := hf0.cell (j := 0) (by simp)
             have c1 := hf0.cell (j := 1) (by simp)
             have c2 := hf0.cell (j := 63) (by simp)
             have f0 := hf0.free 0
             have f1 := hf0.free 1
             have f2 := hf0.free 63
             have HF := ((hf0.store 0 k).store 1 (UInt8.ofNat l.length)).store 63 90
             rw [hxv.out] at HF
             have HE := ((hx0.store (p := ⟨w.heap.size, 0, none⟩) (Nat.le_refl _) (bv k)).store (p := ⟨w.heap.size, 1, none⟩) (Nat.le_refl _) (.int .u8 (l.length : Int))).store (p := ⟨w.heap.size, 63, none⟩) (Nat.le_refl _) (bv 90)
             rw [show bv 90 = Value.int .u8 90 from rfl] at HF HE
             clear hf0)
          | ((with_reducible show wpList _ _ _ (Oper.mk _ (Op.call { callee := Callee.builtin Builtin.copy, args := _, argTypes := _ }) _ _ _ _ :: _) _ _); refine wpList_copy_bytes T.bytes rfl rfl HF rfl (vy := .slice p l.length c) rfl (by simp) (h0.ext HE) ?_; intro w2 hf2 hg2))

        go_ret2
        refine ⟨_, rfl, ?_, HE.grown hg2 (Nat.le_refl _)⟩
        rw [← HB.out]
        exact hf2
  · have e : sealB k l = ([], 22) := by unfold sealB; rw [if_pos hk]
    rw [e]
    clear hk e
    go_enter Try.func37, Try.ntmps37
    go_wp2_with fail
    go_ret2
    exact ⟨_, rfl, FB.nil _ _, Ext.refl _⟩

theorem T.int : Try.prog.underlying 3 = some (.int .i64) := Try.underlying3
theorem appended_block (k : UInt8) (b : List UInt8) : [k, UInt8.ofNat b.length] ++ b ++ List.replicate (61 - b.length) 0 ++ [90] = blockL k b := by simp [blockL]

set_option maxHeartbeats 400000 in
theorem rbseal_any (k : UInt8) (v : Value) (l : List UInt8) (w : World) (h : BV w v l) (hl : l.length ≤ 100000) :
    Calls Try.prog 40 #[bv k, v] w fun e w' => ∃ v', e = .returned (.tuple #[v', .int .i64 (sealB k l).2]) ∧ FB w' w.heap.size v' (sealB k l).1 ∧ Ext w w' := by
  have h0 := h
  obtain ⟨p, c, rfl, hn, hc, hs⟩ := h
  unfold maxLen at hc
  rcases kind_cases k with hk | ⟨hk1, hk2, hk⟩
  · by_cases h61 : 61 < l.length
    · have e : sealB k l = ([], 5) := by unfold sealB; rw [if_neg (by simpa using hk), if_pos h61]
      rw [e]
      rcases hk with rfl | rfl
      all_goals
        go_enter Try.func40, Try.ntmps40
        go_wp2_with fail
        go_ret2
        exact ⟨_, rfl, FB.nil _ _, Ext.refl _⟩
    · have e : sealB k l = (blockL k l, 0) := by unfold sealB; rw [if_neg (by simpa using hk), if_neg h61]
      rw [e]
      have hkk : ((k.toNat : Int) != 1) = true ∧ ((k.toNat : Int) != 2) = false ∨ ((k.toNat : Int) != 1) = false := by
        rcases hk with rfl | rfl
        · right; rfl
        · left; exact ⟨rfl, rfl⟩
      have hxv : Hid (bv (UInt8.ofNat l.length) = .int .u8 (l.length : Int)) := by
        show Value.int .u8 _ = _
        rw [toNat_ofNat8]
        congr 1; omega
      have HB := Lib.hid (appended_block k l)
      have HN : (61 : Int) - (l.length : Int) = ((61 - l.length : Nat) : Int) := by omega
      have HNN := Lib.hid HN; clear HN
      have hf1 := FB.lit2 w (Nat.le_refl _) k (UInt8.ofNat l.length)
      have hx1 := Ext.alloc w (.cells #[bv k, bv (UInt8.ofNat l.length)] 5)
      rw [hxv.out] at hf1 hx1
      rcases hkk with ⟨hk1, hk2⟩ | hk1
      all_goals
        go_enter Try.func40, Try.ntmps40
        go_wp2_with (first
          | (at_builtin; refine wpList_append_bytes T.bytes rfl rfl (vx := .slice (some ⟨w.heap.size, 0, none⟩) 2 2) (vy := .slice p l.length c) rfl rfl hf1 (h0.ext hx1) (by simp; omega) hx1.size ?_; intro v2 w2 hf2 hg2 _; have hx2 := hx1.append hf1 hg2; clear hf1)
          | (at_builtin; rw [HNN.out]; refine wpList_append_zeros T.bytes T.int rfl rfl (vx := v2) (n := 61 - l.length) rfl rfl hf2 (by simp; omega) hx2.size ?_; intro v3 w3 hf3 hg3 _; have hx3 := hx2.append hf2 hg3; clear hf2)
          | (at_builtin; refine wpList_append_bytes T.bytes rfl rfl (vx := v3) (vy := .slice (some ⟨w3.heap.size, 0, none⟩) 1 1) rfl rfl (hf3.keep (Ext.alloc _ _)) (FB.lit1 w3 (Nat.le_refl _) 90).view (by simp; omega) (by have := hx3.size; simp; omega) ?_; intro v4 w4 hf4 hg4 _; have hx4 := (hx3.trans (Ext.alloc _ _)).append (hf3.keep (Ext.alloc _ _)) hg4))
        go_ret2
        refine ⟨_, rfl, ?_, hx4⟩
        rw [← HB.out]
        exact hf4
  · have e : sealB k l = ([], 22) := by unfold sealB; rw [if_pos hk]
    rw [e]
    clear hk e
    go_enter Try.func40, Try.ntmps40
    go_wp2_with fail
    go_ret2
    exact ⟨_, rfl, FB.nil _ _, Ext.refl _⟩
end Go.Proofs.Ytlbeemjcndhenaa
