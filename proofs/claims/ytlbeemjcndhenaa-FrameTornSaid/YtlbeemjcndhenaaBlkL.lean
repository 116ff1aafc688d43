/- What the program's and the document's functions of layer 5 compute when they lay blocks, and tell how many are needed. -/
import Derived.Test.YtlbeemjcndhenaaBlkO
import Derived.Test.YtlbeemjcndhenaaLst
import Derived.Deep.LoopGhost
namespace Go.Proofs.Ytlbeemjcndhenaa
open Go.RowKit

/-- Where laying stands: what is laid, what is left, the next block's kind. -/
structure Laying (l : List UInt8) (done : List (List UInt8)) (rest : List UInt8) (kind : UInt8) : Prop where
  kinds : (done = [] ∧ kind = 1) ∨ (done ≠ [] ∧ kind = 2)
  all : done ++ (if done = [] ∨ rest ≠ [] then layF rest.length kind rest else []) = layB l
  few : done.length + rest.length ≤ l.length + 1
theorem Laying.start (l : List UInt8) : Laying l [] l 1 := ⟨.inl ⟨rfl, rfl⟩, by simp [layB], by simp⟩
theorem Laying.stop {l : List UInt8} {done : List (List UInt8)} {rest : List UInt8} {kind : UInt8} (h : Laying l done rest kind) (hs : ¬ (done = [] ∨ rest ≠ [])) : done = layB l := by
  have := h.all
  rw [if_neg hs, List.append_nil] at this
  exact this
theorem Laying.good {l : List UInt8} {done : List (List UInt8)} {rest : List UInt8} {kind : UInt8} (h : Laying l done rest kind) : goodKind kind := by
  rcases h.kinds with ⟨_, e⟩ | ⟨_, e⟩
  · exact .inl e
  · exact .inr e
theorem Laying.step {l : List UInt8} {done : List (List UInt8)} {rest : List UInt8} {kind : UInt8} (h : Laying l done rest kind) (hs : done = [] ∨ rest ≠ []) {n : Nat} (hn : n = min rest.length 61) :
    Laying l (done ++ [blockL kind (rest.take n)]) (rest.drop n) 2 := by
  have ha := h.all
  rw [if_pos hs] at ha
  have hf := h.few
  refine ⟨.inr ⟨by simp, rfl⟩, ?_, ?_⟩
  · rw [← ha, List.append_assoc]
    congr 1
    by_cases hl : rest.length ≤ 61
    · rw [layF_short _ _ _ hl]
      have : n = rest.length := by omega
      rw [this, List.take_of_length_le (Nat.le_refl _), List.drop_of_length_le (Nat.le_refl _)]
      simp
    · have e : n = 61 := by omega
      subst e
      rw [layF_long rest.length kind rest (by omega) (Nat.le_refl _)]
      have : rest.drop 61 ≠ [] := by
        intro e0
        have := congrArg List.length e0
        simp at this
        omega
      simp [this]
  · rw [List.length_append, List.length_drop]
    simp
    rcases hs with h0 | h0
    · subst h0
      simp at hf ⊢
      omega
    · have : 0 < rest.length := List.length_pos_iff.2 h0
      omega

set_option maxHeartbeats 1000000 in
theorem blay_any (v : Value) (l : List UInt8) (w : World) (h : BV w v l) (hl : l.length ≤ 100000) :
    Calls Try.prog 22 #[v] w fun e w' => ∃ v', e = .returned v' ∧ LB (fun k => w.heap.size ≤ k) w' w.heap.size v' (layB l) ∧ Ext w w' := by
  go_enter Try.func22, Try.ntmps22
  go_wp2_with fail
  go_loopg [0, 3, 4] (l.length + 1) (fun k s0 s3 s4 wr => ∃ done rest kind, s4 = bv kind ∧ Laying l done rest kind ∧ rest.length + (if done = [] then 1 else 0) ≤ k ∧ BV w s0 rest ∧ LB (fun k => w.heap.size ≤ k) wr w.heap.size s3 done ∧ Ext w wr)
  case atStart => exact ⟨[], l, 1, rfl, Laying.start l, by simp, h, ORow.nil _ _ _, Ext.refl _⟩
  case round =>
    obtain ⟨done, rest, kind, rfl, hlay, hk, hb, ho, hx⟩ := hrel
    obtain ⟨p0, c0, rfl, hn0, hc0, hs0⟩ := id hb
    obtain ⟨p3, c3, rfl, hn3, hc3⟩ := ho.view.slice
    unfold maxLen at hc0
    have hfew := hlay.few
    have HL := Lib.hid hlay
    by_cases hs : done = [] ∨ rest ≠ []
    case neg =>
      have HO := Lib.hid (hlay.stop hs)
      have hd : ((done.length : Int) == 0) = false := by
        rw [beq_eq_false_iff_ne]; intro e
        exact hs (.inl (List.eq_nil_of_length_eq_zero (by omega)))
      have hr : rest = [] := Classical.byContradiction fun e => hs (.inr e)
      subst hr
      clear hlay hs
      go_wp2_with fail
      go_ret
      rw [← HO.out]
      exact ⟨_, rfl, ho, hx⟩
    case pos =>
      obtain ⟨n, hn⟩ : ∃ n, n = min rest.length 61 := ⟨_, rfl⟩
      have hmin : min (rest.length : Int) 61 = (n : Int) := by omega
      have hn61 : n ≤ 61 := by omega
      have hnr : n ≤ rest.length := by omega
      have HS := Lib.hid (hlay.step hs hn)
      have hkk : goodKind kind := hlay.good
      have hbt := hb.take (k := n) (c' := n) (by omega) (Nat.le_refl _) (by omega)
      have hbd := hb.drop (k := n) (by omega)
      have hse : sealB kind (rest.take n) = (blockL kind (rest.take n), 0) := by
        unfold sealB; rw [if_neg (by simpa using hkk), if_neg (by rw [List.length_take]; omega)]
      have hcond : ((done.length : Int) == 0) = true ∨ ((done.length : Int) == 0) = false ∧ 0 < rest.length := by
        by_cases e : done.length = 0
        · left; simp [e]
        · right
          refine ⟨by rw [beq_eq_false_iff_ne]; omega, ?_⟩
          rcases hs with h0 | h0
          · subst h0; simp at e
          · exact List.length_pos_iff.2 h0
      have hgk : rest.length - n + 0 < gk := by
        rcases hs with h0 | h0
        · rw [if_pos h0] at hk; omega
        · have := List.length_pos_iff.2 h0; omega
      clear hlay hs hkk hn
      rcases hcond with hd | ⟨hd, hr⟩
      all_goals
        go_wp2_with (first
          | ((with_reducible show wpList _ _ _ (Oper.mk _ (Op.call { callee := Callee.builtin Builtin.min, args := _, argTypes := _ }) _ _ _ _ :: _) _ _); refine wpList_run rfl (run_min rfl rfl rfl _) ?_; rw [hmin])
          | ((with_reducible show wpList _ _ _ (Oper.mk _ (Op.slice _ _ _ _ _) _ _ _ _ :: _) _ _); refine st_sliceTo T.bytes n n ?_))
        refine (bseal_any kind _ _ _ (hbt.ext hx) (by rw [List.length_take]; omega)).mono ?_
        rintro e w1 ⟨v1, rfl, hf1, hx1⟩
        rw [hse] at hf1 ⊢
        obtain ⟨p1, c1, rfl, _, _, _⟩ := hf1.slice
        have ho1 := (ho.keep hx1).keep (Ext.alloc _ (.cells #[.slice p1 (blockL kind (rest.take n)).length c1] 22))
        have hl1 : SRow 1 RB (fun k => w.heap.size ≤ k ∧ some k ≠ (Value.slice p3 done.length c3).ownBlock) (w1.alloc (.cells #[.slice p1 (blockL kind (rest.take n)).length c1] 22)) (.slice (some ⟨w1.heap.size, 0, none⟩) 1 1) [blockL kind (rest.take n)] :=
          LV.lit1 (hf1.far_under fun k hk1 _ => ⟨Nat.le_trans hx.size hk1, fun e => by have := (ho.own k e.symm).2; omega⟩)
        have hxx := (hx.trans hx1).trans (Ext.alloc _ (.cells #[.slice p1 (blockL kind (rest.take n)).length c1] 22))
        generalize blockL kind (rest.take n) = z at *
        go_wp2_with (first
          | (at_builtin; refine st_items T.lists ho1 hl1 ?_ (by simp [maxLen]; omega) (by simp; omega) hxx.size; intro v2 w2 ho2 hg2 hw2; have hx2 := ho1.grown hxx hg2)
          | ((with_reducible show wpList _ _ _ (Oper.mk _ (Op.slice _ _ _ _ _) _ _ _ _ :: _) _ _); refine st_slice T.bytes n rest.length c0 ?_))
        go_roundg (rest.length - n)
        case measure => omega
        case rel => exact ⟨done ++ [z], rest.drop n, 2, rfl, HS.out, by simp, hbd, ho2, hx2⟩

set_option maxHeartbeats 1000000 in
theorem rblay_any (v : Value) (l : List UInt8) (w : World) (h : BV w v l) (hl : l.length ≤ 100000) :
    Calls Try.prog 25 #[v] w fun e w' => ∃ v', e = .returned v' ∧ LB (fun k => w.heap.size ≤ k) w' w.heap.size v' (layB l) ∧ Ext w w' := by
  go_enter Try.func25, Try.ntmps25
  go_wp2_with fail
  go_loopg [0, 3, 4] (l.length + 1) (fun k s0 s3 s4 wr => ∃ done rest kind, s4 = bv kind ∧ Laying l done rest kind ∧ rest.length + (if done = [] then 1 else 0) ≤ k ∧ BV w s0 rest ∧ LB (fun k => w.heap.size ≤ k) wr w.heap.size s3 done ∧ Ext w wr)
  case atStart => exact ⟨[], l, 1, rfl, Laying.start l, by simp, h, ORow.nil _ _ _, Ext.refl _⟩
  case round =>
    obtain ⟨done, rest, kind, rfl, hlay, hk, hb, ho, hx⟩ := hrel
    obtain ⟨p0, c0, rfl, hn0, hc0, hs0⟩ := id hb
    obtain ⟨p3, c3, rfl, hn3, hc3⟩ := ho.view.slice
    unfold maxLen at hc0
    have hfew := hlay.few
    have HL := Lib.hid hlay
    by_cases hs : done = [] ∨ rest ≠ []
    case neg =>
      have HO := Lib.hid (hlay.stop hs)
      have hd : ((done.length : Int) == 0) = false := by
        rw [beq_eq_false_iff_ne]; intro e
        exact hs (.inl (List.eq_nil_of_length_eq_zero (by omega)))
      have hr : rest = [] := Classical.byContradiction fun e => hs (.inr e)
      subst hr
      clear hlay hs
      go_wp2_with fail
      go_ret
      rw [← HO.out]
      exact ⟨_, rfl, ho, hx⟩
    case pos =>
      obtain ⟨n, hn⟩ : ∃ n, n = min rest.length 61 := ⟨_, rfl⟩
      have hmin : min (rest.length : Int) 61 = (n : Int) := by omega
      have hn61 : n ≤ 61 := by omega
      have hnr : n ≤ rest.length := by omega
      have HS := Lib.hid (hlay.step hs hn)
      have hkk : goodKind kind := hlay.good
      have hbt := hb.take (k := n) (c' := c0) (by omega) (by omega) (Nat.le_refl _)
      have hbd := hb.drop (k := n) (by omega)
      have hse : sealB kind (rest.take n) = (blockL kind (rest.take n), 0) := by
        unfold sealB; rw [if_neg (by simpa using hkk), if_neg (by rw [List.length_take]; omega)]
      have hcond : 0 < rest.length ∨ rest.length = 0 ∧ ((done.length : Int) == 0) = true := by
        by_cases e : rest.length = 0
        · right
          refine ⟨e, ?_⟩
          rcases hs with h0 | h0
          · subst h0; rfl
          · exact absurd (List.eq_nil_of_length_eq_zero e) h0
        · left; omega
      have hgk : rest.length - n + 0 < gk := by
        rcases hs with h0 | h0
        · rw [if_pos h0] at hk; omega
        · have := List.length_pos_iff.2 h0; omega
      clear hlay hs hkk hn
      rcases hcond with hr | ⟨hr, hd⟩
      all_goals
        go_wp2_with (first
          | ((with_reducible show wpList _ _ _ (Oper.mk _ (Op.call { callee := Callee.builtin Builtin.min, args := _, argTypes := _ }) _ _ _ _ :: _) _ _); refine wpList_run rfl (run_min rfl rfl rfl _) ?_; rw [hmin])
          | ((with_reducible show wpList _ _ _ (Oper.mk _ (Op.slice _ _ _ _ _) _ _ _ _ :: _) _ _); refine st_sliceTo T.bytes n c0 ?_))
        refine (rbseal_any kind _ _ _ (hbt.ext hx) (by rw [List.length_take]; omega)).mono ?_
        rintro e w1 ⟨v1, rfl, hf1, hx1⟩
        rw [hse] at hf1 ⊢
        obtain ⟨p1, c1, rfl, _, _, _⟩ := hf1.slice
        have ho1 := (ho.keep hx1).keep (Ext.alloc _ (.cells #[.slice p1 (blockL kind (rest.take n)).length c1] 22))
        have hl1 : SRow 1 RB (fun k => w.heap.size ≤ k ∧ some k ≠ (Value.slice p3 done.length c3).ownBlock) (w1.alloc (.cells #[.slice p1 (blockL kind (rest.take n)).length c1] 22)) (.slice (some ⟨w1.heap.size, 0, none⟩) 1 1) [blockL kind (rest.take n)] :=
          LV.lit1 (hf1.far_under fun k hk1 _ => ⟨Nat.le_trans hx.size hk1, fun e => by have := (ho.own k e.symm).2; omega⟩)
        have hxx := (hx.trans hx1).trans (Ext.alloc _ (.cells #[.slice p1 (blockL kind (rest.take n)).length c1] 22))
        generalize blockL kind (rest.take n) = z at *
        go_wp2_with (first
          | (at_builtin; refine st_items T.lists ho1 hl1 ?_ (by simp [maxLen]; omega) (by simp; omega) hxx.size; intro v2 w2 ho2 hg2 hw2; have hx2 := ho1.grown hxx hg2)
          | ((with_reducible show wpList _ _ _ (Oper.mk _ (Op.slice _ _ _ _ _) _ _ _ _ :: _) _ _); refine st_slice T.bytes n rest.length c0 ?_))
        go_roundg (rest.length - n)
        case measure => omega
        case rel => exact ⟨done ++ [z], rest.drop n, 2, rfl, HS.out, by simp, (by first | exact hbd | exact (by rw [show n = 0 by omega, cutA_zero, hr] at hbd; rw [show n = 0 by omega]; exact hbd)), ho2, hx2⟩
end Go.Proofs.Ytlbeemjcndhenaa
