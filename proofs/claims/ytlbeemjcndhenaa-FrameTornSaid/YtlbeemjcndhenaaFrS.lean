/- What the program's and the document's functions of layer 7 compute: scanning. -/
import Derived.Test.YtlbeemjcndhenaaFrO
namespace Go.Proofs.Ytlbeemjcndhenaa
open Go.RowKit

/-- Two cells: a place and a body. -/
def RF (w : World) (cs : List Value) (x : Fnd) : Prop := ∃ v, cs = [.int .i64 x.1, v] ∧ BV w v x.2
theorem RF.one {w : World} {cs : List Value} {x : Fnd} (h : RF w cs x) : cs.length = 2 ∧ ∀ u ∈ cs, u.oneCell' = true := by
  obtain ⟨v, rfl, hv⟩ := h
  refine ⟨rfl, fun u hu => ?_⟩
  rcases List.mem_cons.1 hu with rfl | hu
  · rfl
  · rw [List.mem_singleton] at hu; subst hu; exact hv.one
theorem T.foundInfo : (Try.prog.info? 49).map (fun i => (i.zero, i.size, i.bytes)) = some (some (.agg #[.int .i64 0, .slice none 0 0]), 2, 32) := by kernel_rfl
theorem T.founds : RowT Try.prog 40 49 (.agg #[.int .i64 0, .slice none 0 0]) 2 32 := ⟨Try.underlying40, info_parts T.foundInfo, rfl, by omega⟩
theorem T.rfoundInfo : (Try.prog.info? 34).map (fun i => (i.zero, i.size, i.bytes)) = some (some (.agg #[.int .i64 0, .slice none 0 0]), 2, 32) := by kernel_rfl
theorem T.rfounds : RowT Try.prog 43 34 (.agg #[.int .i64 0, .slice none 0 0]) 2 32 := ⟨Try.underlying43, info_parts T.rfoundInfo, rfl, by omega⟩

/-- Where scanning stands. -/
structure Scanning (ls : List (List UInt8)) (c : Nat) (out : List Fnd) : Prop where
  at_ : c ≤ ls.length
  few : out.length ≤ c
  all : out ++ (scanAt c (ls.drop c)).1 = (scanB ls).1
  last : (scanAt c (ls.drop c)).2 = (scanB ls).2
theorem Scanning.start (ls : List (List UInt8)) : Scanning ls 0 [] := ⟨Nat.zero_le _, by simp, rfl, rfl⟩
theorem Scanning.go {ls : List (List UInt8)} {c : Nat} {out : List Fnd} (h : Scanning ls c out) (he : (oneB (ls.drop c)).err = 0) :
    Scanning ls (c + (oneB (ls.drop c)).n) (out ++ [((c : Int), (oneB (ls.drop c)).body)]) ∧ 1 ≤ (oneB (ls.drop c)).n ∧ c + (oneB (ls.drop c)).n ≤ ls.length := by
  have hn := oneB_n (ls.drop c)
  rw [List.length_drop] at hn
  have h1 := h.at_
  have h2 := h.few
  have h3 := h.all
  have h4 := h.last
  rw [scanAt_go c _ he, List.drop_drop] at h3 h4
  have h5 := hn.2 he
  refine ⟨⟨by omega, by simp; omega, ?_, h4⟩, h5, by omega⟩
  rw [List.append_assoc]
  exact h3
theorem Scanning.stop {ls : List (List UInt8)} {c : Nat} {out : List Fnd} (h : Scanning ls c out) (he : (oneB (ls.drop c)).err ≠ 0) : scanB ls = (out, c) := by
  have h3 := h.all
  have h4 := h.last
  rw [scanAt_stop c _ he] at h3 h4
  rw [List.append_nil] at h3
  exact Prod.ext h3.symm h4.symm

set_option maxHeartbeats 1000000 in
theorem fscan_any (v : Value) (ls : List (List UInt8)) (w : World) (h : LV w v ls) (hl : ls.length ≤ 1000) :
    Calls Try.prog 16 #[v] w fun e w' => ∃ v', e = .returned (.tuple #[v', .int .i64 (scanB ls).2]) ∧ ORow 49 2 RF (fun k => w.heap.size ≤ k) w' w.heap.size v' (scanB ls).1 ∧ Ext w w' := by
  obtain ⟨p, cp, rfl, hn, hcp⟩ := h.slice
  go_enter Try.func16, Try.ntmps16
  go_wp2_with fail
  go_loopg [4, 5] (ls.length + 1) (fun k s4 s5 wr => ∃ (c : Nat) (out : List Fnd), s5 = .int .i64 c ∧ Scanning ls c out ∧ k = ls.length + 1 - c ∧ ORow 49 2 RF (fun k => w.heap.size ≤ k) wr w.heap.size s4 out ∧ Ext w wr)
  case atStart => exact ⟨0, [], rfl, Scanning.start ls, rfl, ORow.nil _ _ _, Ext.refl _⟩
  case round =>
    obtain ⟨c, out, rfl, hs, hk, ho, hx⟩ := hrel
    obtain ⟨po, co, rfl, hno, hco⟩ := ho.view.slice
    have hc1 := hs.at_
    have hc2 := hs.few
    have hcut := (h.take (k := ls.length) (c' := ls.length) (Nat.le_refl _) (Nat.le_refl _) hn).drop (k := c) (by simpa using hc1)
    rw [List.take_of_length_le (Nat.le_refl _)] at hcut
    have O1 := fun w h => fone_any (.slice (cutA 1 p ls.length c) (ls.length - c) (ls.length - c)) (ls.drop c) w h (by rw [List.length_drop]; omega)
    by_cases he : (oneB (ls.drop c)).err = 0
    · have hg := hs.go he
      generalize oneB (ls.drop c) = j at *
      obtain ⟨jb, jn, je⟩ := j
      dsimp only at he O1 hg
      subst he
      obtain ⟨hg1, hg2, hg3⟩ := hg
      have HG := Lib.hid hg1
      clear hg1 hs
      go_wp2_with (first
        | ((with_reducible show wpList _ _ _ (Oper.mk _ (Op.slice _ _ _ _ _) _ _ _ _ :: _) _ _); refine st_slice T.lists c ls.length ls.length ?_)
        | (go_at_call 14; refine (O1 _ (hcut.ext hx)).mono ?_; rintro e w1 ⟨v1, rfl, hf1, hx1⟩; obtain ⟨p1, c1, rfl, _, _, _⟩ := hf1.slice
           have ho1 := (ho.keep hx1).keep (Ext.alloc _ (.cells #[.int .i64 c, .slice p1 jb.length c1] 49))
           have hxx := (hx.trans hx1).trans (Ext.alloc _ (.cells #[.int .i64 c, .slice p1 jb.length c1] 49))
           have hl1 : SRow 2 RF (fun k => w.heap.size ≤ k ∧ some k ≠ (Value.slice po out.length co).ownBlock) (w1.alloc (.cells #[.int .i64 c, .slice p1 jb.length c1] 49)) (.slice (some ⟨w1.heap.size, 0, none⟩) 1 1) [((c : Int), jb)] :=
             SRow.lit1 (cs := [.int .i64 c, .slice p1 jb.length c1]) rfl (fun u hu => (RF.one (x := ((c : Int), jb)) ⟨_, rfl, hf1.view⟩).2 u hu)
               ((hf1.far_under fun k hk1 _ => ⟨Nat.le_trans hx.size hk1, fun e => by have := (ho.own k e.symm).2; omega⟩).imp fun w hw => ⟨_, rfl, hw⟩))
        | (at_builtin; refine st_items T.founds ho1 hl1 ?_ (by simp [maxLen]; omega) (by simp; omega) hxx.size; intro v2 w2 ho2 hg2 hw2; have hx2 := ho1.grown hxx hg2))
      go_roundg (ls.length + 1 - (c + jn))
      case measure => omega
      case rel => exact ⟨c + jn, _, by go_num, HG.out, rfl, ho2, hx2⟩
    · have HS := Lib.hid (hs.stop he)
      generalize oneB (ls.drop c) = j at *
      obtain ⟨jb, jn, je⟩ := j
      dsimp only at he O1
      have hz : (je != 0) = true := by simp [he]
      clear hs he
      go_wp2_with (first
        | ((with_reducible show wpList _ _ _ (Oper.mk _ (Op.slice _ _ _ _ _) _ _ _ _ :: _) _ _); refine st_slice T.lists c ls.length ls.length ?_)
        | (go_at_call 14; refine (O1 _ (hcut.ext hx)).mono ?_; rintro e w1 ⟨v1, rfl, hf1, hx1⟩))
      go_ret2
      rw [HS.out]
      exact ⟨_, rfl, ho.keep hx1, hx.trans hx1⟩

set_option maxHeartbeats 1000000 in
theorem rfscan_any (v : Value) (ls : List (List UInt8)) (w : World) (h : LV w v ls) (hl : ls.length ≤ 1000) :
    Calls Try.prog 17 #[v] w fun e w' => ∃ v', e = .returned (.tuple #[v', .int .i64 (scanB ls).2]) ∧ ORow 34 2 RF (fun k => w.heap.size ≤ k) w' w.heap.size v' (scanB ls).1 ∧ Ext w w' := by
  obtain ⟨p, cp, rfl, hn, hcp⟩ := h.slice
  go_enter Try.func17, Try.ntmps17
  go_wp2_with fail
  go_loopg [4, 5] (ls.length + 1) (fun k s4 s5 wr => ∃ (c : Nat) (out : List Fnd), s5 = .int .i64 c ∧ Scanning ls c out ∧ k = ls.length + 1 - c ∧ ORow 34 2 RF (fun k => w.heap.size ≤ k) wr w.heap.size s4 out ∧ Ext w wr)
  case atStart => exact ⟨0, [], rfl, Scanning.start ls, rfl, ORow.nil _ _ _, Ext.refl _⟩
  case round =>
    obtain ⟨c, out, rfl, hs, hk, ho, hx⟩ := hrel
    obtain ⟨po, co, rfl, hno, hco⟩ := ho.view.slice
    have hc1 := hs.at_
    have hc2 := hs.few
    have hcut := h.drop (k := c) hc1
    have O1 := fun w h => rfone_any (.slice (cutA 1 p cp c) (ls.length - c) (cp - c)) (ls.drop c) w h (by rw [List.length_drop]; omega)
    by_cases hlt : c < ls.length
    case neg =>
      have HS := Lib.hid (hs.stop (by rw [List.drop_of_length_le (by omega), oneB_nil]; decide))
      clear hs hcut O1
      go_wp2_with fail
      go_ret2
      rw [HS.out]
      exact ⟨_, rfl, ho, hx⟩
    by_cases he : (oneB (ls.drop c)).err = 0
    · have hg := hs.go he
      generalize oneB (ls.drop c) = j at *
      obtain ⟨jb, jn, je⟩ := j
      dsimp only at he O1 hg
      subst he
      obtain ⟨hg1, hg2, hg3⟩ := hg
      have HG := Lib.hid hg1
      clear hg1 hs
      go_wp2_with (first
        | ((with_reducible show wpList _ _ _ (Oper.mk _ (Op.slice _ _ _ _ _) _ _ _ _ :: _) _ _); refine st_slice T.lists c ls.length cp ?_)
        | (go_at_call 15; refine (O1 _ (hcut.ext hx)).mono ?_; rintro e w1 ⟨v1, rfl, hf1, hx1⟩; obtain ⟨p1, c1, rfl, _, _, _⟩ := hf1.slice
           have ho1 := (ho.keep hx1).keep (Ext.alloc _ (.cells #[.int .i64 c, .slice p1 jb.length c1] 34))
           have hxx := (hx.trans hx1).trans (Ext.alloc _ (.cells #[.int .i64 c, .slice p1 jb.length c1] 34))
           have hl1 : SRow 2 RF (fun k => w.heap.size ≤ k ∧ some k ≠ (Value.slice po out.length co).ownBlock) (w1.alloc (.cells #[.int .i64 c, .slice p1 jb.length c1] 34)) (.slice (some ⟨w1.heap.size, 0, none⟩) 1 1) [((c : Int), jb)] :=
             SRow.lit1 (cs := [.int .i64 c, .slice p1 jb.length c1]) rfl (fun u hu => (RF.one (x := ((c : Int), jb)) ⟨_, rfl, hf1.view⟩).2 u hu)
               ((hf1.far_under fun k hk1 _ => ⟨Nat.le_trans hx.size hk1, fun e => by have := (ho.own k e.symm).2; omega⟩).imp fun w hw => ⟨_, rfl, hw⟩))
        | (at_builtin; refine st_items T.rfounds ho1 hl1 ?_ (by simp [maxLen]; omega) (by simp; omega) hxx.size; intro v2 w2 ho2 hg2 hw2; have hx2 := ho1.grown hxx hg2))
      go_roundg (ls.length + 1 - (c + jn))
      case measure => omega
      case rel => exact ⟨c + jn, _, by go_num, HG.out, rfl, ho2, hx2⟩
    · have HS := Lib.hid (hs.stop he)
      generalize oneB (ls.drop c) = j at *
      obtain ⟨jb, jn, je⟩ := j
      dsimp only at he O1
      have hz : (je != 0) = true := by simp [he]
      clear hs he
      go_wp2_with (first
        | ((with_reducible show wpList _ _ _ (Oper.mk _ (Op.slice _ _ _ _ _) _ _ _ _ :: _) _ _); refine st_slice T.lists c ls.length cp ?_)
        | (go_at_call 15; refine (O1 _ (hcut.ext hx)).mono ?_; rintro e w1 ⟨v1, rfl, hf1, hx1⟩))
      go_ret2
      rw [HS.out]
      exact ⟨_, rfl, ho.keep hx1, hx.trans hx1⟩
end Go.Proofs.Ytlbeemjcndhenaa
