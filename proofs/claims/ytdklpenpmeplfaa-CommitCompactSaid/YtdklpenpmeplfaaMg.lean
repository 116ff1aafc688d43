/- What layer 34 computes, in plain Lean: the items of lists, a heap of them, and what is told of it. -/
import Derived.Test.YtdklpenpmeplfaaBase
namespace Go.Proofs.Ytdklpenpmeplfaa

structure Rec where
  delta : Int
  time : Int
  keyed : Bool
  key : List UInt8
  dead : Bool
  value : List UInt8
structure Bat where
  base : Int
  count : Int
  prod : Int
  epoch : Int
  seq : Int
  recs : List Rec
structure Itm where
  list : Int
  off : Int
  time : Int
  rcd : Rec
def rec0 : Rec := ⟨0, 0, false, [], false, []⟩
def itm0 : Itm := ⟨0, 0, 0, rec0⟩

/-! ### Items -/
def itemR (n : Int) (b : Int) (r : Rec) : Itm := ⟨n, RowKit.wrap64 (b + r.delta), r.time, r⟩
def itemsB (n : Int) (b : Bat) : List Itm := b.recs.map (itemR n b.base)
def itemsOf (n : Int) (l : List Bat) : List Itm := (l.map (itemsB n)).flatten
theorem itemsOf_snoc (n : Int) (l : List Bat) (j : Nat) (hj : j < l.length) : itemsOf n (l.take (j + 1)) = itemsOf n (l.take j) ++ itemsB n l[j] := by
  unfold itemsOf
  rw [List.take_succ_eq_append_getElem hj, List.map_append, List.flatten_append]
  simp only [List.map_cons, List.map_nil, List.flatten_cons, List.flatten_nil, List.append_nil]
theorem itemsB_snoc (n : Int) (b : Int) (l : List Rec) (j : Nat) (hj : j < l.length) : (l.take (j + 1)).map (itemR n b) = (l.take j).map (itemR n b) ++ [itemR n b l[j]] := by
  rw [List.take_succ_eq_append_getElem hj, List.map_append]
  simp only [List.map_cons, List.map_nil]

/-! ### Which comes ahead -/
def lessI (a b : Itm) : Bool := if a.time < b.time then true else if b.time < a.time then false else if a.list < b.list then true else if b.list < a.list then false else decide (a.off < b.off)
theorem lessI_irrefl (a : Itm) : lessI a a = false := by unfold lessI; simp
theorem lessI_asymm {a b : Itm} (h : lessI a b = true) : lessI b a = false := by
  unfold lessI at *
  split at h <;> (try split at h) <;> (try split at h) <;> (try split at h) <;> simp_all <;> omega
theorem leI_trans {a b c : Itm} (h1 : lessI b a = false) (h2 : lessI c b = false) : lessI c a = false := by
  unfold lessI at *
  by_cases x1 : b.time < a.time
  · rw [if_pos x1] at h1; cases h1
  by_cases x2 : c.time < b.time
  · rw [if_pos x2] at h2; cases h2
  rw [if_neg x1] at h1
  rw [if_neg x2] at h2
  rw [if_neg (by omega)]
  by_cases y1 : a.time < b.time
  · rw [if_pos (by omega)]
  by_cases y2 : b.time < c.time
  · rw [if_pos (by omega)]
  rw [if_neg y1] at h1
  rw [if_neg y2] at h2
  rw [if_neg (by omega)]
  by_cases x3 : b.list < a.list
  · rw [if_pos x3] at h1; cases h1
  by_cases x4 : c.list < b.list
  · rw [if_pos x4] at h2; cases h2
  rw [if_neg x3] at h1
  rw [if_neg x4] at h2
  rw [if_neg (by omega)]
  by_cases y3 : a.list < b.list
  · rw [if_pos (by omega)]
  by_cases y4 : b.list < c.list
  · rw [if_pos (by omega)]
  rw [if_neg y3] at h1
  rw [if_neg y4] at h2
  rw [if_neg (by omega)]
  simp at *
  omega

/-! ### The heap -/
abbrev Src := List Itm
def hd (l : Src) : Itm := l.headD itm0
def at_ (h : List Src) (i : Nat) : Src := h.getD i []
def bef (h : List Src) (i k : Nat) : Bool := lessI (hd (at_ h i)) (hd (at_ h k))
def pick1 (h : List Src) (k l : Nat) : Nat := if k < h.length ∧ bef h k l = true then k else l
def least (h : List Src) (i : Nat) : Nat := pick1 h (2 * i + 2) (pick1 h (2 * i + 1) i)
def swap (h : List Src) (i k : Nat) : List Src := (h.set i (at_ h k)).set k (at_ h i)
theorem swap_length (h : List Src) (i k : Nat) : (swap h i k).length = h.length := by simp [swap]
def downH : Nat → List Src → Nat → List Src
  | 0, h, _ => h
  | f + 1, h, i => if least h i = i then h else downH f (swap h i (least h i)) (least h i)
theorem pick1_cases (h : List Src) (k l : Nat) : pick1 h k l = l ∨ pick1 h k l = k ∧ k < h.length := by
  unfold pick1
  split
  · rename_i hc; exact .inr ⟨rfl, hc.1⟩
  · exact .inl rfl
theorem least_cases (h : List Src) (i : Nat) : least h i = i ∨ i < least h i ∧ least h i < h.length := by
  unfold least
  rcases pick1_cases h (2 * i + 2) (pick1 h (2 * i + 1) i) with e | ⟨e, hl⟩
  · rw [e]
    rcases pick1_cases h (2 * i + 1) i with e | ⟨e, hl⟩
    · exact .inl e
    · rw [e]; exact .inr ⟨by omega, hl⟩
  · rw [e]; exact .inr ⟨by omega, hl⟩
theorem downH_length : ∀ (f : Nat) (h : List Src) (i : Nat), (downH f h i).length = h.length
  | 0, _, _ => rfl
  | f + 1, h, i => by
    unfold downH
    split
    · rfl
    · rw [downH_length f, swap_length]
theorem downH_more : ∀ (f g : Nat) (h : List Src) (i : Nat), h.length - i ≤ f → h.length - i ≤ g → downH f h i = downH g h i
  | 0, 0, _, _, _, _ => rfl
  | 0, g + 1, h, i, h1, _ => by
    unfold downH
    rcases least_cases h i with e | ⟨e1, e2⟩
    · rw [if_pos e]
    · omega
  | f + 1, 0, h, i, _, h2 => by
    unfold downH
    rcases least_cases h i with e | ⟨e1, e2⟩
    · rw [if_pos e]
    · omega
  | f + 1, g + 1, h, i, h1, h2 => by
    unfold downH
    rcases least_cases h i with e | ⟨e1, e2⟩
    · rw [if_pos e, if_pos e]
    · rw [if_neg (by omega), if_neg (by omega)]
      exact downH_more f g _ _ (by rw [swap_length]; omega) (by rw [swap_length]; omega)
def downI (h : List Src) (i : Nat) : List Src := downH h.length h i
theorem downI_length (h : List Src) (i : Nat) : (downI h i).length = h.length := downH_length _ _ _
theorem downI_stop {h : List Src} {i : Nat} (hl : least h i = i) : downI h i = h := by
  unfold downI
  rw [downH_more h.length (h.length + 1) h i (by omega) (by omega)]
  unfold downH
  rw [if_pos hl]
theorem downI_step {h : List Src} {i : Nat} (hl : least h i ≠ i) : downI h i = downI (swap h i (least h i)) (least h i) := by
  unfold downI
  rw [downH_more h.length (h.length + 1) h i (by omega) (by omega)]
  conv => lhs; unfold downH
  rw [if_neg hl, swap_length]

/-! ### A merger -/
def buildH : Nat → List Src → List Src
  | 0, h => h
  | i + 1, h => buildH i (downI h i)
theorem buildH_length : ∀ (n : Nat) (h : List Src), (buildH n h).length = h.length
  | 0, _ => rfl
  | n + 1, h => by unfold buildH; rw [buildH_length n, downI_length]
def src1 (ls : List (List Bat)) (i : Nat) : List Src := if (itemsOf i (ls.getD i [])).isEmpty then [] else [itemsOf i (ls.getD i [])]
def srcs (ls : List (List Bat)) (n : Nat) : List Src := ((List.range n).map (src1 ls)).flatten
theorem srcs_succ (ls : List (List Bat)) (n : Nat) : srcs ls (n + 1) = srcs ls n ++ src1 ls n := by
  unfold srcs
  rw [List.range_succ]
  simp
def newH (ls : List (List Bat)) : List Src := buildH ((srcs ls ls.length).length / 2) (srcs ls ls.length)
def dropH (h : List Src) : List Src := if (at_ h 0).tail.isEmpty then (h.set 0 (at_ h (h.length - 1))).take (h.length - 1) else h.set 0 (at_ h 0).tail
def nextH (h : List Src) : List Src := downI (dropH h) 0
def topH (h : List Src) : Itm := hd (at_ h 0)
def leftH (h : List Src) : Nat := h.flatten.length
def allH : Nat → List Src → List Itm
  | 0, _ => []
  | f + 1, h => if h.isEmpty then [] else topH h :: allH f (nextH h)
end Go.Proofs.Ytdklpenpmeplfaa
