/- What layer 13 computes, in plain Lean: who wrote what last. -/
import Derived.Test.YtdklpenpmeplfaaMg
namespace Go.Proofs.Ytdklpenpmeplfaa

structure Sn where
  seq : Int
  count : Int
  base : Int
structure Ent where
  id : Int
  epoch : Int
  last : List Sn
def sn0 : Sn := ⟨0, 0, 0⟩
def ent0 : Ent := ⟨0, 0, []⟩

/-! ### Places -/
section
variable {α : Type}
/-- The place of the first of which p holds; -1: there is none. -/
def placeF (p : α → Bool) (l : List α) : Int := match l.findIdx? p with
  | some i => (i : Int)
  | none => -1
theorem find_found {p : α → Bool} {l : List α} {j : Nat} (hj : j < l.length) (hp : p l[j] = true) (h : ∀ (t : Nat) (x : α), t < j → l[t]? = some x → p x = false) : l.findIdx? p = some j := by
  rw [List.findIdx?_eq_some_iff_getElem]
  refine ⟨hj, hp, fun t ht => ?_⟩
  have := h t l[t] ht (List.getElem?_eq_getElem (by omega))
  simpa using this
theorem find_none {p : α → Bool} {l : List α} (h : ∀ (t : Nat) (x : α), l[t]? = some x → p x = false) : l.findIdx? p = none := by
  rw [List.findIdx?_eq_none_iff]
  intro x hx
  obtain ⟨t, ht, rfl⟩ := List.getElem_of_mem hx
  exact h t _ (List.getElem?_eq_getElem ht)
theorem find_some {p : α → Bool} {l : List α} {j : Nat} (h : l.findIdx? p = some j) : ∃ hj : j < l.length, p l[j] = true ∧ ∀ (t : Nat) (ht : t < j), p (l[t]'(by omega)) = false := by
  rw [List.findIdx?_eq_some_iff_getElem] at h
  obtain ⟨hj, hp, h⟩ := h
  exact ⟨hj, hp, fun t ht => by simpa using h t ht⟩
end

/-! ### What is asked -/
def isId (id : Int) (e : Ent) : Bool := e.id == id
def isHigh (id : Int) (e : Ent) : Bool := decide (id ≤ e.id)
def isSn (seq count : Int) (s : Sn) : Bool := s.seq == seq && s.count == count
/-- A producer, and whether there is one. -/
def findE (t : List Ent) (id : Int) : Ent × Bool := match t.findIdx? (isId id) with
  | some i => (t.getD i ent0, true)
  | none => (ent0, false)
def askB (beh : Sn → Int) (e : Ent) (is : Bool) (b : Bat) : Int × Bool × Int :=
  if (is && decide (b.epoch < e.epoch)) = true then (0, false, 17)
  else if (is && b.epoch == e.epoch && decide (0 < e.last.length)) = true then
    match e.last.findIdx? (isSn b.seq b.count) with
    | some i => ((e.last.getD i sn0).base, true, 0)
    | none => if b.seq = beh (e.last.getD (e.last.length - 1) sn0) then (0, false, 0) else (0, false, 16)
  else if b.seq = 0 then (0, false, 0) else (0, false, 16)
def askT (beh : Sn → Int) (t : List Ent) (b : Bat) : Int × Bool × Int := if b.prod = 0 then (0, false, 0) else askB beh (findE t b.prod).1 (findE t b.prod).2 b

/-! ### What is put -/
def lastN (l : List Sn) (b : Bat) : List Sn := (l ++ [(⟨b.seq, b.count, b.base⟩ : Sn)]).drop (l.length + 1 - 5)
def lastP (t : List Ent) (b : Bat) : List Sn := if ((findE t b.prod).2 && (findE t b.prod).1.epoch == b.epoch) = true then (findE t b.prod).1.last else []
def entP (t : List Ent) (b : Bat) : Ent := ⟨b.prod, b.epoch, lastN (lastP t b) b⟩
def highP (t : List Ent) (id : Int) : Nat := (t.findIdx? (isHigh id)).getD t.length
def putT (t : List Ent) (b : Bat) : List Ent :=
  if b.prod = 0 then t else match t.findIdx? (isId b.prod) with
  | some i => t.set i (entP t b)
  | none => t.take (highP t b.prod) ++ entP t b :: t.drop (highP t b.prod)
def buildT (l : List Bat) : List Ent := l.foldl putT []

/-! ### What is cut -/
def keepS (next : Int) (s : Sn) : Bool := decide (RowKit.wrap64 (s.base + s.count) ≤ next)
def cutE (next : Int) (e : Ent) : Ent := { e with last := e.last.filter (keepS next) }
def cutT (t : List Ent) (next : Int) : List Ent := (t.map (cutE next)).filter fun e => decide (0 < e.last.length)

/-! ### What is the same -/
def sameS (a b : Sn) : Bool := a.seq == b.seq && a.count == b.count && a.base == b.base
def sameSs (a b : List Sn) : Bool := a.length == b.length && (List.range a.length).all fun i => sameS (a.getD i sn0) (b.getD i sn0)
def sameE (a b : Ent) : Bool := a.id == b.id && a.epoch == b.epoch && sameSs a.last b.last
def sameT (a b : List Ent) : Bool := a.length == b.length && (List.range a.length).all fun i => sameE (a.getD i ent0) (b.getD i ent0)
theorem sameS_refl (a : Sn) : sameS a a = true := by simp [sameS]
theorem sameSs_refl (a : List Sn) : sameSs a a = true := by
  unfold sameSs
  simp only [beq_self_eq_true, Bool.true_and, List.all_eq_true]
  exact fun i _ => sameS_refl _
theorem sameE_refl (a : Ent) : sameE a a = true := by simp [sameE, sameSs_refl]
theorem sameT_refl (a : List Ent) : sameT a a = true := by
  unfold sameT
  simp only [beq_self_eq_true, Bool.true_and, List.all_eq_true]
  exact fun i _ => sameE_refl _

/-! ### What is light -/
def lightS (s : Sn) : Bool := decide (0 ≤ s.seq) && decide (s.seq ≤ 1099511627776) && decide (0 ≤ s.count) && decide (s.count ≤ 1099511627776) && decide (0 ≤ s.base) && decide (s.base ≤ 2305843009213693952)
def lightE (e : Ent) : Bool := decide (e.last.length ≤ 20) && e.last.all lightS
def lightT (t : List Ent) : Bool := decide (t.length ≤ 20) && t.all lightE

/-! ### Bounds -/
theorem putT_length (t : List Ent) (b : Bat) : (putT t b).length ≤ t.length + 1 := by
  unfold putT
  split
  · omega
  · split
    · rw [List.length_set]; omega
    · rw [List.length_append, List.length_cons, List.length_take, List.length_drop]; omega
theorem lastN_length (l : List Sn) (b : Bat) : (lastN l b).length ≤ 5 := by
  unfold lastN
  rw [List.length_drop, List.length_append, List.length_singleton]
  omega
theorem mem_insert {α : Type} {t : List α} {i : Nat} {x y : α} (h : y ∈ t.take i ++ x :: t.drop i) : y = x ∨ y ∈ t := by
  rcases List.mem_append.1 h with h | h
  · exact .inr (List.mem_of_mem_take h)
  · rcases List.mem_cons.1 h with h | h
    · exact .inl h
    · exact .inr (List.mem_of_mem_drop h)
theorem mem_set {α : Type} {t : List α} {i : Nat} {x y : α} (h : y ∈ t.set i x) : y = x ∨ y ∈ t := by
  rcases List.mem_or_eq_of_mem_set h with h | h
  · exact .inr h
  · exact .inl h
theorem putT_mem {t : List Ent} {b : Bat} {e : Ent} (h : e ∈ putT t b) : e ∈ t ∨ e = entP t b := by
  unfold putT at h
  split at h
  · exact .inl h
  · split at h
    · exact (mem_set h).symm
    · exact (mem_insert h).symm
/-- No producer has more than n batches. -/
def FewT (n : Nat) (t : List Ent) : Prop := ∀ e ∈ t, e.last.length ≤ n
theorem putT_few {n : Nat} (hn : 5 ≤ n) {t : List Ent} {b : Bat} (h : FewT n t) : FewT n (putT t b) := fun e he => by
  rcases putT_mem he with h1 | rfl
  · exact h e h1
  · exact Nat.le_trans (lastN_length _ _) hn
theorem lightT_few {t : List Ent} (h : lightT t = true) : t.length ≤ 20 ∧ FewT 20 t := by
  unfold lightT at h
  rw [Bool.and_eq_true, decide_eq_true_iff, List.all_eq_true] at h
  refine ⟨h.1, fun e he => ?_⟩
  have := h.2 e he
  unfold lightE at this
  rw [Bool.and_eq_true, decide_eq_true_iff] at this
  exact this.1
end Go.Proofs.Ytdklpenpmeplfaa
