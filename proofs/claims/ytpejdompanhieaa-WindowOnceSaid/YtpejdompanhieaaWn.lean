/- How texts and numbers stand. What layer 35 computes, in plain Lean: sums by times. Plain laws of layer 35: sums stay in their order, each place once; what closes stands ahead. -/
import Derived.Test.YtpejdompanhieaaBase
namespace Go.Proofs.Ytpejdompanhieaa


/-! ### Texts -/
theorem ltS_irrefl : ∀ a : List UInt8, Op.bytesLess a a = false
  | [] => rfl
  | x :: r => by
    unfold Op.bytesLess
    rw [ltS_irrefl r]
    simp
theorem ltS_asymm : ∀ a b : List UInt8, Op.bytesLess a b = true → Op.bytesLess b a = false
  | _, [], h => by simp [Op.bytesLess] at h
  | [], _ :: _, _ => by simp [Op.bytesLess]
  | x :: r, y :: s, h => by
    unfold Op.bytesLess at h ⊢
    simp only [Bool.or_eq_true, Bool.and_eq_true, beq_iff_eq, decide_eq_true_eq, Bool.or_eq_false_iff, decide_eq_false_iff_not, Bool.and_eq_false_iff, beq_eq_false_iff_ne] at h ⊢
    simp only [UInt8.lt_iff_toNat_lt] at *
    rcases h with h | ⟨rfl, h⟩
    · exact ⟨by omega, .inl fun e => by subst e; omega⟩
    · exact ⟨by omega, .inr (ltS_asymm r s h)⟩
theorem ltS_total : ∀ a b : List UInt8, Op.bytesLess a b = false → Op.bytesLess b a = false → a = b
  | [], [], _, _ => rfl
  | [], _ :: _, h, _ => by simp [Op.bytesLess] at h
  | _ :: _, [], _, h => by simp [Op.bytesLess] at h
  | x :: r, y :: s, h, k => by
    unfold Op.bytesLess at h k
    simp only [Bool.or_eq_false_iff, decide_eq_false_iff_not, Bool.and_eq_false_iff, beq_eq_false_iff_ne] at h k
    simp only [UInt8.lt_iff_toNat_lt] at *
    have e : x = y := UInt8.toNat_inj.1 (by omega)
    subst e
    rw [ltS_total r s (h.2.resolve_left fun e => e rfl) (k.2.resolve_left fun e => e rfl)]
theorem ltS_trans : ∀ a b c : List UInt8, Op.bytesLess a b = true → Op.bytesLess b c = true → Op.bytesLess a c = true
  | _, [], _, h, _ => by simp [Op.bytesLess] at h
  | _, _ :: _, [], _, k => by simp [Op.bytesLess] at k
  | [], _ :: _, _ :: _, _, _ => by simp [Op.bytesLess]
  | x :: r, y :: s, z :: t, h, k => by
    unfold Op.bytesLess at h k ⊢
    simp only [Bool.or_eq_true, Bool.and_eq_true, beq_iff_eq, decide_eq_true_eq] at h k ⊢
    simp only [UInt8.lt_iff_toNat_lt] at *
    rcases h with h | ⟨rfl, h⟩
    · rcases k with k | ⟨rfl, k⟩
      · exact .inl (by omega)
      · exact .inl h
    · rcases k with k | ⟨rfl, k⟩
      · exact .inl k
      · exact .inr ⟨rfl, ltS_trans r s t h k⟩
/-- How two texts stand. -/
def cmpS (a b : List UInt8) : Int := if Op.bytesLess a b then -1 else if Op.bytesLess b a then 1 else 0
/-- How two numbers stand. -/
def cmpI (a b : Int) : Int := if a < b then -1 else if b < a then 1 else 0
theorem cmpS_zero {a b : List UInt8} : cmpS a b = 0 ↔ a = b := by
  unfold cmpS
  constructor
  · intro h
    cases h1 : Op.bytesLess a b with
    | true => rw [h1] at h; simp at h
    | false =>
      cases h2 : Op.bytesLess b a with
      | true => rw [h1, h2] at h; simp at h
      | false => exact ltS_total a b h1 h2
  · rintro rfl
    rw [ltS_irrefl]
    simp
theorem cmpI_zero {a b : Int} : cmpI a b = 0 ↔ a = b := by unfold cmpI; split <;> (try split) <;> omega
theorem cmpS_neg {a b : List UInt8} : cmpS a b < 0 ↔ Op.bytesLess a b = true := by
  unfold cmpS
  cases h1 : Op.bytesLess a b with
  | true => simp
  | false => cases h2 : Op.bytesLess b a <;> simp
theorem cmpI_neg {a b : Int} : cmpI a b < 0 ↔ a < b := by unfold cmpI; split <;> (try split) <;> omega
theorem gtS (a b : List UInt8) : (!(Op.bytesLess a b || a == b)) = Op.bytesLess b a := by
  cases h1 : Op.bytesLess a b with
  | true => rw [ltS_asymm a b h1]; rfl
  | false =>
    cases h2 : Op.bytesLess b a with
    | true =>
      have : (a == b) = false := by rw [beq_eq_false_iff_ne]; rintro rfl; rw [ltS_irrefl] at h2; cases h2
      rw [this]; rfl
    | false => have := ltS_total a b h1 h2; subst this; simp

structure Sm where
  start : Int
  key : List UInt8
  count : Int
  total : Int
  least : Int
  most : Int
structure Wt where
  size : Int
  late : Int
  mark : Int
  drops : Int
  opn : List Sm
def sm0 : Sm := ⟨0, [], 0, 0, 0, 0⟩
def wt0 : Wt := ⟨0, 0, 0, 0, []⟩
def inW (n a b : Int) : Bool := decide (a ≤ n) && decide (n ≤ b)
def numW (n : Int) : Bool := inW n (-1073741824) 1073741824
/-- May a sum be, in windows of a size? -/
def mayS (size : Int) (x : Sm) : Bool :=
  inW x.start 0 1099511627776 && (decide (x.start % size = 0) && (decide (x.key.length ≤ 64) && (inW x.count 1 1048576 && (numW x.least && (numW x.most && (decide (x.least ≤ x.most) && inW x.total (x.count * x.least) (x.count * x.most)))))))
def ordS (a b : Sm) : Int := if cmpI a.start b.start ≠ 0 then cmpI a.start b.start else cmpS a.key b.key
def aheadS (a b : Sm) : Bool := decide (ordS a b < 0)
theorem ordS_zero {a b : Sm} : ordS a b = 0 ↔ a.start = b.start ∧ a.key = b.key := by
  unfold ordS
  by_cases h1 : cmpI a.start b.start = 0
  · rw [if_neg (by simp [h1]), cmpS_zero]
    exact ⟨fun h => ⟨cmpI_zero.1 h1, h⟩, fun h => h.2⟩
  · rw [if_pos h1]
    exact ⟨fun h => absurd h h1, fun h => absurd (cmpI_zero.2 h.1) h1⟩
theorem ordS_neg {a b : Sm} : ordS a b < 0 ↔ a.start < b.start ∨ a.start = b.start ∧ Op.bytesLess a.key b.key = true := by
  unfold ordS
  by_cases h1 : cmpI a.start b.start = 0
  · have e := cmpI_zero.1 h1
    rw [if_neg (by simp [h1]), cmpS_neg]
    exact ⟨fun h => .inr ⟨e, h⟩, fun h => (h.resolve_left (by omega)).2⟩
  · rw [if_pos h1, cmpI_neg]
    exact ⟨fun h => .inl h, fun h => h.resolve_right fun k => h1 (cmpI_zero.2 k.1)⟩
theorem ordS_trans {a b c : Sm} (h : ordS a b < 0) (k : ordS b c < 0) : ordS a c < 0 := by
  rw [ordS_neg] at *
  rcases h with h | ⟨e1, h⟩
  · rcases k with k | ⟨e2, k⟩
    · exact .inl (by omega)
    · exact .inl (by omega)
  · rcases k with k | ⟨e2, k⟩
    · exact .inl (by omega)
    · exact .inr ⟨e1.trans e2, ltS_trans _ _ _ h k⟩
theorem ordS_total {a b : Sm} (h : ¬ ordS a b < 0) (k : ordS a b ≠ 0) : ordS b a < 0 := by
  rw [ordS_neg] at *
  rw [Ne, ordS_zero] at k
  by_cases h1 : a.start = b.start
  · refine .inr ⟨h1.symm, ?_⟩
    cases e : Op.bytesLess b.key a.key with
    | true => rfl
    | false =>
      cases f : Op.bytesLess a.key b.key with
      | true => exact absurd (.inr ⟨h1, f⟩) h
      | false => exact absurd ⟨h1, ltS_total _ _ f e⟩ k
  · have : ¬ a.start < b.start := fun e => h (.inl e)
    exact .inl (by omega)
theorem ordS_irrefl (a : Sm) : ¬ ordS a a < 0 := by
  have : ordS a a = 0 := ordS_zero.2 ⟨rfl, rfl⟩
  omega
/-- Each is ahead of the next. -/
def risesS (l : List Sm) : Bool := (List.range (l.length - 1)).all fun i => aheadS (l.getD i sm0) (l.getD (i + 1) sm0)
/-- None is behind the next. -/
def sortsS (l : List Sm) : Bool := (List.range (l.length - 1)).all fun i => decide (0 ≤ ordS (l.getD (i + 1) sm0) (l.getD i sm0))
/-- No place stands twice. -/
def onceS (l : List Sm) : Bool := (List.range l.length).all fun i => (List.range i).all fun k => !(decide (ordS (l.getD k sm0) (l.getD i sm0) = 0))
theorem rises_lt {l : List Sm} (h : risesS l = true) : ∀ i k, i < k → k < l.length → ordS (l.getD i sm0) (l.getD k sm0) < 0 := by
  unfold risesS at h
  rw [List.all_eq_true] at h
  have step : ∀ i, i + 1 < l.length → ordS (l.getD i sm0) (l.getD (i + 1) sm0) < 0 := fun i hi => by
    have := h i (List.mem_range.2 (by omega))
    unfold aheadS at this
    exact of_decide_eq_true this
  intro i k hik hk
  obtain ⟨d, rfl⟩ : ∃ d, k = i + 1 + d := ⟨k - (i + 1), by omega⟩
  induction d with
  | zero => exact step i (by omega)
  | succ d ih => exact ordS_trans (ih (by omega) (by omega)) (step (i + 1 + d) (by omega))
/-- What the program looks at, and what the document does. -/
theorem rises_iff (l : List Sm) : (onceS l && sortsS l) = risesS l := by
  cases hr : risesS l with
  | true =>
    have hlt := rises_lt hr
    rw [Bool.and_eq_true]
    constructor
    · unfold onceS
      rw [List.all_eq_true]
      intro i hi
      rw [List.all_eq_true]
      intro k hk
      rw [List.mem_range] at hi hk
      have := hlt k i hk hi
      rw [Bool.not_eq_true', decide_eq_false_iff_not]
      omega
    · unfold sortsS
      rw [List.all_eq_true]
      intro i hi
      rw [List.mem_range] at hi
      have := hlt i (i + 1) (by omega) (by omega)
      rw [decide_eq_true_eq]
      rcases Int.lt_or_le (ordS (l.getD (i + 1) sm0) (l.getD i sm0)) 0 with h | h
      · exact absurd (ordS_trans this h) (ordS_irrefl _)
      · exact h
  | false =>
    rw [Bool.and_eq_false_iff]
    unfold risesS at hr
    rw [List.all_eq_false] at hr
    obtain ⟨i, hi, hn⟩ := hr
    rw [List.mem_range] at hi
    unfold aheadS at hn
    rw [decide_eq_true_eq] at hn
    by_cases hz : ordS (l.getD i sm0) (l.getD (i + 1) sm0) = 0
    · refine .inl ?_
      unfold onceS
      rw [List.all_eq_false]
      refine ⟨i + 1, List.mem_range.2 (by omega), ?_⟩
      rw [List.all_eq_true]
      intro h
      have := h i (List.mem_range.2 (by omega))
      rw [hz] at this
      simp at this
    · refine .inr ?_
      unfold sortsS
      rw [List.all_eq_false]
      refine ⟨i, List.mem_range.2 (by omega), ?_⟩
      rw [decide_eq_true_eq]
      have := ordS_total hn hz
      omega
def boundsW (s : Wt) : Bool := inW s.size 1 1048576 && (inW s.late 0 1048576 && (inW s.mark (-1) 1099511627776 && (inW s.drops 0 1099511627776 && decide (s.opn.length ≤ 256))))
def checkW (s : Wt) : Int := if boundsW s = false then 11 else if s.opn.all (mayS s.size) = false then 11 else if risesS s.opn = false then 16 else 0
def newW (size late : Int) : Wt × Int := if checkW ⟨size, late, -1, 0, []⟩ ≠ 0 then (wt0, checkW ⟨size, late, -1, 0, []⟩) else (⟨size, late, -1, 0, []⟩, 0)
def lateW (s : Wt) (start mark : Int) : Bool := decide (start + s.size + s.late ≤ mark)
def withS (x : Sm) (n : Int) : Sm := ⟨x.start, x.key, x.count + 1, x.total + n, min x.least n, max x.most n⟩
def atS (start : Int) (key : List UInt8) : Sm := ⟨start, key, 0, 0, 0, 0⟩
/-- A number in the sums; the error. -/
def addS (l : List Sm) (p : Sm) (n : Int) : List Sm × Int :=
  let k := (l.takeWhile fun x => aheadS x p).length
  if k < l.length ∧ ordS (l.getD k sm0) p = 0 then
    if 1048576 ≤ (l.getD k sm0).count then (l, 9) else (l.set k (withS (l.getD k sm0) n), 0)
  else if 256 ≤ l.length then (l, 9) else (l.take k ++ ⟨p.start, p.key, 1, n, n, n⟩ :: l.drop k, 0)
/-- What a number that is fed makes of a state, and what it closes. -/
def feedW (s : Wt) (key : List UInt8) (time n : Int) : Wt × List Sm × Int :=
  if checkW s ≠ 0 then (s, [], checkW s)
  else if 64 < key.length then (s, [], 5)
  else if inW time 0 1099511627776 = false ∨ numW n = false then (s, [], 11)
  else
    let start := time - time % s.size
    let mark := max s.mark time
    if lateW s start mark then (⟨s.size, s.late, s.mark, min (s.drops + 1) 1099511627776, s.opn⟩, [], 0)
    else
      let a := addS s.opn (atS start key) n
      if a.2 ≠ 0 then (s, [], a.2)
      else (⟨s.size, s.late, mark, s.drops, a.1.filter fun x => !(lateW s x.start mark)⟩, a.1.filter (fun x => lateW s x.start mark), 0)
def closeW (s : Wt) : Wt × List Sm := if checkW s ≠ 0 then (s, []) else (⟨s.size, s.late, s.mark, s.drops, []⟩, s.opn)
def Rises (l : List Sm) : Prop := l.Pairwise fun a b => ordS a b < 0
theorem getD_sm {l : List Sm} {i : Nat} (h : i < l.length) : l.getD i sm0 = l[i] := by simp [List.getD_eq_getElem?_getD, h]
theorem rises_pair {l : List Sm} : risesS l = true ↔ Rises l := by
  constructor
  · intro h
    unfold Rises
    rw [List.pairwise_iff_getElem]
    intro i j hi hj hij
    have := rises_lt h i j hij hj
    rwa [getD_sm hi, getD_sm hj] at this
  · intro h
    unfold Rises at h
    rw [List.pairwise_iff_getElem] at h
    unfold risesS
    rw [List.all_eq_true]
    intro i hi
    rw [List.mem_range] at hi
    unfold aheadS
    rw [decide_eq_true_eq, getD_sm (by omega), getD_sm (by omega)]
    exact h i (i + 1) (by omega) (by omega) (by omega)
/-- How many stand ahead of a place. -/
def posS (l : List Sm) (p : Sm) : Nat := (l.takeWhile fun x => aheadS x p).length
theorem posS_le (l : List Sm) (p : Sm) : posS l p ≤ l.length := by
  have := congrArg List.length (List.takeWhile_append_dropWhile (p := fun x => aheadS x p) (l := l))
  rw [List.length_append] at this
  unfold posS
  omega
theorem take_pos (l : List Sm) (p : Sm) : l.take (posS l p) = l.takeWhile fun x => aheadS x p := by
  have h := List.takeWhile_append_dropWhile (p := fun x => aheadS x p) (l := l)
  have e := List.take_left (l₁ := l.takeWhile fun x => aheadS x p) (l₂ := l.dropWhile fun x => aheadS x p)
  rw [h] at e
  exact e
theorem drop_pos (l : List Sm) (p : Sm) : l.drop (posS l p) = l.dropWhile fun x => aheadS x p := by
  have h := List.takeWhile_append_dropWhile (p := fun x => aheadS x p) (l := l)
  have e := List.drop_left (l₁ := l.takeWhile fun x => aheadS x p) (l₂ := l.dropWhile fun x => aheadS x p)
  rw [h] at e
  exact e
theorem mem_takeWhile_ahead {p : Sm} : ∀ {l : List Sm} {x : Sm}, x ∈ l.takeWhile (fun x => aheadS x p) → ordS x p < 0
  | [], x, h => by simp at h
  | a :: l, x, h => by
    rw [List.takeWhile_cons] at h
    split at h
    · rename_i ha
      rcases List.mem_cons.1 h with rfl | h
      · unfold aheadS at ha; exact of_decide_eq_true ha
      · exact mem_takeWhile_ahead h
    · simp at h
theorem head_dropWhile {p : Sm} : ∀ {l : List Sm} {b : Sm} {t : List Sm}, l.dropWhile (fun x => aheadS x p) = b :: t → ¬ ordS b p < 0
  | [], b, t, h => by simp at h
  | a :: l, b, t, h => by
    rw [List.dropWhile_cons] at h
    split at h
    · exact head_dropWhile h
    · rename_i ha
      cases h
      unfold aheadS at ha
      simpa using ha
theorem posS_at {l : List Sm} {p : Sm} (h : posS l p < l.length) : ¬ ordS (l.getD (posS l p) sm0) p < 0 := by
  have hd := drop_pos l p
  rw [List.drop_eq_getElem_cons h] at hd
  rw [getD_sm h]
  exact head_dropWhile hd.symm
/-- The one place that parts those ahead from the others. -/
theorem posS_of {l : List Sm} {p : Sm} {i : Nat} (hi : i ≤ l.length) (h1 : ∀ m, m < i → ordS (l.getD m sm0) p < 0) (h2 : i < l.length → ¬ ordS (l.getD i sm0) p < 0) : posS l p = i := by
  rcases Nat.lt_trichotomy (posS l p) i with h | h | h
  · exact absurd (h1 _ h) (posS_at (by omega))
  · exact h
  · have hlt : i < l.length := Nat.lt_of_lt_of_le h (posS_le l p)
    have hm : l[i] ∈ l.takeWhile fun x => aheadS x p := by
      rw [← take_pos, List.mem_iff_getElem]
      exact ⟨i, by rw [List.length_take]; omega, by rw [List.getElem_take]⟩
    have := mem_takeWhile_ahead hm
    rw [← getD_sm hlt] at this
    exact absurd this (h2 hlt)
theorem ordS_same {a b p : Sm} (h1 : a.start = b.start) (h2 : a.key = b.key) : ordS a p = ordS b p ∧ ordS p a = ordS p b := by
  unfold ordS
  rw [h1, h2]
  exact ⟨rfl, rfl⟩
theorem rises_split {l : List Sm} (p : Sm) (h : Rises l) : Rises (l.take (posS l p)) ∧ Rises (l.drop (posS l p)) ∧ (∀ a ∈ l.take (posS l p), ordS a p < 0) ∧ ∀ a ∈ l.take (posS l p), ∀ b ∈ l.drop (posS l p), ordS a b < 0 := by
  have h0 := h
  unfold Rises at h0
  rw [← List.take_append_drop (posS l p) l, List.pairwise_append] at h0
  refine ⟨h0.1, h0.2.1, fun a ha => ?_, h0.2.2⟩
  rw [take_pos] at ha
  exact mem_takeWhile_ahead ha
theorem rises_insert {l : List Sm} {p q : Sm} (h : Rises l) (hq1 : q.start = p.start) (hq2 : q.key = p.key) (hno : posS l p < l.length → ordS (l.getD (posS l p) sm0) p ≠ 0) : Rises (l.take (posS l p) ++ q :: l.drop (posS l p)) := by
  obtain ⟨h1, h2, h3, h4⟩ := rises_split p h
  have hq : ∀ b ∈ l.drop (posS l p), ordS q b < 0 := fun b hb => by
    rw [(ordS_same hq1 hq2).1]
    by_cases hlt : posS l p < l.length
    · have hp := ordS_total (posS_at hlt) (hno hlt)
      rw [List.drop_eq_getElem_cons hlt] at hb h2
      rw [getD_sm hlt] at hp
      rcases List.mem_cons.1 hb with rfl | hb
      · exact hp
      · exact ordS_trans hp ((List.pairwise_cons.1 h2).1 b hb)
    · rw [List.drop_eq_nil_of_le (by omega)] at hb
      simp at hb
  unfold Rises
  rw [List.pairwise_append]
  refine ⟨h1, List.pairwise_cons.2 ⟨hq, h2⟩, fun a ha b hb => ?_⟩
  rcases List.mem_cons.1 hb with rfl | hb
  · rw [(ordS_same hq1 hq2).2]
    exact h3 a ha
  · exact h4 a ha b hb
theorem rises_set {l : List Sm} {i : Nat} {q : Sm} (h : Rises l) (hi : i < l.length) (h1 : q.start = l[i].start) (h2 : q.key = l[i].key) : Rises (l.set i q) := by
  unfold Rises at *
  rw [List.pairwise_iff_getElem] at *
  intro a b ha hb hab
  rw [List.length_set] at ha hb
  rw [List.getElem_set, List.getElem_set]
  by_cases e1 : i = a
  · subst e1
    rw [if_pos rfl, if_neg (by omega), (ordS_same h1 h2).1]
    exact h i b hi hb hab
  · rw [if_neg e1]
    by_cases e2 : i = b
    · subst e2
      rw [if_pos rfl, (ordS_same h1 h2).2]
      exact h a i ha hi hab
    · rw [if_neg e2]
      exact h a b ha hb hab
theorem addS_def (l : List Sm) (p : Sm) (n : Int) : addS l p n = if posS l p < l.length ∧ ordS (l.getD (posS l p) sm0) p = 0 then
    if 1048576 ≤ (l.getD (posS l p) sm0).count then (l, 9) else (l.set (posS l p) (withS (l.getD (posS l p) sm0) n), 0)
  else if 256 ≤ l.length then (l, 9) else (l.take (posS l p) ++ ⟨p.start, p.key, 1, n, n, n⟩ :: l.drop (posS l p), 0) := rfl
theorem addS_rises {l : List Sm} {p : Sm} {n : Int} (h : Rises l) (h2 : (addS l p n).2 = 0) : Rises (addS l p n).1 := by
  rw [addS_def] at h2 ⊢
  by_cases hc : posS l p < l.length ∧ ordS (l.getD (posS l p) sm0) p = 0
  · rw [if_pos hc] at h2 ⊢
    split
    · rename_i h3; rw [if_pos h3] at h2; cases h2
    · exact rises_set h hc.1 (show (l.getD (posS l p) sm0).start = _ from congrArg Sm.start (getD_sm hc.1)) (show (l.getD (posS l p) sm0).key = _ from congrArg Sm.key (getD_sm hc.1))
  · rw [if_neg hc] at h2 ⊢
    split
    · rename_i h3; rw [if_pos h3] at h2; cases h2
    · exact rises_insert (q := ⟨p.start, p.key, 1, n, n, n⟩) h rfl rfl fun hlt he => hc ⟨hlt, he⟩
/-! ### What closes -/
theorem rises_start {l : List Sm} (h : Rises l) : l.Pairwise fun a b => a.start ≤ b.start := by
  refine List.Pairwise.imp (fun {a b} hab => ?_) h
  rw [ordS_neg] at hab
  omega
/-- What is late stands ahead: with it the rest parts at one place. -/
theorem late_parts {s : Wt} {mark : Int} : ∀ {l : List Sm}, (l.Pairwise fun a b => a.start ≤ b.start) →
    ∃ k, k ≤ l.length ∧ (l.findIdx? (fun x => !(lateW s x.start mark))).getD l.length = k ∧ l.filter (fun x => lateW s x.start mark) = l.take k ∧ l.filter (fun x => !(lateW s x.start mark)) = l.drop k
  | [], _ => ⟨0, Nat.le_refl _, rfl, rfl, rfl⟩
  | a :: l, h => by
    have hp := List.pairwise_cons.1 h
    by_cases ha : lateW s a.start mark = true
    · obtain ⟨k, h1, h2, h3, h4⟩ := late_parts (s := s) (mark := mark) hp.2
      refine ⟨k + 1, by rw [List.length_cons]; omega, ?_, ?_, ?_⟩
      · rw [List.findIdx?_cons, ha]
        simp only [Bool.not_true, Bool.false_eq_true, if_false]
        cases hf : l.findIdx? (fun x => !(lateW s x.start mark)) with
        | none => rw [hf] at h2; simp at h2 ⊢; omega
        | some i => rw [hf] at h2; simp at h2 ⊢; omega
      · rw [List.filter_cons, ha, if_pos rfl, h3, List.take_succ_cons]
      · rw [List.filter_cons, ha]
        simp only [Bool.not_true, Bool.false_eq_true, if_false]
        rw [h4, List.drop_succ_cons]
    · have hb : ∀ x ∈ l, lateW s x.start mark = false := fun x hx => by
        have := hp.1 x hx
        unfold lateW at *
        rw [decide_eq_true_eq] at ha
        rw [decide_eq_false_iff_not]
        omega
      have ha2 : lateW s a.start mark = false := by simpa using ha
      refine ⟨0, Nat.zero_le _, ?_, ?_, ?_⟩
      · rw [List.findIdx?_cons, ha2]; rfl
      · rw [List.take_zero, List.filter_cons, ha2]
        simp only [Bool.false_eq_true, if_false]
        rw [List.filter_eq_nil_iff]
        intro x hx
        rw [hb x hx]; simp
      · rw [List.drop_zero, List.filter_eq_self]
        intro x hx
        rcases List.mem_cons.1 hx with rfl | hx
        · rw [ha2]; rfl
        · rw [hb x hx]; rfl
end Go.Proofs.Ytpejdompanhieaa
