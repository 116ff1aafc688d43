/- What layer 21 computes, in plain Lean: commits, their records, what batches make of them. Plain laws of layer 21: what is laid is read as it was; what is played stands in its order, each key once. -/
import Derived.Test.YtdklpenpmeplfaaVarT
import Derived.Test.YtdklpenpmeplfaaPr
namespace Go.Proofs.Ytdklpenpmeplfaa


/-! ### Texts -/
theorem ltS_irrefl : ∀ a : List UInt8, Op.bytesLess a a = false
  | [] => rfl
  | x :: r => by
    unfold Op.bytesLess
    rw [ltS_irrefl r]
    simp
theorem ltS_asymm : ∀ a b : List UInt8, Op.bytesLess a b = true → Op.bytesLess b a = false
  | _, [], h => by simp [Op.bytesLess] at h
  | [], _ :: _, _ => by simp [Op.bytesLess]
  | x :: r, y :: s, h => by
    unfold Op.bytesLess at h ⊢
    simp only [Bool.or_eq_true, Bool.and_eq_true, beq_iff_eq, decide_eq_true_eq, Bool.or_eq_false_iff, decide_eq_false_iff_not, Bool.and_eq_false_iff, beq_eq_false_iff_ne] at h ⊢
    simp only [UInt8.lt_iff_toNat_lt] at *
    rcases h with h | ⟨rfl, h⟩
    · exact ⟨by omega, .inl fun e => by subst e; omega⟩
    · exact ⟨by omega, .inr (ltS_asymm r s h)⟩
theorem ltS_total : ∀ a b : List UInt8, Op.bytesLess a b = false → Op.bytesLess b a = false → a = b
  | [], [], _, _ => rfl
  | [], _ :: _, h, _ => by simp [Op.bytesLess] at h
  | _ :: _, [], _, h => by simp [Op.bytesLess] at h
  | x :: r, y :: s, h, k => by
    unfold Op.bytesLess at h k
    simp only [Bool.or_eq_false_iff, decide_eq_false_iff_not, Bool.and_eq_false_iff, beq_eq_false_iff_ne] at h k
    simp only [UInt8.lt_iff_toNat_lt] at *
    have e : x = y := UInt8.toNat_inj.1 (by omega)
    subst e
    rw [ltS_total r s (h.2.resolve_left fun e => e rfl) (k.2.resolve_left fun e => e rfl)]
theorem ltS_trans : ∀ a b c : List UInt8, Op.bytesLess a b = true → Op.bytesLess b c = true → Op.bytesLess a c = true
  | _, [], _, h, _ => by simp [Op.bytesLess] at h
  | _, _ :: _, [], _, k => by simp [Op.bytesLess] at k
  | [], _ :: _, _ :: _, _, _ => by simp [Op.bytesLess]
  | x :: r, y :: s, z :: t, h, k => by
    unfold Op.bytesLess at h k ⊢
    simp only [Bool.or_eq_true, Bool.and_eq_true, beq_iff_eq, decide_eq_true_eq] at h k ⊢
    simp only [UInt8.lt_iff_toNat_lt] at *
    rcases h with h | ⟨rfl, h⟩
    · rcases k with k | ⟨rfl, k⟩
      · exact .inl (by omega)
      · exact .inl h
    · rcases k with k | ⟨rfl, k⟩
      · exact .inl k
      · exact .inr ⟨rfl, ltS_trans r s t h k⟩
/-- How two texts stand. -/
def cmpS (a b : List UInt8) : Int := if Op.bytesLess a b then -1 else if Op.bytesLess b a then 1 else 0
/-- How two numbers stand. -/
def cmpI (a b : Int) : Int := if a < b then -1 else if b < a then 1 else 0
theorem cmpS_zero {a b : List UInt8} : cmpS a b = 0 ↔ a = b := by
  unfold cmpS
  constructor
  · intro h
    cases h1 : Op.bytesLess a b with
    | true => rw [h1] at h; simp at h
    | false =>
      cases h2 : Op.bytesLess b a with
      | true => rw [h1, h2] at h; simp at h
      | false => exact ltS_total a b h1 h2
  · rintro rfl
    rw [ltS_irrefl]
    simp
theorem cmpI_zero {a b : Int} : cmpI a b = 0 ↔ a = b := by unfold cmpI; split <;> (try split) <;> omega
theorem cmpS_neg {a b : List UInt8} : cmpS a b < 0 ↔ Op.bytesLess a b = true := by
  unfold cmpS
  cases h1 : Op.bytesLess a b with
  | true => simp
  | false => cases h2 : Op.bytesLess b a <;> simp
theorem cmpI_neg {a b : Int} : cmpI a b < 0 ↔ a < b := by unfold cmpI; split <;> (try split) <;> omega
theorem gtS (a b : List UInt8) : (!(Op.bytesLess a b || a == b)) = Op.bytesLess b a := by
  cases h1 : Op.bytesLess a b with
  | true => rw [ltS_asymm a b h1]; rfl
  | false =>
    cases h2 : Op.bytesLess b a with
    | true =>
      have : (a == b) = false := by rw [beq_eq_false_iff_ne]; rintro rfl; rw [ltS_irrefl] at h2; cases h2
      rw [this]; rfl
    | false => have := ltS_total a b h1 h2; subst this; simp

/-! ### Commits -/
structure Cm where
  group : List UInt8
  topic : List UInt8
  index : Int
  offset : Int
def cm0 : Cm := ⟨[], [], 0, 0⟩
def checkC (c : Cm) : Int :=
  if c.group.length < 1 ∨ 20 < c.group.length ∨ c.topic.length < 1 ∨ 32 < c.topic.length then 6
  else if c.index < 0 ∨ 7 < c.index ∨ c.offset < 0 ∨ 4611686018427387903 < c.offset then 11 else 0
def keyC (c : Cm) : List UInt8 := textV c.group ++ textV c.topic ++ [UInt8.ofNat c.index.toNat]
def layC (c : Cm) (time : Int) (dead : Bool) : Rec × Int :=
  if checkC c ≠ 0 then (rec0, checkC c) else if time < 0 ∨ 1099511627776 < time then (rec0, 11) else (⟨0, time, true, keyC c, dead, if dead then [] else putV c.offset⟩, 0)
/-- One byte, as a number. -/
def fixN (r : RdV) : Int := if r.e = 0 then ((r.b.headD 0).toNat : Int) else 0
def fixR (r : RdV) : RdV := if r.e = 0 then takeR r 1 else r
def sameR (a b : Rec) : Bool := (a.delta == b.delta) && ((a.time == b.time) && ((a.keyed == b.keyed) && ((a.key == b.key) && ((a.dead == b.dead) && (a.value == b.value)))))
theorem sameR_refl (a : Rec) : sameR a a = true := by unfold sameR; simp
/-- What a record's key and value say. -/
def readC (r : Rec) : Cm := ⟨textL 20 ⟨r.key, 0⟩, textL 32 (textR 20 ⟨r.key, 0⟩), fixN (textR 32 (textR 20 ⟨r.key, 0⟩)), if r.dead then 0 else numN ⟨r.value, 0⟩⟩
def getC (r : Rec) : Cm × Int :=
  if (layC (readC r) 0 r.dead).2 ≠ 0 ∨ sameR (layC (readC r) 0 r.dead).1 { r with delta := 0, time := 0 } = false then (cm0, 4) else (readC r, 0)

/-! ### How they stand -/
def ordC (a b : Cm) : Int := if cmpS a.group b.group ≠ 0 then cmpS a.group b.group else if cmpS a.topic b.topic ≠ 0 then cmpS a.topic b.topic else cmpI a.index b.index
def isC (c x : Cm) : Bool := ordC x c == 0
def geC (c x : Cm) : Bool := decide (0 ≤ ordC x c)
def insC (l : List Cm) (c : Cm) : List Cm := match l.findIdx? (geC c) with
  | some k => l.take k ++ c :: l.drop k
  | none => l ++ [c]
def putC (l : List Cm) (c : Cm) : List Cm := match l.findIdx? (isC c) with
  | some i => l.set i c
  | none => insC l c
def delC (l : List Cm) (c : Cm) : List Cm := match l.findIdx? (isC c) with
  | some i => l.take i ++ l.drop (i + 1)
  | none => l
def playR (l : List Cm) (r : Rec) : List Cm := if (getC r).2 ≠ 0 then l else if r.dead then delC l (getC r).1 else putC l (getC r).1
def playB (l : List Cm) (rs : List Rec) : List Cm := rs.foldl playR l
def findC (l : List Cm) (c : Cm) : Int × Bool := match l.findIdx? (isC c) with
  | some i => ((l.getD i cm0).offset, true)
  | none => (0, false)
def eqC (a b : Cm) : Bool := (a.group == b.group) && ((a.topic == b.topic) && ((a.index == b.index) && (a.offset == b.offset)))
def sameC (a b : List Cm) : Bool := (a.length == b.length) && (List.range a.length).all fun i => eqC (a.getD i cm0) (b.getD i cm0)
theorem eqC_refl (a : Cm) : eqC a a = true := by unfold eqC; simp
theorem sameC_refl (l : List Cm) : sameC l l = true := by
  unfold sameC
  rw [beq_self_eq_true, Bool.true_and, List.all_eq_true]
  exact fun i _ => eqC_refl _
theorem all_found {f : Nat → Bool} {n j : Nat} (hj : j < n) (h : f j = false) : (List.range n).all f = false := by
  rw [List.all_eq_false]
  exact ⟨j, List.mem_range.2 hj, by rw [h]; simp⟩
theorem all_none {f : Nat → Bool} {n : Nat} (h : ∀ i, i < n → f i = true) : (List.range n).all f = true := by
  rw [List.all_eq_true]
  exact fun x hx => h x (List.mem_range.1 hx)
theorem insC_length (l : List Cm) (c : Cm) : (insC l c).length = l.length + 1 := by
  unfold insC
  split
  · rename_i k h
    obtain ⟨hk, _⟩ := find_some h
    rw [List.length_append, List.length_cons, List.length_take, List.length_drop]; omega
  · rw [List.length_append]; rfl
theorem putC_length (l : List Cm) (c : Cm) : (putC l c).length ≤ l.length + 1 := by
  unfold putC
  split
  · rw [List.length_set]; omega
  · rw [insC_length]; omega
theorem delC_length (l : List Cm) (c : Cm) : (delC l c).length ≤ l.length := by
  unfold delC
  split
  · rw [List.length_append, List.length_take, List.length_drop]; omega
  · omega
theorem playR_length (l : List Cm) (r : Rec) : (playR l r).length ≤ l.length + 1 := by
  unfold playR
  have h1 := putC_length l (getC r).1
  have h2 := delC_length l (getC r).1
  split
  · omega
  · split <;> omega
theorem playB_length : ∀ (rs : List Rec) (l : List Cm), (playB l rs).length ≤ l.length + rs.length
  | [], l => Nat.le_refl _
  | r :: rs, l => by
    have h1 := playB_length rs (playR l r)
    have h2 := playR_length l r
    show (playB (playR l r) rs).length ≤ _
    rw [List.length_cons]; omega
theorem playB_snoc (l : List Cm) (rs : List Rec) (j : Nat) (hj : j < rs.length) : playB l (rs.take (j + 1)) = playR (playB l (rs.take j)) rs[j] := by
  unfold playB
  rw [List.take_succ_eq_append_getElem hj, List.foldl_append]
  rfl
/-! ### What the readers read -/
theorem readC_bounds (r : Rec) : (readC r).group.length ≤ 20 ∧ (readC r).topic.length ≤ 32 := by
  have h1 := textL_length 20 ⟨r.key, 0⟩
  have h2 := textL_length 32 (textR 20 ⟨r.key, 0⟩)
  unfold readC
  simp only
  omega
theorem layC_ok {c : Cm} {time : Int} {dead : Bool} (h : (layC c time dead).2 = 0) : checkC c = 0 ∧ 0 ≤ time ∧ time ≤ 1099511627776 ∧ layC c time dead = (⟨0, time, true, keyC c, dead, if dead then [] else putV c.offset⟩, 0) := by
  unfold layC at h ⊢
  by_cases h1 : checkC c = 0
  · rw [if_neg (by simp [h1])] at h ⊢
    by_cases h2 : time < 0 ∨ 1099511627776 < time
    · rw [if_pos h2] at h; cases h
    · rw [if_neg h2]
      exact ⟨h1, by omega, by omega, rfl⟩
  · rw [if_pos h1] at h
    exact absurd h h1
theorem checkC_ok {c : Cm} (h : checkC c = 0) : 1 ≤ c.group.length ∧ c.group.length ≤ 20 ∧ 1 ≤ c.topic.length ∧ c.topic.length ≤ 32 ∧ 0 ≤ c.index ∧ c.index ≤ 7 ∧ 0 ≤ c.offset ∧ c.offset ≤ 4611686018427387903 := by
  unfold checkC at h
  split at h
  · cases h
  · split at h
    · cases h
    · omega
theorem checkC_of {c : Cm} (h : 1 ≤ c.group.length ∧ c.group.length ≤ 20 ∧ 1 ≤ c.topic.length ∧ c.topic.length ≤ 32 ∧ 0 ≤ c.index ∧ c.index ≤ 7 ∧ 0 ≤ c.offset ∧ c.offset ≤ 4611686018427387903) : checkC c = 0 := by
  unfold checkC
  rw [if_neg (by omega), if_neg (by omega)]
theorem textL_text (s rest : List UInt8) (most : Int) (h : (s.length : Int) ≤ most) (hs : s.length ≤ 1000000) : textL most ⟨textV s ++ rest, 0⟩ = s ∧ textR most ⟨textV s ++ rest, 0⟩ = ⟨rest, 0⟩ := by
  have hg := getV_put (s.length : Int) (by omega) (by omega) (s ++ rest)
  have e0 : textV s ++ rest = putV s.length ++ (s ++ rest) := by unfold textV; rw [List.append_assoc]
  rw [e0]
  have e1 : numN ⟨putV s.length ++ (s ++ rest), 0⟩ = (s.length : Int) := by unfold numN; simp only [if_true]; rw [hg]
  have e2 : numR ⟨putV s.length ++ (s ++ rest), 0⟩ = ⟨s ++ rest, 0⟩ := by
    unfold numR
    simp only [if_true]
    rw [hg]
    simp
  unfold textL textR
  rw [e1, e2]
  simp only [ne_eq, not_true_eq_false, if_false]
  rw [if_neg (by omega), if_neg (by omega), Int.toNat_natCast]
  unfold takeL takeR
  simp only
  rw [if_neg (by rw [List.length_append]; omega), if_neg (by rw [List.length_append]; omega)]
  simp
theorem read_key {c : Cm} (h : checkC c = 0) (d t : Int) (dead : Bool) (v : List UInt8) : readC ⟨d, t, true, keyC c, dead, v⟩ = ⟨c.group, c.topic, c.index, if dead then 0 else numN ⟨v, 0⟩⟩ := by
  obtain ⟨h1, h2, h3, h4, h5, h6, h7, h8⟩ := checkC_ok h
  obtain ⟨a1, a2⟩ := textL_text c.group (textV c.topic ++ [UInt8.ofNat c.index.toNat]) 20 (by omega) (by omega)
  obtain ⟨b1, b2⟩ := textL_text c.topic [UInt8.ofNat c.index.toNat] 32 (by omega) (by omega)
  unfold readC keyC
  simp only [List.append_assoc]
  rw [a1, a2, b1, b2]
  have e : fixN ⟨[UInt8.ofNat c.index.toNat], 0⟩ = c.index := by
    unfold fixN
    simp only [if_true, List.headD_cons, UInt8.toNat_ofNat']
    omega
  rw [e]
theorem num_put {n : Int} (h1 : -9223372036854775808 ≤ n) (h2 : n ≤ 9223372036854775807) : numN ⟨putV n, 0⟩ = n := by
  have hg := getV_put n h1 h2 []
  rw [List.append_nil] at hg
  unfold numN
  simp only [if_true]
  rw [hg]
theorem get_put {c : Cm} (h : checkC c = 0) (d t : Int) : getC ⟨d, t, true, keyC c, false, putV c.offset⟩ = (c, 0) := by
  obtain ⟨h1, h2, h3, h4, h5, h6, h7, h8⟩ := checkC_ok h
  have e1 : readC ⟨d, t, true, keyC c, false, putV c.offset⟩ = c := by
    rw [read_key h, num_put (by omega) (by omega)]
    rfl
  unfold getC
  rw [e1]
  have e2 : layC c 0 false = (⟨0, 0, true, keyC c, false, putV c.offset⟩, 0) := by
    unfold layC
    rw [if_neg (by simp [h]), if_neg (by omega)]
    rfl
  simp only
  rw [e2, if_neg]
  rintro (h | h)
  · exact h rfl
  · rw [sameR_refl] at h; cases h
theorem get_gone {c : Cm} (h : checkC c = 0) (d t : Int) : getC ⟨d, t, true, keyC c, true, []⟩ = (⟨c.group, c.topic, c.index, 0⟩, 0) := by
  obtain ⟨h1, h2, h3, h4, h5, h6, h7, h8⟩ := checkC_ok h
  have e1 : readC ⟨d, t, true, keyC c, true, []⟩ = ⟨c.group, c.topic, c.index, 0⟩ := by
    rw [read_key h]
    rfl
  unfold getC
  rw [e1]
  have e2 : layC ⟨c.group, c.topic, c.index, 0⟩ 0 true = (⟨0, 0, true, keyC c, true, []⟩, 0) := by
    unfold layC
    rw [if_neg (by rw [checkC_of (c := ⟨c.group, c.topic, c.index, 0⟩) ⟨h1, h2, h3, h4, h5, h6, Int.le_refl 0, (by decide : (0 : Int) ≤ 4611686018427387903)⟩]; simp), if_neg (by omega)]
    rfl
  simp only
  rw [e2, if_neg]
  rintro (h | h)
  · exact h rfl
  · rw [sameR_refl] at h; cases h

/-! ### Order -/
theorem ordC_zero {a b : Cm} : ordC a b = 0 ↔ a.group = b.group ∧ a.topic = b.topic ∧ a.index = b.index := by
  unfold ordC
  by_cases h1 : cmpS a.group b.group = 0
  · rw [if_neg (by simp [h1])]
    by_cases h2 : cmpS a.topic b.topic = 0
    · rw [if_neg (by simp [h2]), cmpI_zero]
      exact ⟨fun h => ⟨cmpS_zero.1 h1, cmpS_zero.1 h2, h⟩, fun h => h.2.2⟩
    · rw [if_pos h2]
      exact ⟨fun h => absurd h h2, fun h => absurd (cmpS_zero.2 h.2.1) h2⟩
  · rw [if_pos h1]
    exact ⟨fun h => absurd h h1, fun h => absurd (cmpS_zero.2 h.1) h1⟩
theorem ordC_neg {a b : Cm} : ordC a b < 0 ↔ Op.bytesLess a.group b.group = true ∨ a.group = b.group ∧ (Op.bytesLess a.topic b.topic = true ∨ a.topic = b.topic ∧ a.index < b.index) := by
  unfold ordC
  by_cases h1 : cmpS a.group b.group = 0
  · rw [if_neg (by simp [h1])]
    have e1 := cmpS_zero.1 h1
    have n1 : ¬ Op.bytesLess a.group b.group = true := by rw [e1, ltS_irrefl]; simp
    by_cases h2 : cmpS a.topic b.topic = 0
    · rw [if_neg (by simp [h2]), cmpI_neg]
      have e2 := cmpS_zero.1 h2
      have n2 : ¬ Op.bytesLess a.topic b.topic = true := by rw [e2, ltS_irrefl]; simp
      exact ⟨fun h => .inr ⟨e1, .inr ⟨e2, h⟩⟩, fun h => ((h.resolve_left n1).2.resolve_left n2).2⟩
    · rw [if_pos h2, cmpS_neg]
      exact ⟨fun h => .inr ⟨e1, .inl h⟩, fun h => (h.resolve_left n1).2.resolve_right fun k => h2 (cmpS_zero.2 k.1)⟩
  · rw [if_pos h1, cmpS_neg]
    exact ⟨fun h => .inl h, fun h => h.resolve_right fun k => h1 (cmpS_zero.2 k.1)⟩
theorem ordC_trans {a b c : Cm} (h : ordC a b < 0) (k : ordC b c < 0) : ordC a c < 0 := by
  rw [ordC_neg] at *
  rcases h with h | ⟨e1, h⟩
  · rcases k with k | ⟨e2, k⟩
    · exact .inl (ltS_trans _ _ _ h k)
    · rw [← e2]; exact .inl h
  · rcases k with k | ⟨e2, k⟩
    · rw [e1]; exact .inl k
    · refine .inr ⟨e1.trans e2, ?_⟩
      rcases h with h | ⟨e3, h⟩
      · rcases k with k | ⟨e4, k⟩
        · exact .inl (ltS_trans _ _ _ h k)
        · rw [← e4]; exact .inl h
      · rcases k with k | ⟨e4, k⟩
        · rw [e3]; exact .inl k
        · exact .inr ⟨e3.trans e4, by omega⟩
theorem ordC_total {a b : Cm} (h : ¬ ordC a b < 0) (k : ordC a b ≠ 0) : ordC b a < 0 := by
  rw [ordC_neg] at *
  rw [Ne, ordC_zero] at k
  by_cases h1 : a.group = b.group
  · refine .inr ⟨h1.symm, ?_⟩
    by_cases h2 : a.topic = b.topic
    · refine .inr ⟨h2.symm, ?_⟩
      have h3 : a.index ≠ b.index := fun e => k ⟨h1, h2, e⟩
      have h4 : ¬ a.index < b.index := fun e => h (.inr ⟨h1, .inr ⟨h2, e⟩⟩)
      omega
    · refine .inl ?_
      cases e : Op.bytesLess b.topic a.topic with
      | true => rfl
      | false =>
        cases f : Op.bytesLess a.topic b.topic with
        | true => exact absurd (.inr ⟨h1, .inl f⟩) h
        | false => exact absurd (ltS_total _ _ f e) h2
  · refine .inl ?_
    cases e : Op.bytesLess b.group a.group with
    | true => rfl
    | false =>
      cases f : Op.bytesLess a.group b.group with
      | true => exact absurd (.inl f) h
      | false => exact absurd (ltS_total _ _ f e) h1
theorem ordC_irrefl (a : Cm) : ¬ ordC a a < 0 := by
  have : ordC a a = 0 := ordC_zero.2 ⟨rfl, rfl, rfl⟩
  omega
theorem ordC_symm {a b : Cm} (h : ordC a b = 0) : ordC b a = 0 := by
  rw [ordC_zero] at *
  exact ⟨h.1.symm, h.2.1.symm, h.2.2.symm⟩
theorem ordC_congr {a b c : Cm} (h : ordC a b = 0) : ordC a c = ordC b c ∧ ordC c a = ordC c b := by
  rw [ordC_zero] at h
  unfold ordC
  rw [h.1, h.2.1, h.2.2]
  exact ⟨rfl, rfl⟩

/-! ### What is played -/
def Sorted (l : List Cm) : Prop := l.Pairwise fun a b => ordC a b < 0
theorem insC_nil (c : Cm) : insC [] c = [c] := rfl
theorem insC_cons_ge {x c : Cm} {l : List Cm} (h : 0 ≤ ordC x c) : insC (x :: l) c = c :: x :: l := by
  unfold insC
  rw [find_found (j := 0) (by simp) (by unfold geC; simpa using h) (fun t _ ht => absurd ht (Nat.not_lt_zero t))]
  rfl
theorem insC_cons_lt {x c : Cm} {l : List Cm} (h : ordC x c < 0) : insC (x :: l) c = x :: insC l c := by
  have h1 : geC c x = false := by unfold geC; rw [decide_eq_false_iff_not]; omega
  unfold insC
  rw [List.findIdx?_cons, h1]
  cases l.findIdx? (geC c) <;> simp
theorem putC_nil (c : Cm) : putC [] c = [c] := rfl
theorem putC_cons_is {x c : Cm} {l : List Cm} (h : ordC x c = 0) : putC (x :: l) c = c :: l := by
  unfold putC
  rw [find_found (j := 0) (by simp) (by unfold isC; simpa using h) (fun t _ ht => absurd ht (Nat.not_lt_zero t))]
  rfl
theorem putC_cons_lt {x c : Cm} {l : List Cm} (h : ordC x c < 0) : putC (x :: l) c = x :: putC l c := by
  have h1 : isC c x = false := by unfold isC; rw [beq_eq_false_iff_ne]; omega
  unfold putC
  rw [List.findIdx?_cons, h1]
  cases l.findIdx? (isC c) with
  | some i => simp
  | none => simp [insC_cons_lt h]
theorem putC_cons_gt {x c : Cm} {l : List Cm} (hs : Sorted (x :: l)) (h : 0 < ordC x c) : putC (x :: l) c = c :: x :: l := by
  unfold putC
  have hn : (x :: l).findIdx? (isC c) = none := by
    rw [List.findIdx?_eq_none_iff]
    intro y hy
    unfold isC
    rw [beq_eq_false_iff_ne]
    rcases List.mem_cons.1 hy with rfl | hy
    · omega
    · intro e
      have h1 : ordC x y < 0 := (List.pairwise_cons.1 hs).1 y hy
      rw [(ordC_congr (c := x) e).2] at h1
      omega
  rw [hn]
  exact insC_cons_ge (by omega)
theorem mem_putC : ∀ {l : List Cm} {c x : Cm}, Sorted l → (x ∈ putC l c ↔ x = c ∨ x ∈ l ∧ ordC x c ≠ 0)
  | [], c, x, _ => by rw [putC_nil]; simp
  | y :: l, c, x, hs => by
    have hp := List.pairwise_cons.1 hs
    by_cases h0 : ordC y c = 0
    · rw [putC_cons_is h0, List.mem_cons, List.mem_cons]
      constructor
      · rintro (h | h)
        · exact .inl h
        · refine .inr ⟨.inr h, fun e => ?_⟩
          have h1 := hp.1 x h
          rw [(ordC_congr (c := y) e).2] at h1
          omega
      · rintro (h | ⟨rfl | h, k⟩)
        · exact .inl h
        · exact absurd h0 k
        · exact .inr h
    · by_cases h1 : ordC y c < 0
      · rw [putC_cons_lt h1, List.mem_cons, mem_putC hp.2, List.mem_cons]
        constructor
        · rintro (rfl | h | h)
          · exact .inr ⟨.inl rfl, h0⟩
          · exact .inl h
          · exact .inr ⟨.inr h.1, h.2⟩
        · rintro (h | ⟨rfl | h, k⟩)
          · exact .inr (.inl h)
          · exact .inl rfl
          · exact .inr (.inr ⟨h, k⟩)
      · rw [putC_cons_gt hs (by omega), List.mem_cons]
        constructor
        · rintro (h | h)
          · exact .inl h
          · refine .inr ⟨h, fun e => ?_⟩
            rcases List.mem_cons.1 h with rfl | h
            · exact h0 e
            · have h2 := hp.1 x h
              rw [(ordC_congr (c := y) e).2] at h2
              exact h1 h2
        · rintro (h | h)
          · exact .inl h
          · exact .inr h.1
theorem sorted_putC : ∀ {l : List Cm} {c : Cm}, Sorted l → Sorted (putC l c)
  | [], c, _ => by rw [putC_nil]; exact List.pairwise_singleton _ _
  | y :: l, c, hs => by
    have hp := List.pairwise_cons.1 hs
    by_cases h0 : ordC y c = 0
    · rw [putC_cons_is h0]
      exact List.pairwise_cons.2 ⟨fun z hz => by rw [← (ordC_congr (c := z) h0).1]; exact hp.1 z hz, hp.2⟩
    · by_cases h1 : ordC y c < 0
      · rw [putC_cons_lt h1]
        refine List.pairwise_cons.2 ⟨fun z hz => ?_, sorted_putC hp.2⟩
        rcases (mem_putC hp.2).1 hz with rfl | ⟨h, _⟩
        · exact h1
        · exact hp.1 z h
      · rw [putC_cons_gt hs (by omega)]
        have h2 := ordC_total h1 h0
        refine List.pairwise_cons.2 ⟨fun z hz => ?_, hs⟩
        rcases List.mem_cons.1 hz with rfl | h
        · exact h2
        · exact ordC_trans h2 (hp.1 z h)
theorem sorted_ext : ∀ {l m : List Cm}, Sorted l → Sorted m → (∀ x, x ∈ l ↔ x ∈ m) → l = m
  | [], [], _, _, _ => rfl
  | [], b :: m, _, _, h => by have := (h b).2 (List.mem_cons_self ..); simp at this
  | a :: l, [], _, _, h => by have := (h a).1 (List.mem_cons_self ..); simp at this
  | a :: l, b :: m, hl, hm, h => by
    have hp := List.pairwise_cons.1 hl
    have hq := List.pairwise_cons.1 hm
    have hab : a = b := by
      rcases List.mem_cons.1 ((h a).1 (List.mem_cons_self ..)) with e | e
      · exact e
      · rcases List.mem_cons.1 ((h b).2 (List.mem_cons_self ..)) with f | f
        · exact f.symm
        · exact absurd (ordC_trans (hp.1 b f) (hq.1 a e)) (ordC_irrefl a)
    subst hab
    rw [sorted_ext hp.2 hq.2 fun x => ?_]
    constructor
    · intro hx
      rcases List.mem_cons.1 ((h x).1 (List.mem_cons_of_mem _ hx)) with e | e
      · subst e; exact absurd (hp.1 x hx) (ordC_irrefl x)
      · exact e
    · intro hx
      rcases List.mem_cons.1 ((h x).2 (List.mem_cons_of_mem _ hx)) with e | e
      · subst e; exact absurd (hq.1 x hx) (ordC_irrefl x)
      · exact e
/-- What is left of commits of which each key's last one counts. -/
def lastsC : List Cm → List Cm
  | [] => []
  | c :: r => if r.any (isC c) then lastsC r else c :: lastsC r
theorem fold_sorted : ∀ (cs l : List Cm), Sorted l → Sorted (cs.foldl putC l)
  | [], _, h => h
  | c :: r, l, h => fold_sorted r (putC l c) (sorted_putC h)
theorem fold_mem : ∀ (cs l : List Cm) (x : Cm), Sorted l → (x ∈ cs.foldl putC l ↔ x ∈ lastsC cs ∨ x ∈ l ∧ ∀ c ∈ cs, ordC x c ≠ 0)
  | [], l, x, _ => by simp [lastsC]
  | c :: r, l, x, h => by
    rw [List.foldl_cons, fold_mem r (putC l c) x (sorted_putC h), mem_putC h]
    have hany : r.any (isC c) = true ↔ ∃ d ∈ r, ordC d c = 0 := by
      rw [List.any_eq_true]
      constructor
      · rintro ⟨d, h1, h2⟩; exact ⟨d, h1, by unfold isC at h2; simpa using h2⟩
      · rintro ⟨d, h1, h2⟩; exact ⟨d, h1, by unfold isC; simpa using h2⟩
    by_cases ha : r.any (isC c) = true
    · rw [show lastsC (c :: r) = lastsC r by rw [lastsC, if_pos ha]]
      obtain ⟨d, hd, he⟩ := hany.1 ha
      constructor
      · rintro (h1 | ⟨rfl | ⟨h1, h2⟩, h3⟩)
        · exact .inl h1
        · exact absurd (ordC_symm he) (h3 d hd)
        · refine .inr ⟨h1, fun e hx => ?_⟩
          rcases List.mem_cons.1 hx with rfl | hx
          · exact h2
          · exact h3 e hx
      · rintro (h1 | ⟨h1, h2⟩)
        · exact .inl h1
        · exact .inr ⟨.inr ⟨h1, h2 c (List.mem_cons_self ..)⟩, fun e hx => h2 e (List.mem_cons_of_mem _ hx)⟩
    · rw [show lastsC (c :: r) = c :: lastsC r by rw [lastsC, if_neg ha], List.mem_cons]
      have hno : ∀ d ∈ r, ordC c d ≠ 0 := fun d hd e => ha (hany.2 ⟨d, hd, ordC_symm e⟩)
      constructor
      · rintro (h1 | ⟨rfl | ⟨h1, h2⟩, h3⟩)
        · exact .inl (.inr h1)
        · exact .inl (.inl rfl)
        · refine .inr ⟨h1, fun e hx => ?_⟩
          rcases List.mem_cons.1 hx with rfl | hx
          · exact h2
          · exact h3 e hx
      · rintro ((rfl | h1) | ⟨h1, h2⟩)
        · exact .inr ⟨.inl rfl, hno⟩
        · exact .inl h1
        · exact .inr ⟨.inr ⟨h1, h2 c (List.mem_cons_self ..)⟩, fun e hx => h2 e (List.mem_cons_of_mem _ hx)⟩
theorem lastsC_mem : ∀ {cs : List Cm} {x : Cm}, x ∈ lastsC cs → x ∈ cs
  | [], _, h => h
  | c :: r, x, h => by
    unfold lastsC at h
    split at h
    · exact List.mem_cons_of_mem _ (lastsC_mem h)
    · rcases List.mem_cons.1 h with rfl | h
      · exact List.mem_cons_self ..
      · exact List.mem_cons_of_mem _ (lastsC_mem h)
theorem lastsC_twice : ∀ cs : List Cm, lastsC (lastsC cs) = lastsC cs
  | [] => rfl
  | c :: r => by
    by_cases ha : r.any (isC c) = true
    · have e : lastsC (c :: r) = lastsC r := by rw [lastsC, if_pos ha]
      rw [e, lastsC_twice r]
    · have e : lastsC (c :: r) = c :: lastsC r := by rw [lastsC, if_neg ha]
      have hb : ¬ (lastsC r).any (isC c) = true := fun h => by
        rw [List.any_eq_true] at h
        obtain ⟨d, h1, h2⟩ := h
        exact ha (List.any_eq_true.2 ⟨d, lastsC_mem h1, h2⟩)
      rw [e, lastsC, if_neg hb, lastsC_twice r]
/-- Commits of which each key's last one is left are played to the same. -/
theorem fold_lasts (cs : List Cm) : (lastsC cs).foldl putC [] = cs.foldl putC [] := by
  refine sorted_ext (fold_sorted _ _ List.Pairwise.nil) (fold_sorted _ _ List.Pairwise.nil) fun x => ?_
  rw [fold_mem _ _ _ List.Pairwise.nil, fold_mem _ _ _ List.Pairwise.nil, lastsC_twice]
  simp
end Go.Proofs.Ytdklpenpmeplfaa
