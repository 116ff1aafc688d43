/- The heap of layer 34: what is told of it, in plain Lean. -/
import Derived.Test.YtmoljicchgcnfaaMg
namespace Go.Proofs.Ytmoljicchgcnfaa

/-! ### Its order -/
def HeapFrom (h : List Src) (k : Nat) : Prop := ∀ i, k ≤ i → ∀ j, (j = 2 * i + 1 ∨ j = 2 * i + 2) → j < h.length → bef h j i = false
structure HeapBut (h : List Src) (k i : Nat) : Prop where
  far : ∀ p, k ≤ p → p ≠ i → ∀ j, (j = 2 * p + 1 ∨ j = 2 * p + 2) → j < h.length → bef h j p = false
  over : ∀ p, k ≤ p → (i = 2 * p + 1 ∨ i = 2 * p + 2) → ∀ j, (j = 2 * i + 1 ∨ j = 2 * i + 2) → j < h.length → bef h j p = false
theorem at_swap (h : List Src) {i k : Nat} (hi : i < h.length) (hk : k < h.length) (x : Nat) : at_ (swap h i k) x = if x = k then at_ h i else if x = i then at_ h k else at_ h x := by
  unfold at_ swap at_
  rw [List.getD_eq_getElem?_getD, List.getElem?_set, List.length_set]
  by_cases e : x = k
  · subst e
    rw [if_pos rfl, if_pos rfl, if_pos hk]
    rfl
  · rw [if_neg (Ne.symm e), if_neg e, List.getElem?_set]
    by_cases e2 : x = i
    · subst e2
      rw [if_pos rfl, if_pos rfl, if_pos hi]
      rfl
    · rw [if_neg (Ne.symm e2), if_neg e2, ← List.getD_eq_getElem?_getD]
theorem least_stop {h : List Src} {i : Nat} (hl : least h i = i) : ∀ j, (j = 2 * i + 1 ∨ j = 2 * i + 2) → j < h.length → bef h j i = false := by
  unfold least at hl
  have h1 : pick1 h (2 * i + 1) i = i := by
    rcases pick1_cases h (2 * i + 1) i with e | ⟨e, _⟩
    · exact e
    · rw [e] at hl
      rcases pick1_cases h (2 * i + 2) (2 * i + 1) with e2 | ⟨e2, _⟩ <;> omega
  rw [h1] at hl
  intro j hj hlt
  rcases hj with rfl | rfl
  · unfold pick1 at h1
    split at h1
    · omega
    · rename_i hc
      cases hb : bef h (2 * i + 1) i with
      | false => rfl
      | true => exact absurd ⟨hlt, hb⟩ hc
  · unfold pick1 at hl
    split at hl
    · omega
    · rename_i hc
      cases hb : bef h (2 * i + 2) i with
      | false => rfl
      | true => exact absurd ⟨hlt, hb⟩ hc
theorem least_go {h : List Src} {i : Nat} (hl : least h i ≠ i) : (least h i = 2 * i + 1 ∨ least h i = 2 * i + 2) ∧ least h i < h.length ∧ bef h i (least h i) = false ∧ ∀ o, (o = 2 * i + 1 ∨ o = 2 * i + 2) → o < h.length → bef h o (least h i) = false := by
  unfold least at *
  unfold pick1 at *
  by_cases c1 : 2 * i + 1 < h.length ∧ bef h (2 * i + 1) i = true
  · rw [if_pos c1] at *
    by_cases c2 : 2 * i + 2 < h.length ∧ bef h (2 * i + 2) (2 * i + 1) = true
    · rw [if_pos c2] at *
      refine ⟨.inr rfl, c2.1, ?_, ?_⟩
      · exact leI_trans (lessI_asymm c2.2) (lessI_asymm c1.2)
      · rintro o (rfl | rfl) _
        · exact lessI_asymm c2.2
        · exact lessI_irrefl _
    · rw [if_neg c2] at *
      refine ⟨.inl rfl, c1.1, lessI_asymm c1.2, ?_⟩
      rintro o (rfl | rfl) ho
      · exact lessI_irrefl _
      · cases hb : bef h (2 * i + 2) (2 * i + 1) with
        | false => rfl
        | true => exact absurd ⟨ho, hb⟩ c2
  · rw [if_neg c1] at *
    by_cases c2 : 2 * i + 2 < h.length ∧ bef h (2 * i + 2) i = true
    · rw [if_pos c2] at *
      refine ⟨.inr rfl, c2.1, lessI_asymm c2.2, ?_⟩
      rintro o (rfl | rfl) ho
      · have h1 : bef h (2 * i + 1) i = false := by
          cases hb : bef h (2 * i + 1) i with
          | false => rfl
          | true => exact absurd ⟨ho, hb⟩ c1
        exact leI_trans (lessI_asymm c2.2) h1
      · exact lessI_irrefl _
    · rw [if_neg c2] at hl
      exact absurd rfl hl
theorem downH_heap : ∀ (f : Nat) (h : List Src) (i k : Nat), h.length - i ≤ f → i < h.length → k ≤ i → HeapBut h k i → HeapFrom (downH f h i) k
  | 0, h, i, k, hf, hi, _, _ => by omega
  | f + 1, h, i, k, hf, hi, hk, hb => by
    unfold downH
    by_cases hl : least h i = i
    · rw [if_pos hl]
      intro p hp j hj hlt
      by_cases e : p = i
      · subst e; exact least_stop hl j hj hlt
      · exact hb.far p hp e j hj hlt
    · rw [if_neg hl]
      obtain ⟨hm, hml, h1, h2⟩ := least_go hl
      generalize least h i = m at *
      have him : i < m := by omega
      refine downH_heap f _ m k (by rw [swap_length]; omega) (by rw [swap_length]; exact hml) (by omega) ⟨?_, ?_⟩
      · intro p hp hpm j hj hlt
        rw [swap_length] at hlt
        unfold bef
        rw [at_swap h hi hml, at_swap h hi hml]
        rw [if_neg hpm]
        by_cases e : p = i
        · subst e
          rw [if_pos rfl]
          by_cases e2 : j = m
          · rw [if_pos e2]; exact h1
          · rw [if_neg e2, if_neg (by omega)]; exact h2 j hj hlt
        · rw [if_neg e, if_neg (show ¬ j = m by omega)]
          by_cases e2 : j = i
          · rw [if_pos e2]
            exact hb.over p hp (by omega) m hm hml
          · rw [if_neg e2]
            exact hb.far p hp e j hj hlt
      · intro p hp hpm j hj hlt
        rw [swap_length] at hlt
        have e : p = i := by omega
        subst e
        unfold bef
        rw [at_swap h hi hml, at_swap h hi hml, if_neg (show ¬ j = m by omega), if_neg (show ¬ j = p by omega), if_neg (show ¬ p = m by omega), if_pos rfl]
        exact hb.far m (by omega) (by omega) j hj hlt
theorem downI_heap {h : List Src} {i k : Nat} (hi : i < h.length) (hk : k ≤ i) (hb : HeapBut h k i) : HeapFrom (downI h i) k := downH_heap _ _ _ _ (by omega) hi hk hb
theorem buildH_heap : ∀ (n : Nat) (h : List Src), n ≤ h.length → HeapFrom h n → HeapFrom (buildH n h) 0
  | 0, _, _, hf => hf
  | n + 1, h, hn, hf => by
    unfold buildH
    refine buildH_heap n _ (by rw [downI_length]; omega) (downI_heap (by omega) (Nat.le_refl _) ⟨?_, ?_⟩)
    · intro p hp hpn j hj hlt
      exact hf p (by omega) j hj hlt
    · intro p hp hpn
      omega
theorem heap_top {h : List Src} (hf : HeapFrom h 0) : ∀ i, i < h.length → bef h i 0 = false := by
  intro i
  induction i using Nat.strongRecOn with
  | _ i ih =>
    intro hi
    by_cases e : i = 0
    · subst e; exact lessI_irrefl _
    · have h1 := hf ((i - 1) / 2) (Nat.zero_le _) i (by omega) hi
      have h2 := ih ((i - 1) / 2) (by omega) (by omega)
      exact leI_trans h2 h1

/-! ### What is in it -/
theorem set_perm {α : Type} (d x : α) : ∀ (h : List α) (i : Nat), i < h.length → (h.getD i d :: h.set i x).Perm (x :: h)
  | [], _, hi => by simp at hi
  | a :: r, 0, _ => by simpa using List.Perm.swap x a r
  | a :: r, i + 1, hi => by
    have ih := set_perm d x r i (by simpa using hi)
    simp only [List.getD_cons_succ, List.set_cons_succ]
    exact ((List.Perm.swap a (r.getD i d) (r.set i x)).trans (ih.cons a)).trans (List.Perm.swap x a r)
theorem swap_perm (h : List Src) {i k : Nat} (hi : i < h.length) (hk : k < h.length) : (swap h i k).Perm h := by
  unfold swap
  by_cases e : i = k
  · subst e
    unfold at_
    rw [List.set_set, List.getD_eq_getElem?_getD, List.getElem?_eq_getElem hi]
    simp
  · have h1 := set_perm [] (at_ h k) h i hi
    have h2 := set_perm [] (at_ h i) (h.set i (at_ h k)) k (by rw [List.length_set]; exact hk)
    have e3 : (h.set i (at_ h k)).getD k [] = at_ h k := by
      rw [List.getD_eq_getElem?_getD, List.getElem?_set, if_neg e]
      rfl
    rw [e3] at h2
    exact (h2.trans h1).cons_inv
theorem downH_perm : ∀ (f : Nat) (h : List Src) (i : Nat), (downH f h i).Perm h
  | 0, _, _ => List.Perm.refl _
  | f + 1, h, i => by
    unfold downH
    rcases least_cases h i with e | ⟨e1, e2⟩
    · rw [if_pos e]
    · rw [if_neg (by omega)]
      exact (downH_perm f _ _).trans (swap_perm h (by omega) e2)
theorem downI_perm (h : List Src) (i : Nat) : (downI h i).Perm h := downH_perm _ _ _
theorem buildH_perm : ∀ (n : Nat) (h : List Src), (buildH n h).Perm h
  | 0, _ => List.Perm.refl _
  | n + 1, h => by unfold buildH; exact (buildH_perm n _).trans (downI_perm _ _)
theorem drop_perm (s : Src) (r : List Src) : (dropH (s :: r)).Perm (if s.tail.isEmpty then r else s.tail :: r) := by
  unfold dropH at_
  simp only [List.getD_cons_zero]
  by_cases hs : s.tail.isEmpty = true
  · rw [if_pos hs, if_pos hs]
    rcases List.eq_nil_or_concat r with rfl | ⟨r', l, rfl⟩
    · simp
    · have e : ((s :: (r' ++ [l])).length - 1) = r'.length + 1 := by simp
      rw [List.concat_eq_append, e]
      simp only [List.getD_cons_succ, List.set_cons_zero, List.take_succ_cons]
      rw [List.take_left, List.getD_eq_getElem?_getD, List.getElem?_append_right (Nat.le_refl _)]
      simp only [Nat.sub_self, List.getElem?_cons_zero, Option.getD_some]
      exact List.perm_append_comm (l₁ := [l]) (l₂ := r')
  · rw [if_neg hs, if_neg hs]
    simp

/-- No source is empty. -/
def Full (h : List Src) : Prop := ∀ s ∈ h, s ≠ []
/-- No list has items in two sources. -/
def Apart (h : List Src) : Prop := h.Pairwise fun a b => ∀ x ∈ a, ∀ y ∈ b, x.list ≠ y.list
theorem Apart.perm {h h' : List Src} (hd : Apart h) (hp : h.Perm h') : Apart h' :=
  (hp.pairwise_iff (fun hab x hx y hy e => hab y hy x hx e.symm)).1 hd
def of_ (i : Int) (l : List Itm) : List Itm := l.filter fun x => x.list == i
theorem of_append (i : Int) (a b : List Itm) : of_ i (a ++ b) = of_ i a ++ of_ i b := List.filter_append ..
theorem of_none {i : Int} {a : List Itm} (h : ∀ x ∈ a, x.list ≠ i) : of_ i a = [] := by
  unfold of_
  rw [List.filter_eq_nil_iff]
  intro x hx
  simp [h x hx]
theorem of_perm {h h' : List Src} (hp : h.Perm h') (i : Int) : Apart h → of_ i h.flatten = of_ i h'.flatten := by
  induction hp with
  | nil => intro _; rfl
  | cons a _ ih =>
    intro hd
    rw [List.flatten_cons, List.flatten_cons, of_append, of_append, ih (List.pairwise_cons.1 hd).2]
  | swap a b r =>
    intro hd
    rw [List.flatten_cons, List.flatten_cons, List.flatten_cons, List.flatten_cons, of_append, of_append, of_append, of_append, ← List.append_assoc, ← List.append_assoc]
    congr 1
    have hab := (List.pairwise_cons.1 hd).1 a (List.mem_cons_self ..)
    by_cases he : of_ i a = []
    · rw [he]; simp
    · have hb0 : of_ i b = [] := by
        obtain ⟨x, hx⟩ := List.exists_mem_of_ne_nil _ he
        obtain ⟨hx1, hx2⟩ := List.mem_filter.1 hx
        refine of_none fun y hy e => hab y hy x hx1 (by rw [e]; exact (eq_of_beq hx2).symm)
      rw [hb0]; simp
  | trans h1 _ ih1 ih2 => intro hd; exact (ih1 hd).trans (ih2 (hd.perm h1))
theorem full_next {h : List Src} (hf : Full h) : Full (nextH h) := by
  intro s hs
  unfold nextH at hs
  rw [(downI_perm _ _).mem_iff] at hs
  cases h with
  | nil => unfold dropH at_ at hs; simp at hs
  | cons a r =>
    rw [(drop_perm a r).mem_iff] at hs
    by_cases ha : a.tail.isEmpty = true
    · rw [if_pos ha] at hs; exact hf s (List.mem_cons_of_mem _ hs)
    · rw [if_neg ha] at hs
      rcases List.mem_cons.1 hs with rfl | hs
      · intro e; rw [e] at ha; simp at ha
      · exact hf s (List.mem_cons_of_mem _ hs)
theorem rest_flatten (a : Src) (r : List Src) : (if a.tail.isEmpty = true then r else a.tail :: r).flatten = a.tail ++ r.flatten := by
  split
  · rename_i h; rw [List.isEmpty_iff.1 h]; rfl
  · rfl
theorem src_cons {a : Src} (h : a ≠ []) : a = hd a :: a.tail := by
  cases a with
  | nil => exact absurd rfl h
  | cons x r => rfl
theorem rest_apart {a : Src} {r : List Src} (hd : Apart (a :: r)) : Apart (if a.tail.isEmpty = true then r else a.tail :: r) := by
  have h1 := List.pairwise_cons.1 hd
  split
  · exact h1.2
  · exact List.pairwise_cons.2 ⟨fun b hb x hx y hy => h1.1 b hb x (List.mem_of_mem_tail hx) y hy, h1.2⟩
theorem apart_next {h : List Src} (hd : Apart h) : Apart (nextH h) := by
  unfold nextH
  cases h with
  | nil => exact hd.perm (by unfold downI dropH; simp [downH])
  | cons a r => exact (rest_apart hd).perm ((downI_perm _ _).trans (drop_perm a r)).symm
theorem of_next {h : List Src} (hn : h ≠ []) (hf : Full h) (hap : Apart h) (i : Int) : of_ i h.flatten = of_ i [topH h] ++ of_ i (nextH h).flatten := by
  cases h with
  | nil => exact absurd rfl hn
  | cons a r =>
    unfold nextH
    rw [of_perm ((downI_perm _ _).trans (drop_perm a r)) i (apart_next hap), rest_flatten, ← of_append, List.flatten_cons]
    show of_ i (a ++ r.flatten) = of_ i (hd a :: (a.tail ++ r.flatten))
    rw [← List.cons_append]
    have := src_cons (hf a (List.mem_cons_self ..))
    exact congrArg (fun z => of_ i (z ++ r.flatten)) this
theorem flat_next {h : List Src} (hn : h ≠ []) (hf : Full h) : h.flatten.Perm (topH h :: (nextH h).flatten) := by
  cases h with
  | nil => exact absurd rfl hn
  | cons a r =>
    have h1 : (nextH (a :: r)).flatten.Perm (a.tail ++ r.flatten) := by
      rw [← rest_flatten]
      exact ((downI_perm _ _).trans (drop_perm a r)).flatten
    refine List.Perm.trans ?_ (h1.symm.cons _)
    rw [List.flatten_cons, ← List.cons_append]
    have := src_cons (hf a (List.mem_cons_self ..))
    exact List.Perm.of_eq (congrArg (· ++ r.flatten) this)
theorem left_next {h : List Src} (hn : h ≠ []) (hf : Full h) : leftH h = leftH (nextH h) + 1 := by
  have := (flat_next hn hf).length_eq
  unfold leftH
  rw [this]
  rfl
theorem left_zero {h : List Src} (hf : Full h) (hl : leftH h = 0) : h = [] := by
  cases h with
  | nil => rfl
  | cons a r =>
    unfold leftH at hl
    rw [List.flatten_cons, List.length_append] at hl
    have : a = [] := List.eq_nil_of_length_eq_zero (by omega)
    exact absurd this (hf a (List.mem_cons_self ..))

/-! ### All that is told -/
theorem all_length : ∀ (f : Nat) (h : List Src), leftH h ≤ f → Full h → (allH f h).length = leftH h
  | 0, h, hl, _ => by unfold allH; simp; omega
  | f + 1, h, hl, hf => by
    unfold allH
    cases h with
    | nil => rfl
    | cons a r =>
      have h1 := left_next (h := a :: r) (by simp) hf
      simp only [List.isEmpty_cons, Bool.false_eq_true, if_false, List.length_cons]
      rw [all_length f _ (by omega) (full_next hf)]
      omega
theorem all_of (i : Int) : ∀ (f : Nat) (h : List Src), leftH h ≤ f → Full h → Apart h → of_ i (allH f h) = of_ i h.flatten
  | 0, h, hl, hf, _ => by rw [left_zero hf (by omega)]; rfl
  | f + 1, h, hl, hf, hd => by
    unfold allH
    cases h with
    | nil => rfl
    | cons a r =>
      have h1 := left_next (h := a :: r) (by simp) hf
      simp only [List.isEmpty_cons, Bool.false_eq_true, if_false]
      rw [of_next (by simp) hf hd, ← all_of i f (nextH (a :: r)) (by omega) (full_next hf) (apart_next hd), ← of_append]
      rfl
theorem all_mem : ∀ (f : Nat) (h : List Src), Full h → ∀ x ∈ allH f h, x ∈ h.flatten
  | 0, _, _, _, hx => by unfold allH at hx; simp at hx
  | f + 1, h, hf, x, hx => by
    unfold allH at hx
    cases h with
    | nil => simp at hx
    | cons a r =>
      simp only [List.isEmpty_cons, Bool.false_eq_true, if_false] at hx
      rw [(flat_next (h := a :: r) (by simp) hf).mem_iff]
      rcases List.mem_cons.1 hx with rfl | hx
      · exact List.mem_cons_self ..
      · exact List.mem_cons_of_mem _ (all_mem f _ (full_next hf) x hx)
end Go.Proofs.Ytmoljicchgcnfaa
