/- Plain laws of keys that are added one behind the other. No program here. -/
import Derived.Test.YthlhhnkalknidaaBmL
namespace Go.Proofs.Ythlhhnkalknidaa

/-- The set with the first i keys. -/
def sB (s : SetB) (K : List (List UInt8)) : Nat → SetB
  | 0 => s
  | i + 1 => addB (sB s K i) (K.getD i [])
/-- The set with every other one of them. -/
def oB (s : SetB) (K : List (List UInt8)) : Nat → SetB
  | 0 => s
  | i + 1 => if i % 2 = 0 then addB (oB s K i) (K.getD i []) else oB s K i
theorem sB_facts (s : SetB) (K : List (List UInt8)) (hg : goodB s) : ∀ i, goodB (sB s K i) ∧ (sB s K i).bits.length = s.bits.length ∧ (sB s K i).each = s.each ∧ (sB s K i).n = min (s.n + i) 1099511627776 ∧
    ∀ q, bitAt (sB s K i).bits q = true ↔ bitAt s.bits q = true ∨ ∃ j, j < i ∧ q ∈ placesL s.bits.length s.each (K.getD j [])
  | 0 => by
    refine ⟨hg, rfl, rfl, ?_, fun q => by simp [sB]⟩
    have := hg.2.2.2.2.2
    simp only [sB]
    omega
  | i + 1 => by
    obtain ⟨h1, h2, h3, h4, h5⟩ := sB_facts s K hg i
    obtain ⟨a1, a2, a3, a4⟩ := addB_bits (sB s K i) (K.getD i []) h1
    refine ⟨goodB_add _ _ h1, by show (addB _ _).bits.length = _; rw [a1, h2], by show (addB _ _).each = _; rw [a2, h3], ?_, fun q => ?_⟩
    · show (addB _ _).n = _
      rw [a3, h4]
      omega
    · show bitAt (addB (sB s K i) (K.getD i [])).bits q = true ↔ _
      rw [a4, h2, h3, Bool.or_eq_true, h5, decide_eq_true_eq]
      constructor
      · rintro ((h | ⟨j, hj, hq⟩) | h)
        · exact .inl h
        · exact .inr ⟨j, by omega, hq⟩
        · exact .inr ⟨i, by omega, h⟩
      · rintro (h | ⟨j, hj, hq⟩)
        · exact .inl (.inl h)
        · by_cases e : j = i
          · subst e; exact .inr hq
          · exact .inl (.inr ⟨j, by omega, hq⟩)
theorem oB_facts (s : SetB) (K : List (List UInt8)) (hg : goodB s) : ∀ i, goodB (oB s K i) ∧ (oB s K i).bits.length = s.bits.length ∧ (oB s K i).each = s.each ∧ (oB s K i).n ≤ s.n + i ∧
    ∀ q, bitAt (oB s K i).bits q = true ↔ bitAt s.bits q = true ∨ ∃ j, j < i ∧ j % 2 = 0 ∧ q ∈ placesL s.bits.length s.each (K.getD j [])
  | 0 => ⟨hg, rfl, rfl, by simp [oB], fun q => by simp [oB]⟩
  | i + 1 => by
    obtain ⟨h1, h2, h3, h4, h5⟩ := oB_facts s K hg i
    by_cases he : i % 2 = 0
    · have e1 : oB s K (i + 1) = addB (oB s K i) (K.getD i []) := by simp only [oB]; rw [if_pos he]
      obtain ⟨a1, a2, a3, a4⟩ := addB_bits (oB s K i) (K.getD i []) h1
      rw [e1]
      refine ⟨goodB_add _ _ h1, by rw [a1, h2], by rw [a2, h3], by rw [a3]; omega, fun q => ?_⟩
      rw [a4, h2, h3, Bool.or_eq_true, h5, decide_eq_true_eq]
      constructor
      · rintro ((h | ⟨j, hj, hq⟩) | h)
        · exact .inl h
        · exact .inr ⟨j, by omega, hq⟩
        · exact .inr ⟨i, by omega, he, h⟩
      · rintro (h | ⟨j, hj, hj2, hq⟩)
        · exact .inl (.inl h)
        · by_cases e : j = i
          · subst e; exact .inr hq
          · exact .inl (.inr ⟨j, by omega, hj2, hq⟩)
    · have e1 : oB s K (i + 1) = oB s K i := by simp only [oB]; rw [if_neg he]
      rw [e1]
      refine ⟨h1, h2, h3, by omega, fun q => ?_⟩
      rw [h5]
      constructor
      · rintro (h | ⟨j, hj, hq⟩)
        · exact .inl h
        · exact .inr ⟨j, by omega, hq⟩
      · rintro (h | ⟨j, hj, hj2, hq⟩)
        · exact .inl h
        · exact .inr ⟨j, by have : j ≠ i := fun e => he (e ▸ hj2); omega, hj2, hq⟩
theorem oB_sub (s : SetB) (K : List (List UInt8)) (hg : goodB s) (i : Nat) : Sub (oB s K i).bits (sB s K i).bits := fun q hq => by
  rw [(oB_facts s K hg i).2.2.2.2] at hq
  rw [(sB_facts s K hg i).2.2.2.2]
  rcases hq with h | ⟨j, hj, _, h⟩
  · exact .inl h
  · exact .inr ⟨j, hj, h⟩
theorem sB_mono (s : SetB) (K : List (List UInt8)) (hg : goodB s) (i : Nat) : fullL (sB s K i).bits ≤ fullL (sB s K (i + 1)).bits := by
  refine full_mono _ _ (by rw [(sB_facts s K hg i).2.1, (sB_facts s K hg (i + 1)).2.1]) fun q hq => ?_
  rw [(sB_facts s K hg i).2.2.2.2] at hq
  rw [(sB_facts s K hg (i + 1)).2.2.2.2]
  rcases hq with h | ⟨j, hj, h⟩
  · exact .inl h
  · exact .inr ⟨j, by omega, h⟩
theorem sB_has (s : SetB) (K : List (List UInt8)) (hg : goodB s) {i j : Nat} (hj : j < i) : hasB (sB s K i) (K.getD j []) = true := by
  obtain ⟨h1, h2, h3, h4, h5⟩ := sB_facts s K hg i
  rw [hasB_iff _ _ h1, h2, h3]
  exact fun q hq => (h5 q).2 (.inr ⟨j, hj, hq⟩)
theorem oB_has (s : SetB) (K : List (List UInt8)) (hg : goodB s) {i j : Nat} (hj : j < i) (he : j % 2 = 0) : hasB (oB s K i) (K.getD j []) = true := by
  obtain ⟨h1, h2, h3, h4, h5⟩ := oB_facts s K hg i
  rw [hasB_iff _ _ h1, h2, h3]
  exact fun q hq => (h5 q).2 (.inr ⟨j, hj, he, hq⟩)
/-- In whatever order keys are added, the set is the same. -/
theorem sB_turn (s : SetB) (K : List (List UInt8)) (hg : goodB s) : sB s K.reverse K.length = sB s K K.length := by
  obtain ⟨h1, h2, h3, h4, h5⟩ := sB_facts s K hg K.length
  obtain ⟨k1, k2, k3, k4, k5⟩ := sB_facts s K.reverse hg K.length
  have hb : (sB s K.reverse K.length).bits = (sB s K K.length).bits := by
    refine bits_ext _ _ (by rw [h2, k2]) fun q _ => ?_
    have hrev : ∀ j, j < K.length → K.reverse.getD j [] = K.getD (K.length - 1 - j) [] := fun j hj => by
      rw [List.getD_eq_getElem?_getD, List.getElem?_reverse hj, List.getD_eq_getElem?_getD]
    have : bitAt (sB s K.reverse K.length).bits q = true ↔ bitAt (sB s K K.length).bits q = true := by
      rw [h5, k5]
      constructor
      · rintro (h | ⟨j, hj, hq⟩)
        · exact .inl h
        · exact .inr ⟨K.length - 1 - j, by omega, by rw [← hrev j hj]; exact hq⟩
      · rintro (h | ⟨j, hj, hq⟩)
        · exact .inl h
        · refine .inr ⟨K.length - 1 - j, by omega, ?_⟩
          rw [hrev _ (by omega), show K.length - 1 - (K.length - 1 - j) = j by omega]
          exact hq
    cases h6 : bitAt (sB s K.reverse K.length).bits q <;> cases h7 : bitAt (sB s K K.length).bits q <;> simp_all
  cases ha : sB s K.reverse K.length with
  | mk b e n =>
    cases hc : sB s K K.length with
    | mk b' e' n' =>
      rw [ha] at hb k3 k4
      rw [hc] at hb h3 h4
      simp only at hb k3 k4 h3 h4
      subst hb
      rw [k3, k4, h3, h4]
theorem sB_sub (s : SetB) (K : List (List UInt8)) (hg : goodB s) (i : Nat) : Sub s.bits (sB s K i).bits := fun q hq => ((sB_facts s K hg i).2.2.2.2 q).2 (.inl hq)
/-- What a walk asks of one round. -/
theorem keep_round (s : SetB) (K : List (List UInt8)) (hg : goodB s) (hn : s.n = 0) (hM : s.bits.length ≤ 64) (j : Nat) (hj : j < 1000) :
    (sB s K j).bits.length ≤ 5000 ∧ 0 ≤ (sB s K j).n ∧ (sB s K j).n ≤ 1099511627776 ∧ (sB s K (j + 1)).bits.length ≤ 5000 ∧ ((sB s K (j + 1)).n != (j : Int) + 1) = false ∧ (oB s K j).bits.length ≤ 5000 ∧ 0 ≤ (oB s K j).n ∧ (oB s K j).n ≤ 1099511627776 ∧
    ¬ ((fullL (sB s K (j + 1)).bits : Nat) : Int) < ((fullL (sB s K j).bits : Nat) : Int) := by
  obtain ⟨f1, f2, f3, f4, _⟩ := sB_facts s K hg j
  obtain ⟨q1, q2, q3, q4, _⟩ := sB_facts s K hg (j + 1)
  obtain ⟨o1, o2, o3, o4, _⟩ := oB_facts s K hg j
  have hmono := sB_mono s K hg j
  unfold goodB at f1 o1
  obtain ⟨_, _, _, _, f5, f6⟩ := f1
  obtain ⟨_, _, _, _, o5, o6⟩ := o1
  have e1 : (sB s K j).bits.length ≤ 5000 := by rw [f2]; exact Nat.le_trans hM (by decide)
  have e2 : (sB s K (j + 1)).bits.length ≤ 5000 := by rw [q2]; exact Nat.le_trans hM (by decide)
  have e3 : (oB s K j).bits.length ≤ 5000 := by rw [o2]; exact Nat.le_trans hM (by decide)
  have e4 : (sB s K (j + 1)).n = (j : Int) + 1 := by
    have h1 : (0 : Int) + ((j + 1 : Nat) : Int) ≤ 1000 := by omega
    rw [q4, hn, Int.min_eq_left (Int.le_trans h1 (by decide))]
    omega
  exact ⟨e1, f5, f6, e2, by rw [bne_eq_false_iff_eq]; exact e4, e3, o5, o6, by omega⟩
/-- What a walk asks at the end. -/
theorem keep_end (s : SetB) (K : List (List UInt8)) (hg : goodB s) (n : Nat) :
    joinS (oB s K n) (sB s K n) = (⟨(sB s K n).bits, (oB s K n).each, min ((oB s K n).n + (sB s K n).n) 1099511627776⟩, 0) ∧
    (∀ j, j < n → hasB ⟨(sB s K n).bits, (oB s K n).each, min ((oB s K n).n + (sB s K n).n) 1099511627776⟩ (K.getD j []) = true) := by
  obtain ⟨f1, f2, f3, f4, _⟩ := sB_facts s K hg n
  obtain ⟨o1, o2, o3, o4, _⟩ := oB_facts s K hg n
  have hl : (oB s K n).bits.length = (sB s K n).bits.length := by rw [o2, f2]
  refine ⟨by rw [join_good _ _ o1 f1 hl (by rw [o3, f3]), or_sub _ _ hl (oB_sub s K hg n)], fun j hj => ?_⟩
  have hgj : goodB ⟨(sB s K n).bits, (oB s K n).each, min ((oB s K n).n + (sB s K n).n) 1099511627776⟩ := by
    unfold goodB at f1 o1 ⊢
    simp only at f1 o1 ⊢
    omega
  rw [hasB_iff _ _ hgj]
  simp only
  have := (hasB_iff _ _ f1).1 (sB_has s K hg hj)
  rw [f3] at this
  rw [o3]
  exact this
end Go.Proofs.Ythlhhnkalknidaa
