/- Batches that one producer puts one behind the other: what is told of them, in plain Lean. -/
import Derived.Test.YthiaaoiaabocfaaPrA
namespace Go.Proofs.Ythiaaoiaabocfaa

/-- Batches that follow one another from sequence 0 on, up to sequence q. -/
structure DL (L : List Sn) (q : Int) : Prop where
  all : ∀ s ∈ L, 0 ≤ s.seq ∧ 1 ≤ s.count ∧ s.count ≤ 32 ∧ s.seq + s.count ≤ q
  rise : L.Pairwise fun a b => a.seq + a.count ≤ b.seq
  last : ∀ s, L.getLast? = some s → s.seq + s.count = q
  none : L = [] → q = 0
  most : 0 ≤ q ∧ q ≤ 32 * L.length
theorem DL.nil : DL [] 0 := ⟨fun s h => (by cases h), List.Pairwise.nil, fun s h => (by simp at h), fun _ => rfl, (by simp)⟩
theorem DL.snoc {L : List Sn} {q c b : Int} (h : DL L q) (h1 : 1 ≤ c) (h2 : c ≤ 32) : DL (L ++ [⟨q, c, b⟩]) (q + c) := by
  have hm := h.most
  refine ⟨fun s hs => ?_, ?_, fun s hs => ?_, fun e => by simp at e, ?_⟩
  · rcases List.mem_append.1 hs with hs | hs
    · have := h.all s hs; omega
    · rw [List.mem_singleton] at hs; subst hs; simp only; omega
  · rw [List.pairwise_append]
    refine ⟨h.rise, List.pairwise_singleton .., fun a ha b hb => ?_⟩
    rw [List.mem_singleton] at hb
    subst hb
    exact (h.all a ha).2.2.2
  · rw [List.getLast?_append] at hs
    simp at hs
    subst hs
    rfl
  · rw [List.length_append, List.length_singleton]; omega
/-- The table behind them. -/
def tabD (ep : Int) (L : List Sn) : List Ent := if L = [] then [] else [⟨3, ep, L.drop (L.length - 5)⟩]
theorem tabD_nil (ep : Int) : tabD ep [] = [] := rfl
theorem tabD_cons {ep : Int} {L : List Sn} (h : L ≠ []) : tabD ep L = [⟨3, ep, L.drop (L.length - 5)⟩] := by unfold tabD; rw [if_neg h]
theorem findE_one (e : Ent) (h : e.id = 3) : findE [e] 3 = (e, true) := by
  unfold findE
  have : [e].findIdx? (isId 3) = some 0 := by simp [List.findIdx?_cons, isId, h]
  rw [this]
  rfl
theorem findD {ep : Int} {L : List Sn} (h : L ≠ []) : findE (tabD ep L) 3 = (⟨3, ep, L.drop (L.length - 5)⟩, true) := by
  rw [tabD_cons h]
  exact findE_one _ rfl
theorem last_drop {L : List Sn} (h : L ≠ []) : (L.drop (L.length - 5)).getD ((L.drop (L.length - 5)).length - 1) sn0 = L[L.length - 1]'(by have := List.length_pos_iff.2 h; omega) := by
  have hp := List.length_pos_iff.2 h
  have hl : (L.drop (L.length - 5)).length = L.length - (L.length - 5) := List.length_drop ..
  rw [List.getD_eq_getElem?_getD, hl, List.getElem?_drop, List.getElem?_eq_getElem (by omega)]
  simp only [Option.getD_some]
  congr 1
  omega
theorem DL.beh {L : List Sn} {q : Int} (h : DL L q) (hn : L ≠ []) (hl : L.length ≤ 20) : behS ((L.drop (L.length - 5)).getD ((L.drop (L.length - 5)).length - 1) sn0) = q := by
  rw [last_drop hn]
  have hp := List.length_pos_iff.2 hn
  have h1 := h.last (L[L.length - 1]'(by omega)) (by rw [List.getLast?_eq_getElem?, List.getElem?_eq_getElem (by omega)])
  have h2 := h.most
  unfold behS
  rw [h1]
  omega
theorem askD {ep : Int} {L : List Sn} (h : L ≠ []) (b : Bat) (hb : b.prod = 3) : askT behS (tabD ep L) b = askB behS ⟨3, ep, L.drop (L.length - 5)⟩ true b := by
  unfold askT
  rw [if_neg (by rw [hb]; decide), hb, findD h]
theorem ask_next {ep : Int} {L : List Sn} {q : Int} (h : DL L q) (hl : L.length ≤ 20) (b c : Int) (rs : List Rec) : askT behS (tabD ep L) ⟨b, c, 3, ep, q, rs⟩ = (0, false, 0) := by
  by_cases hn : L = []
  · subst hn
    rw [h.none rfl]
    rfl
  · rw [askD hn _ rfl]
    have hpos : 0 < (L.drop (L.length - 5)).length := by have := List.length_pos_iff.2 hn; rw [List.length_drop]; omega
    rw [askB_old (by rfl) hpos]
    have hno : (L.drop (L.length - 5)).findIdx? (isSn q c) = none := by
      rw [List.findIdx?_eq_none_iff]
      intro s hs
      have := h.all s (List.mem_of_mem_drop hs)
      unfold isSn
      rw [Bool.and_eq_false_iff]
      exact .inl (by simp; omega)
    simp only [hno, h.beh hn hl]
    rw [if_pos trivial]
theorem put_next {ep : Int} {L : List Sn} {q : Int} (b c : Int) (rs : List Rec) : putT (tabD ep L) ⟨b, c, 3, ep, q, rs⟩ = tabD ep (L ++ [⟨q, c, b⟩]) := by
  rw [tabD_cons (L := L ++ [(⟨q, c, b⟩ : Sn)]) (by simp)]
  by_cases hn : L = []
  · subst hn
    rfl
  · unfold putT
    rw [if_neg (by show ¬ (3 : Int) = 0; decide)]
    have hf : (tabD ep L).findIdx? (isId 3) = some 0 := by rw [tabD_cons hn]; simp [List.findIdx?_cons, isId]
    simp only [hf]
    have he : entP (tabD ep L) ⟨b, c, 3, ep, q, rs⟩ = ⟨3, ep, (L ++ [(⟨q, c, b⟩ : Sn)]).drop ((L ++ [(⟨q, c, b⟩ : Sn)]).length - 5)⟩ := by
      unfold entP lastP
      simp only [findD hn, Bool.true_and, beq_self_eq_true, if_true]
      unfold lastN
      simp only
      congr 1
      rw [← List.drop_append_of_le_length (by omega : L.length - 5 ≤ L.length), List.drop_drop, List.length_append, List.length_singleton, List.length_drop]
      congr 1
      omega
    rw [he, tabD_cons hn]
    rfl
theorem ask_late {ep : Int} {L : List Sn} {q : Int} (h : DL L q) {i : Nat} (hi : i < L.length) (h5 : L.length - i ≤ 5) (b : Int) (rs : List Rec) : askT behS (tabD ep L) ⟨b, L[i].count, 3, ep, L[i].seq, rs⟩ = (L[i].base, true, 0) := by
  have hn : L ≠ [] := fun e => by subst e; simp at hi
  have hd : (L.drop (L.length - 5)).length = L.length - (L.length - 5) := List.length_drop ..
  rw [askD hn _ rfl, askB_old (by rfl) (by simp only; omega)]
  have hj : i - (L.length - 5) < (L.drop (L.length - 5)).length := by omega
  have hget : (L.drop (L.length - 5))[i - (L.length - 5)] = L[i] := by
    rw [List.getElem_drop]
    congr 1
    omega
  have hf : (L.drop (L.length - 5)).findIdx? (isSn L[i].seq L[i].count) = some (i - (L.length - 5)) := by
    rw [List.findIdx?_eq_some_iff_getElem]
    refine ⟨hj, by rw [hget]; simp [isSn], fun k hk => ?_⟩
    have hr := List.pairwise_iff_getElem.1 h.rise (L.length - 5 + k) i (by omega) hi (by omega)
    have ha := h.all L[L.length - 5 + k] (List.getElem_mem _)
    rw [List.getElem_drop]
    unfold isSn
    simp
    intro e
    omega
  simp only [hf]
  rw [List.getD_eq_getElem?_getD, List.getElem?_eq_getElem hj, hget]
  rfl
theorem ask_early {ep : Int} {L : List Sn} {q : Int} (h : DL L q) (hl : L.length ≤ 20) {i : Nat} (hi : i < L.length) (h5 : ¬ L.length - i ≤ 5) (b : Int) (rs : List Rec) : askT behS (tabD ep L) ⟨b, L[i].count, 3, ep, L[i].seq, rs⟩ = (0, false, 16) := by
  have hn : L ≠ [] := fun e => by subst e; simp at hi
  have hd : (L.drop (L.length - 5)).length = L.length - (L.length - 5) := List.length_drop ..
  have hi2 := h.all L[i] (List.getElem_mem hi)
  rw [askD hn _ rfl, askB_old (by rfl) (by simp only; omega)]
  have hf : (L.drop (L.length - 5)).findIdx? (isSn L[i].seq L[i].count) = none := by
    rw [List.findIdx?_eq_none_iff]
    intro s hs
    obtain ⟨k, hk, rfl⟩ := List.getElem_of_mem hs
    rw [List.getElem_drop]
    have hr := List.pairwise_iff_getElem.1 h.rise i (L.length - 5 + k) hi (by omega) (by omega)
    unfold isSn
    rw [Bool.and_eq_false_iff]
    exact .inl (by simp; omega)
  simp only [hf, h.beh hn hl]
  rw [if_neg (by omega)]
theorem ask_fenced {ep ep' : Int} {L : List Sn} (hn : L ≠ []) (he : ep' < ep) (b c q : Int) (rs : List Rec) : askT behS (tabD ep L) ⟨b, c, 3, ep', q, rs⟩ = (0, false, 17) := by
  rw [askD hn _ rfl, askB_fenced he]
theorem ask_far {ep : Int} {L : List Sn} {q : Int} (h : DL L q) (hl : L.length ≤ 20) (hn : L ≠ []) (b : Int) (rs : List Rec) : askT behS (tabD ep L) ⟨b, 40, 3, ep, q + 1, rs⟩ = (0, false, 16) := by
  have hpos : 0 < (L.drop (L.length - 5)).length := by have := List.length_pos_iff.2 hn; rw [List.length_drop]; omega
  rw [askD hn _ rfl, askB_old (by rfl) hpos]
  have hno : (L.drop (L.length - 5)).findIdx? (isSn (q + 1) 40) = none := by
    rw [List.findIdx?_eq_none_iff]
    intro s hs
    have := h.all s (List.mem_of_mem_drop hs)
    unfold isSn
    rw [Bool.and_eq_false_iff]
    exact .inr (by simp; omega)
  simp only [hno, h.beh hn hl]
  rw [if_neg (by omega)]
theorem ask_above {ep ep' : Int} {L : List Sn} (hn : L ≠ []) (he : ep < ep') (b c : Int) (rs : List Rec) : askT behS (tabD ep L) ⟨b, c, 3, ep', 0, rs⟩ = (0, false, 0) := by
  rw [askD hn _ rfl, askB_new (by simp; omega) (by simp; omega), if_pos rfl]
end Go.Proofs.Ythiaaoiaabocfaa
