/- What one producer writes changes nothing of what another one is told: in plain Lean. -/
import Derived.Test.YthiaaoiaabocfaaPrA
namespace Go.Proofs.Ythiaaoiaabocfaa

/-- What is found first. -/
theorem findE_eq (t : List Ent) (id : Int) : findE t id = match t.find? (isId id) with | some e => (e, true) | none => (ent0, false) := by
  unfold findE
  cases h : t.findIdx? (isId id) with
  | none =>
    have : t.find? (isId id) = none := by
      rw [List.find?_eq_none]
      rw [List.findIdx?_eq_none_iff] at h
      intro x hx
      simp [h x hx]
    rw [this]
  | some i =>
    obtain ⟨hi, hp, hn⟩ := find_some h
    have : t.find? (isId id) = some t[i] := by
      rw [List.find?_eq_some_iff_getElem]
      exact ⟨hp, i, hi, rfl, fun j hj => by simp [hn j hj]⟩
    rw [this]
    simp [List.getD_eq_getElem?_getD, hi]
theorem find_set {t : List Ent} {i : Nat} {e : Ent} {id : Int} (hi : i < t.length) (h1 : isId id t[i] = false) (h2 : isId id e = false) : (t.set i e).find? (isId id) = t.find? (isId id) := by
  have e1 : t = t.take i ++ t[i] :: t.drop (i + 1) := by rw [List.getElem_cons_drop, List.take_append_drop]
  have e2 : t.set i e = t.take i ++ e :: t.drop (i + 1) := by rw [List.set_eq_take_append_cons_drop, if_pos hi]
  rw [e2]
  conv => rhs; rw [e1]
  rw [List.find?_append, List.find?_append, List.find?_cons, List.find?_cons, h1, h2]
theorem find_mid {a b : List Ent} {e : Ent} {id : Int} (h2 : isId id e = false) : (a ++ e :: b).find? (isId id) = (a ++ b).find? (isId id) := by
  rw [List.find?_append, List.find?_append, List.find?_cons, h2]
theorem findE_other (t : List Ent) (b : Bat) (id : Int) (h : id ≠ b.prod) : findE (putT t b) id = findE t id := by
  rw [findE_eq, findE_eq]
  have he : isId id (entP t b) = false := by unfold isId entP; simp; exact fun e => h e.symm
  have : (putT t b).find? (isId id) = t.find? (isId id) := by
    unfold putT
    split
    · rfl
    · split
      · rename_i i hi
        obtain ⟨hlt, hp, _⟩ := find_some hi
        refine find_set hlt ?_ he
        unfold isId at hp ⊢
        simp at hp ⊢
        omega
      · rw [find_mid he, List.take_append_drop]
  rw [this]
theorem findE_same (t : List Ent) (b : Bat) (h : b.prod ≠ 0) : findE (putT t b) b.prod = (entP t b, true) := by
  rw [findE_eq]
  have he : isId b.prod (entP t b) = true := by unfold isId entP; simp
  have : (putT t b).find? (isId b.prod) = some (entP t b) := by
    unfold putT
    rw [if_neg h]
    split
    · rename_i i hi
      obtain ⟨hlt, hp, hn⟩ := find_some hi
      rw [List.set_eq_take_append_cons_drop, if_pos hlt, List.find?_append, List.find?_cons, he]
      have : (t.take i).find? (isId b.prod) = none := by
        rw [List.find?_eq_none]
        intro x hx
        obtain ⟨j, hj, rfl⟩ := List.getElem_of_mem hx
        rw [List.length_take] at hj
        rw [List.getElem_take]
        simp [hn j (by omega)]
      rw [this]
      rfl
    · rename_i hi
      rw [List.findIdx?_eq_none_iff] at hi
      rw [List.find?_append, List.find?_cons, he]
      have : (t.take (highP t b.prod)).find? (isId b.prod) = none := by
        rw [List.find?_eq_none]
        intro x hx
        simp [hi x (List.mem_of_mem_take hx)]
      rw [this]
      rfl
  rw [this]
theorem entP_of {t t' : List Ent} {b : Bat} (h : findE t b.prod = findE t' b.prod) : entP t b = entP t' b := by
  unfold entP lastP
  rw [h]
/-- Two tables that tell the same of one producer do so behind a batch of it. -/
theorem find_both {t t' : List Ent} {b : Bat} {id : Int} (h : findE t id = findE t' id) (hb : b.prod = id) : findE (putT t b) id = findE (putT t' b) id := by
  by_cases h0 : b.prod = 0
  · unfold putT
    rw [if_pos h0, if_pos h0]
    exact h
  · subst hb
    rw [findE_same t b h0, findE_same t' b h0, entP_of h]
theorem find_one_side {t t' : List Ent} {b : Bat} {id : Int} (h : findE t id = findE t' id) (hb : b.prod ≠ id) : findE (putT t b) id = findE t' id := by
  rw [findE_other t b id (fun e => hb e.symm)]
  exact h
theorem ask_of_find {f : Sn → Int} {t t' : List Ent} {b : Bat} (h : findE t b.prod = findE t' b.prod) : askT f t b = askT f t' b := by
  unfold askT
  rw [h]

/-! ### IDs rise -/
def Rising (t : List Ent) : Prop := t.Pairwise fun a b => a.id < b.id
theorem Rising.nil : Rising [] := List.Pairwise.nil
theorem Rising.put {t : List Ent} (h : Rising t) (b : Bat) : Rising (putT t b) := by
  unfold putT
  split
  · exact h
  · split
    · rename_i i hi
      obtain ⟨hlt, hp, _⟩ := find_some hi
      have hid : t[i].id = b.prod := by unfold isId at hp; simpa using hp
      have e : ∀ j (hj : j < (t.set i (entP t b)).length), ((t.set i (entP t b))[j]).id = (t[j]'(by rw [List.length_set] at hj; exact hj)).id := fun j hj => by
        rw [List.getElem_set]
        split
        · rename_i hij; subst hij; rw [hid]; rfl
        · rfl
      unfold Rising
      rw [List.pairwise_iff_getElem]
      intro j k hj hk hjk
      rw [e j hj, e k hk]
      rw [List.length_set] at hj hk
      exact List.pairwise_iff_getElem.1 h j k hj hk hjk
    · rename_i hi
      rw [List.findIdx?_eq_none_iff] at hi
      have hne : ∀ x ∈ t, x.id ≠ b.prod := fun x hx e => by have := hi x hx; unfold isId at this; simp [e] at this
      have hlow : ∀ x ∈ t.take (highP t b.prod), x.id < b.prod := fun x hx => by
        unfold highP at hx
        cases hh : t.findIdx? (isHigh b.prod) with
        | none =>
          rw [List.findIdx?_eq_none_iff] at hh
          have := hh x (List.mem_of_mem_take hx)
          unfold isHigh at this
          simpa using this
        | some k =>
          rw [hh] at hx
          obtain ⟨hk, _, hn⟩ := find_some hh
          obtain ⟨j, hj, rfl⟩ := List.getElem_of_mem hx
          simp only [Option.getD_some] at hj
          rw [List.length_take] at hj
          have := hn j (by omega)
          rw [List.getElem_take]
          unfold isHigh at this
          simpa using this
      have hhigh : ∀ x ∈ t.drop (highP t b.prod), b.prod < x.id := fun x hx => by
        have hxne := hne x (List.mem_of_mem_drop hx)
        unfold highP at hx
        cases hh : t.findIdx? (isHigh b.prod) with
        | none =>
          rw [hh] at hx
          simp at hx
        | some k =>
          rw [hh] at hx
          simp only [Option.getD_some] at hx
          obtain ⟨hk, hp, _⟩ := find_some hh
          have hk2 : b.prod ≤ t[k].id := by unfold isHigh at hp; simpa using hp
          obtain ⟨j, hj, rfl⟩ := List.getElem_of_mem hx
          rw [List.length_drop] at hj
          rw [List.getElem_drop] at hxne ⊢
          by_cases h0 : j = 0
          · subst h0
            simp only [Nat.add_zero] at hxne ⊢
            omega
          · have := List.pairwise_iff_getElem.1 h k (k + j) hk (by omega) (by omega)
            omega
      have hpt : Rising (t.take (highP t b.prod) ++ t.drop (highP t b.prod)) := by rw [List.take_append_drop]; exact h
      unfold Rising at hpt ⊢
      rw [List.pairwise_append] at hpt ⊢
      refine ⟨hpt.1, List.pairwise_cons.2 ⟨fun x hx => hhigh x hx, hpt.2.1⟩, fun x hx y hy => ?_⟩
      rcases List.mem_cons.1 hy with rfl | hy
      · exact hlow x hx
      · exact hpt.2.2 x hx y hy
theorem Rising.at {t : List Ent} (h : Rising t) {i : Nat} (hi : i + 1 < t.length) : t[i].id < t[i + 1].id := List.pairwise_iff_getElem.1 h i (i + 1) (by omega) hi (by omega)
end Go.Proofs.Ythiaaoiaabocfaa
