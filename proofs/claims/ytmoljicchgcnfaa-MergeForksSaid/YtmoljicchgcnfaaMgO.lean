/- All that layer 34's heap tells: each list's items once, in their order; times that rise. In plain Lean. -/
import Derived.Test.YtmoljicchgcnfaaMgH
namespace Go.Proofs.Ytmoljicchgcnfaa

theorem items_list {n : Int} {l : List Bat} : ∀ x ∈ itemsOf n l, x.list = n := by
  intro x hx
  unfold itemsOf at hx
  obtain ⟨s, hs, hxs⟩ := List.mem_flatten.1 hx
  obtain ⟨b, _, rfl⟩ := List.mem_map.1 hs
  obtain ⟨r, _, rfl⟩ := List.mem_map.1 hxs
  rfl
theorem srcs_mem {ls : List (List Bat)} : ∀ {n : Nat} {s : Src}, s ∈ srcs ls n → ∃ k : Nat, k < n ∧ s = itemsOf k (ls.getD k []) ∧ s ≠ []
  | 0, s, h => by simp [srcs] at h
  | n + 1, s, h => by
    rw [srcs_succ] at h
    rcases List.mem_append.1 h with h | h
    · obtain ⟨k, h1, h2⟩ := srcs_mem h
      exact ⟨k, by omega, h2⟩
    · unfold src1 at h
      split at h
      · simp at h
      · rename_i he
        rw [List.mem_singleton] at h
        subst h
        exact ⟨n, by omega, rfl, fun e => he (by rw [e]; rfl)⟩
theorem srcs_full (ls : List (List Bat)) (n : Nat) : Full (srcs ls n) := fun s hs => by obtain ⟨_, _, _, h⟩ := srcs_mem hs; exact h
theorem srcs_apart (ls : List (List Bat)) : ∀ n, Apart (srcs ls n)
  | 0 => List.Pairwise.nil
  | n + 1 => by
    rw [srcs_succ]
    refine List.pairwise_append.2 ⟨srcs_apart ls n, ?_, ?_⟩
    · unfold src1
      split
      · exact List.Pairwise.nil
      · exact List.pairwise_singleton ..
    · intro a ha b hb x hx y hy e
      obtain ⟨k, hk, rfl, _⟩ := srcs_mem ha
      unfold src1 at hb
      split at hb
      · simp at hb
      · rw [List.mem_singleton] at hb
        subst hb
        rw [items_list x hx, items_list y hy] at e
        omega
theorem srcs_flat (ls : List (List Bat)) (n : Nat) : (srcs ls (n + 1)).flatten = (srcs ls n).flatten ++ itemsOf n (ls.getD n []) := by
  rw [srcs_succ, List.flatten_append]
  congr 1
  unfold src1
  split
  · rename_i h; rw [List.isEmpty_iff.1 h]; rfl
  · simp
theorem of_self {i : Int} {l : List Itm} (h : ∀ x ∈ l, x.list = i) : of_ i l = l := by
  unfold of_
  rw [List.filter_eq_self]
  intro x hx
  simp [h x hx]
theorem srcs_of (ls : List (List Bat)) (i : Nat) : ∀ n, of_ i (srcs ls n).flatten = if i < n then itemsOf i (ls.getD i []) else []
  | 0 => by simp [srcs, of_]
  | n + 1 => by
    rw [srcs_flat, of_append, srcs_of ls i n]
    by_cases h : i = n
    · subst h
      rw [if_neg (Nat.lt_irrefl _), if_pos (Nat.lt_succ_self _), of_self items_list]
      rfl
    · rw [of_none (a := itemsOf n (ls.getD n [])) (fun x hx e => h (by rw [items_list x hx] at e; omega)), List.append_nil]
      by_cases h2 : i < n
      · rw [if_pos h2, if_pos (by omega)]
      · rw [if_neg h2, if_neg (by omega)]
def countN (ls : List (List Bat)) : Nat → Nat
  | 0 => 0
  | n + 1 => countN ls n + (itemsOf n (ls.getD n [])).length
theorem srcs_count (ls : List (List Bat)) : ∀ n, (srcs ls n).flatten.length = countN ls n
  | 0 => by simp [srcs, countN]
  | n + 1 => by rw [srcs_flat, List.length_append, srcs_count ls n]; rfl
theorem countN_mono (ls : List (List Bat)) {a : Nat} : ∀ {b : Nat}, a ≤ b → countN ls a ≤ countN ls b
  | 0, h => by rw [Nat.le_zero.1 h]; exact Nat.le_refl _
  | b + 1, h => by
    by_cases e : a = b + 1
    · rw [e]; exact Nat.le_refl _
    · exact Nat.le_trans (countN_mono ls (b := b) (by omega)) (Nat.le_add_right _ _)

/-! ### The merger of lists -/
theorem new_perm (ls : List (List Bat)) : (newH ls).Perm (srcs ls ls.length) := buildH_perm _ _
theorem new_full (ls : List (List Bat)) : Full (newH ls) := fun s hs => srcs_full ls _ s ((new_perm ls).mem_iff.1 hs)
theorem new_apart (ls : List (List Bat)) : Apart (newH ls) := (srcs_apart ls _).perm (new_perm ls).symm
theorem new_left (ls : List (List Bat)) : leftH (newH ls) = countN ls ls.length := by
  unfold leftH
  rw [(new_perm ls).flatten.length_eq, srcs_count]
theorem new_heap (ls : List (List Bat)) : HeapFrom (newH ls) 0 := by
  unfold newH
  refine buildH_heap _ _ (by omega) ?_
  intro i hi j hj hlt
  omega
/-- All items of all lists, as they are told. -/
def allL (ls : List (List Bat)) : List Itm := allH (countN ls ls.length) (newH ls)
theorem allL_length (ls : List (List Bat)) : (allL ls).length = countN ls ls.length := by
  unfold allL
  rw [all_length _ _ (by rw [new_left]; exact Nat.le_refl _) (new_full ls), new_left]
theorem allL_of (ls : List (List Bat)) (i : Nat) (hi : i < ls.length) : of_ i (allL ls) = itemsOf i (ls.getD i []) := by
  unfold allL
  rw [all_of i _ _ (by rw [new_left]; exact Nat.le_refl _) (new_full ls) (new_apart ls), of_perm (new_perm ls) i (new_apart ls), srcs_of, if_pos hi]

/-! ### Times that rise -/
def Rise (l : List Itm) : Prop := l.Pairwise fun a b => a.time ≤ b.time
def AllRise (h : List Src) : Prop := ∀ s ∈ h, Rise s
theorem heap_next {h : List Src} (hf : HeapFrom h 0) : HeapFrom (nextH h) 0 := by
  unfold nextH
  have hat : ∀ x, x ≠ 0 → x < (dropH h).length → at_ (dropH h) x = at_ h x ∧ x < h.length := by
    intro x hx hl
    unfold dropH at *
    split at hl
    · rename_i hc
      rw [if_pos hc]
      have hlt : x < h.length - 1 := by
        rw [List.length_take, List.length_set] at hl
        omega
      unfold at_
      rw [List.getD_eq_getElem?_getD, List.getElem?_take, if_pos hlt, List.getElem?_set, if_neg (Ne.symm hx), ← List.getD_eq_getElem?_getD]
      exact ⟨rfl, by omega⟩
    · rename_i hc
      rw [if_neg hc]
      rw [List.length_set] at hl
      unfold at_
      rw [List.getD_eq_getElem?_getD, List.getElem?_set, if_neg (Ne.symm hx), ← List.getD_eq_getElem?_getD]
      exact ⟨rfl, hl⟩
  by_cases h0 : (dropH h).length = 0
  · intro i _ j hj hlt
    rw [downI_length] at hlt
    omega
  · refine downI_heap (by omega) (Nat.le_refl _) ⟨?_, ?_⟩
    · intro p hp hp0 j hj hlt
      unfold bef
      obtain ⟨e1, l1⟩ := hat j (by omega) hlt
      obtain ⟨e2, l2⟩ := hat p hp0 (by omega)
      rw [e1, e2]
      exact hf p hp j hj l1
    · intro p hp h0p
      omega
theorem rise_next {h : List Src} (hn : h ≠ []) (hr : AllRise h) : AllRise (nextH h) := by
  intro s hs
  unfold nextH at hs
  rw [(downI_perm _ _).mem_iff] at hs
  cases h with
  | nil => exact absurd rfl hn
  | cons a r =>
    rw [(drop_perm a r).mem_iff] at hs
    split at hs
    · exact hr s (List.mem_cons_of_mem _ hs)
    · rcases List.mem_cons.1 hs with rfl | hs
      · exact (hr a (List.mem_cons_self ..)).sublist (List.tail_sublist a)
      · exact hr s (List.mem_cons_of_mem _ hs)
theorem top_time {h : List Src} (hf : Full h) (hr : AllRise h) (hh : HeapFrom h 0) : ∀ x ∈ h.flatten, (topH h).time ≤ x.time := by
  intro x hx
  obtain ⟨s, hs, hxs⟩ := List.mem_flatten.1 hx
  obtain ⟨i, hi, rfl⟩ := List.getElem_of_mem hs
  have h1 := heap_top hh i hi
  have e : at_ h i = h[i] := by unfold at_; rw [List.getD_eq_getElem?_getD, List.getElem?_eq_getElem hi]; rfl
  unfold bef at h1
  rw [e] at h1
  have h2 : (topH h).time ≤ (hd h[i]).time := by
    unfold topH
    unfold lessI at h1
    split at h1
    · cases h1
    · omega
  have h3 := hr _ hs
  rw [src_cons (hf _ hs)] at h3 hxs
  rcases List.mem_cons.1 hxs with rfl | hx2
  · exact h2
  · exact Int.le_trans h2 ((List.pairwise_cons.1 h3).1 x hx2)
theorem all_rise : ∀ (f : Nat) (h : List Src), Full h → AllRise h → HeapFrom h 0 → Rise (allH f h)
  | 0, _, _, _, _ => List.Pairwise.nil
  | f + 1, h, hf, hr, hh => by
    unfold allH
    cases h with
    | nil => exact List.Pairwise.nil
    | cons a r =>
      simp only [List.isEmpty_cons, Bool.false_eq_true, if_false]
      refine List.pairwise_cons.2 ⟨fun x hx => ?_, all_rise f _ (full_next hf) (rise_next (by simp) hr) (heap_next hh)⟩
      have h1 := all_mem f _ (full_next hf) x hx
      exact top_time hf hr hh x ((flat_next (by simp) hf).mem_iff.2 (List.mem_cons_of_mem _ h1))
theorem allL_rise (ls : List (List Bat)) (hr : ∀ i, i < ls.length → Rise (itemsOf i (ls.getD i []))) : Rise (allL ls) := by
  refine all_rise _ _ (new_full ls) ?_ (new_heap ls)
  intro s hs
  obtain ⟨k, hk, rfl, _⟩ := srcs_mem ((new_perm ls).mem_iff.1 hs)
  exact hr k hk
/-- Rising, told of neighbours. -/
theorem rise_near {l : List Itm} (h : ∀ k, 1 ≤ k → (hk : k < l.length) → l[k - 1].time ≤ l[k].time) : Rise l := by
  induction l with
  | nil => exact List.Pairwise.nil
  | cons a r ih =>
    have hr : Rise r := ih fun k hk hlt => by
      cases k with
      | zero => omega
      | succ k => exact h (k + 1 + 1) (by omega) (by simp; omega)
    refine List.pairwise_cons.2 ⟨fun x hx => ?_, hr⟩
    cases r with
    | nil => simp at hx
    | cons b r =>
      have h1 := h 1 (Nat.le_refl _) (by simp)
      have h2 : a.time ≤ b.time := h1
      rcases List.mem_cons.1 hx with rfl | hx
      · exact h2
      · exact Int.le_trans h2 ((List.pairwise_cons.1 hr).1 x hx)
theorem near_rise {l : List Itm} (h : Rise l) {k : Nat} (hk : 1 ≤ k) (hlt : k < l.length) : l[k - 1].time ≤ l[k].time :=
  List.pairwise_iff_getElem.1 h (k - 1) k (by omega) hlt (by omega)
end Go.Proofs.Ytmoljicchgcnfaa
