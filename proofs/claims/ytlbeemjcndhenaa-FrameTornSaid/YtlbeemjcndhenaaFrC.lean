/- Frames of which the last blocks are missing, and one is torn: the plain law. No program here. -/
import Derived.Test.YtlbeemjcndhenaaFr
namespace Go.Proofs.Ytlbeemjcndhenaa

theorem layF_cut' : ∀ (n : Nat) (kind : UInt8) (b : List UInt8) (k : Nat) (r : List (List UInt8)), goodKind kind → b.length ≤ n → k < (layF n kind b).length → joinGo (if k = 0 then kind else 2) r = ⟨[], 0⟩ →
    joinGo kind ((layF n kind b).take k ++ r) = ⟨b.take (61 * k), k⟩ := by
  intro n
  induction n with
  | zero =>
    intro kind b k r _ hb hk ht
    rw [layF_short 0 kind b (by omega), List.length_singleton] at hk
    obtain rfl : k = 0 := by omega
    simpa using ht
  | succ n ih =>
    intro kind b k r hg hb hk ht
    cases k with
    | zero => simpa using ht
    | succ k =>
      simp only [layF] at hk ⊢
      split at hk
      · simp at hk
      · rename_i h
        rw [List.length_cons] at hk
        rw [if_neg h, List.take_succ_cons, List.cons_append]
        have ho := open_block kind (b.take 61) hg (by simp; omega)
        rw [if_neg (by omega)] at ht
        rw [joinGo_go _ _ _ (by rw [ho]; exact ⟨rfl, rfl⟩), ho, ih 2 (b.drop 61) k r (.inr rfl) (by simp; omega) (by omega) (by split <;> exact ht)]
        have e : b.take (61 * (k + 1)) = b.take 61 ++ (b.drop 61).take (61 * k) := by rw [← List.take_add]; congr 1; omega
        rw [e]
/-- What is left of a frame's blocks, some last ones missing, is no frame. -/
theorem oneB_part (b : List UInt8) (hb : b.length ≤ 8192) (k : Nat) (r : List (List UInt8)) (hk : k < (layB (frameL b)).length) (h1 : joinGo 1 r = ⟨[], 0⟩) (h2 : joinGo 2 r = ⟨[], 0⟩) : (oneB ((layB (frameL b)).take k ++ r)).err ≠ 0 := by
  have hj := layF_cut' (frameL b).length 1 (frameL b) k r (.inl rfl) (Nat.le_refl _) hk (by split <;> assumption)
  have hl := frameL_length b
  have hn : 61 * k < (frameL b).length := by
    have := layF_length (frameL b).length 1 (frameL b) (Nat.le_refl _)
    have hk' : k < (layF (frameL b).length 1 (frameL b)).length := hk
    unfold needB at this
    split at this <;> omega
  have hJ : joinB ((layB (frameL b)).take k ++ r) = if k = 0 then ⟨[], 0, 8⟩ else ⟨(frameL b).take (61 * k), k, 0⟩ := by
    unfold joinB layB
    rw [hj]
  unfold oneB
  rw [hJ]
  by_cases h0 : k = 0
  · rw [if_pos h0]; decide
  · rw [if_neg h0]
    dsimp only
    rw [if_neg (by decide)]
    have hlen : ((frameL b).take (61 * k)).length = 61 * k := by rw [List.length_take]; omega
    have h4 : un (unfixed (((frameL b).take (61 * k)).take 4)) = (b.length : Int) := by
      rw [List.take_take, Nat.min_eq_left (by omega)]
      exact unfixed_four b hb (sealL b)
    rw [if_pos (.inr (by rw [hlen, h4]; omega))]
    decide
/-- How many bodies end at k or ahead of it, and where the last of these ends. -/
def wantB (c k : Nat) : List (List UInt8) → Nat × Nat
  | [] => (0, 0)
  | b :: r => if c + (layB (frameL b)).length ≤ k then ((wantB (c + (layB (frameL b)).length) k r).1 + 1, if (wantB (c + (layB (frameL b)).length) k r).1 = 0 then c + (layB (frameL b)).length else (wantB (c + (layB (frameL b)).length) k r).2) else (0, 0)
theorem wantB_le (k : Nat) : ∀ (bs : List (List UInt8)) (c : Nat), (wantB c k bs).1 ≤ bs.length
  | [], c => by simp [wantB]
  | b :: r, c => by
    have := wantB_le k r (c + (layB (frameL b)).length)
    simp only [wantB]
    split <;> simp <;> omega
theorem wantB_go {c k : Nat} {b : List UInt8} (r : List (List UInt8)) (h : c + (layB (frameL b)).length ≤ k) : wantB c k (b :: r) = ((wantB (c + (layB (frameL b)).length) k r).1 + 1, if (wantB (c + (layB (frameL b)).length) k r).1 = 0 then c + (layB (frameL b)).length else (wantB (c + (layB (frameL b)).length) k r).2) := by
  simp only [wantB]; rw [if_pos h]
theorem wantB_stop {c k : Nat} {b : List UInt8} (r : List (List UInt8)) (h : ¬ c + (layB (frameL b)).length ≤ k) : wantB c k (b :: r) = (0, 0) := by
  simp only [wantB]; rw [if_neg h]
/-- What is scanned of a beginning of the blocks, with a tail that goes on nothing. -/
theorem scan_part (k : Nat) (tail : List (List UInt8)) (h1 : joinGo 1 tail = ⟨[], 0⟩) (h2 : joinGo 2 tail = ⟨[], 0⟩) :
    ∀ (bs : List (List UInt8)) (c : Nat), (∀ b ∈ bs, b.length ≤ 8192) → c ≤ k → k - c < (laidB bs).length →
      ∀ q, wantB c k bs = q → scanAt c ((laidB bs).take (k - c) ++ tail) = (placeB c (bs.take q.1), if q.1 = 0 then c else q.2)
  | [], c, _, _, hk => by simp [laidB] at hk
  | b :: r, c, hb, hc, hk => by
    intro q hq
    have hb0 := hb b List.mem_cons_self
    simp only [laidB, List.length_append] at hk ⊢
    by_cases hle : c + (layB (frameL b)).length ≤ k
    · have htk : (layB (frameL b) ++ laidB r).take (k - c) = layB (frameL b) ++ (laidB r).take (k - (c + (layB (frameL b)).length)) := by
        rw [List.take_append, List.take_of_length_le (by omega)]
        congr 2; omega
      rw [wantB_go r hle] at hq
      have ih := scan_part k tail h1 h2 r (c + (layB (frameL b)).length) (fun x hx => hb x (List.mem_cons_of_mem _ hx)) hle (by omega) _ rfl
      generalize wantB (c + (layB (frameL b)).length) k r = q2 at *
      subst hq
      have hr : joinGo 2 ((laidB r).take (k - (c + (layB (frameL b)).length)) ++ tail) = ⟨[], 0⟩ := by
        cases r with
        | nil => simp [laidB] at hk; omega
        | cons x r =>
          cases hm : k - (c + (layB (frameL b)).length) with
          | zero => simpa using h2
          | succ m =>
            have hx : ∃ y s, layB (frameL x) = blockL 1 y :: s ∧ y.length ≤ 61 := by
              unfold layB
              cases hlx : (frameL x).length with
              | zero => exact ⟨frameL x, [], rfl, by omega⟩
              | succ n =>
                simp only [layF]
                split
                · exact ⟨frameL x, [], rfl, by omega⟩
                · exact ⟨(frameL x).take 61, _, rfl, by simp; omega⟩
            obtain ⟨y, s, e, hy⟩ := hx
            simp only [laidB, e, List.cons_append, List.take_succ_cons]
            exact joinGo_stop _ _ _ (by rw [open_block 1 y (.inl rfl) hy]; simp)
      have ho := oneB_lay b hb0 _ hr
      rw [htk, List.append_assoc, scanAt_go c _ (by rw [ho]), ho]
      dsimp only
      rw [List.drop_left, ih]
      simp only [List.take_succ_cons, placeB]
      rw [if_neg (show ¬ q2.1 + 1 = 0 by omega)]
    · have htk : (layB (frameL b) ++ laidB r).take (k - c) = (layB (frameL b)).take (k - c) := by rw [List.take_append_of_le_length (by omega)]
      have he := oneB_part b hb0 (k - c) tail (by omega) h1 h2
      rw [wantB_stop r hle] at hq
      subst hq
      rw [htk, scanAt_stop c _ he]
      simp [placeB]
end Go.Proofs.Ytlbeemjcndhenaa
