/- Packing as plain functions of bytes: matches, packing, unpacking, sealing, opening, with their laws. No program here. -/
import Derived.Test.YtjhobppgpglndaaSum
namespace Go.Proofs.Ytjhobppgpglndaa

/-! ### How many bytes are the same -/
def lcp : Nat → List UInt8 → List UInt8 → Nat
  | 0, _, _ => 0
  | _ + 1, [], _ => 0
  | _ + 1, _ :: _, [] => 0
  | f + 1, x :: xs, y :: ys => if x = y then lcp f xs ys + 1 else 0
theorem lcp_le : ∀ (f : Nat) (xs ys : List UInt8), lcp f xs ys ≤ f ∧ lcp f xs ys ≤ xs.length ∧ lcp f xs ys ≤ ys.length
  | 0, xs, ys => by simp [lcp]
  | _ + 1, [], ys => by simp [lcp]
  | _ + 1, _ :: _, [] => by simp [lcp]
  | f + 1, x :: xs, y :: ys => by
    have := lcp_le f xs ys
    simp only [lcp, List.length_cons]
    split <;> omega
theorem lcp_same : ∀ (f : Nat) (xs ys : List UInt8) (i : Nat), i < lcp f xs ys → xs[i]? = ys[i]?
  | 0, xs, ys, i, h => by simp [lcp] at h
  | _ + 1, [], ys, i, h => by simp [lcp] at h
  | _ + 1, _ :: _, [], i, h => by simp [lcp] at h
  | f + 1, x :: xs, y :: ys, i, h => by
    simp only [lcp] at h
    split at h
    · rename_i e
      cases i with
      | zero => simp [e]
      | succ i => simpa using lcp_same f xs ys i (by omega)
    · omega
/-- As many as are the same, at least. -/
theorem lcp_most : ∀ (f : Nat) (xs ys : List UInt8) (n : Nat), n ≤ f → n ≤ xs.length → n ≤ ys.length → (∀ i, i < n → xs[i]? = ys[i]?) → n ≤ lcp f xs ys
  | 0, xs, ys, n, h, _, _, _ => by omega
  | _ + 1, [], ys, n, _, h, _, _ => by simp at h; omega
  | _ + 1, _ :: _, [], n, _, _, h, _ => by simp at h; omega
  | f + 1, x :: xs, y :: ys, n, h1, h2, h3, h => by
    cases n with
    | zero => omega
    | succ n =>
      have h0 := h 0 (by omega)
      simp at h0
      simp only [lcp, if_pos h0]
      have := lcp_most f xs ys n (by omega) (by simpa using h2) (by simpa using h3) fun i hi => by simpa using h (i + 1) (by omega)
      omega
def sameB (b : List UInt8) (a c : Nat) : Nat := lcp 131 (b.drop a) (b.drop c)
/-- What is still to be told, from the n-th on. -/
def sameAt (b : List UInt8) (a c n : Nat) : Nat := lcp (131 - n) (b.drop (a + n)) (b.drop (c + n))
theorem sameAt_zero (b : List UInt8) (a c : Nat) : sameAt b a c 0 = sameB b a c := rfl
theorem sameAt_go (b : List UInt8) (a c n : Nat) (hac : a ≤ c) (h1 : n < 131) (h2 : c + n < b.length) (h : b[a + n]'(by omega) = b[c + n]) : sameAt b a c n = sameAt b a c (n + 1) + 1 := by
  unfold sameAt
  obtain ⟨f, hf⟩ : ∃ f, 131 - n = f + 1 := ⟨130 - n, by omega⟩
  rw [hf, List.drop_eq_getElem_cons (show a + n < b.length by omega), List.drop_eq_getElem_cons h2]
  simp only [lcp, if_pos h]
  rw [show 131 - (n + 1) = f by omega]
  rfl
theorem sameAt_stop (b : List UInt8) (a c n : Nat) (hac : a ≤ c) (h : 131 ≤ n ∨ b.length ≤ c + n ∨ ∃ (h2 : c + n < b.length), b[a + n]'(by omega) ≠ b[c + n]) : sameAt b a c n = 0 := by
  unfold sameAt
  rcases h with h | h | ⟨h2, h⟩
  · rw [show 131 - n = 0 by omega]; simp [lcp]
  · rw [List.drop_of_length_le h]
    have := (lcp_le (131 - n) (b.drop (a + n)) []).2.2
    simpa using this
  · cases hf : 131 - n with
    | zero => simp [lcp]
    | succ f =>
      rw [List.drop_eq_getElem_cons (show a + n < b.length by omega), List.drop_eq_getElem_cons h2]
      simp only [lcp, if_neg h]
theorem sameB_le (b : List UInt8) (a c : Nat) : sameB b a c ≤ 131 ∧ sameB b a c ≤ b.length - c := by
  have := lcp_le 131 (b.drop a) (b.drop c)
  simp only [List.length_drop] at this
  exact ⟨this.1, this.2.2⟩
theorem sameB_same (b : List UInt8) (a c i : Nat) (h : i < sameB b a c) : b[a + i]? = b[c + i]? := by
  have := lcp_same 131 (b.drop a) (b.drop c) i h
  simpa [List.getElem?_drop] using this
theorem sameB_most (b : List UInt8) (a c n : Nat) (hac : a ≤ c) (h1 : n ≤ 131) (h2 : c + n ≤ b.length) (h : ∀ i, i < n → b[a + i]? = b[c + i]?) : n ≤ sameB b a c :=
  lcp_most 131 _ _ n h1 (by simp; omega) (by simp; omega) fun i hi => by simpa [List.getElem?_drop] using h i hi

/-! ### The longest match -/
def bestM (b : List UInt8) (c : Nat) : Nat → Nat × Nat
  | 0 => (0, 0)
  | d + 1 => if 4 ≤ sameB b (c - (d + 1)) c ∧ (bestM b c d).1 < sameB b (c - (d + 1)) c then (sameB b (c - (d + 1)) c, d + 1) else bestM b c d
def matchB (b : List UInt8) (c : Nat) : Nat × Nat := if c < b.length then bestM b c (min c 1024) else (0, 0)
structure BestM (b : List UInt8) (c d : Nat) (p : Nat × Nat) : Prop where
  is : p = (0, 0) ∨ 4 ≤ p.1 ∧ 1 ≤ p.2 ∧ p.2 ≤ d ∧ p.1 = sameB b (c - p.2) c
  most : ∀ e, 1 ≤ e → e ≤ d → 4 ≤ sameB b (c - e) c → sameB b (c - e) c ≤ p.1
theorem bestM_is (b : List UInt8) (c : Nat) : ∀ d, BestM b c d (bestM b c d)
  | 0 => ⟨.inl rfl, fun e h1 h2 => by omega⟩
  | d + 1 => by
    have ih := bestM_is b c d
    unfold bestM
    split
    · rename_i h
      refine ⟨.inr ⟨h.1, by simp, by simp, rfl⟩, fun e h1 h2 h3 => ?_⟩
      by_cases he : e = d + 1
      · subst he; exact Nat.le_refl _
      · exact Nat.le_trans (ih.most e h1 (by omega) h3) (Nat.le_of_lt h.2)
    · rename_i h
      refine ⟨?_, fun e h1 h2 h3 => ?_⟩
      · rcases ih.is with h0 | ⟨h1, h2, h3, h4⟩
        · exact .inl h0
        · exact .inr ⟨h1, h2, by omega, h4⟩
      · by_cases he : e = d + 1
        · subst he
          rcases Nat.lt_or_ge (bestM b c d).1 (sameB b (c - (d + 1)) c) with h4 | h4
          · exact absurd ⟨h3, h4⟩ h
          · exact h4
        · exact ih.most e h1 (by omega) h3
theorem bestM_far (b : List UInt8) (c d : Nat) : ((bestM b c d).2 = 0 ↔ (bestM b c d).1 = 0) ∧ (bestM b c d).2 ≤ d ∧ (bestM b c d).1 ≤ 131 ∧ ((bestM b c d).1 = 0 ∨ 4 ≤ (bestM b c d).1) := by
  have := bestM_is b c d
  rcases this.is with h0 | ⟨h1, h2, h3, h4⟩
  · rw [h0]; simp
  · have := (sameB_le b (c - (bestM b c d).2) c).1
    refine ⟨⟨fun h => by omega, fun h => by omega⟩, h3, by omega, .inr h1⟩
/-- What a match is. -/
theorem matchB_is (b : List UInt8) (c : Nat) : matchB b c = (0, 0) ∨ c < b.length ∧ 4 ≤ (matchB b c).1 ∧ (matchB b c).1 ≤ 131 ∧ 1 ≤ (matchB b c).2 ∧ (matchB b c).2 ≤ c ∧ (matchB b c).2 ≤ 1024 ∧ c + (matchB b c).1 ≤ b.length ∧ ∀ i, i < (matchB b c).1 → b[c - (matchB b c).2 + i]? = b[c + i]? := by
  unfold matchB
  split
  · rename_i hc
    rcases (bestM_is b c (min c 1024)).is with h | ⟨h1, h2, h3, h4⟩
    · exact .inl h
    · have hl := sameB_le b (c - (bestM b c (min c 1024)).2) c
      rw [← h4] at hl
      exact .inr ⟨hc, h1, hl.1, h2, by omega, by omega, by omega, fun i hi => sameB_same b _ c i (by omega)⟩
  · exact .inl rfl
/-- At no other distance it is one byte longer. -/
theorem matchB_most (b : List UInt8) (c far : Nat) (h1 : 1 ≤ far) (h2 : far ≤ c) (h3 : far ≤ 1024) (h4 : 4 ≤ (matchB b c).1 + 1) (h5 : (matchB b c).1 < 131) (h6 : c + (matchB b c).1 < b.length)
    (h : ∀ i, i ≤ (matchB b c).1 → b[c - far + i]? = b[c + i]?) : False := by
  have e : matchB b c = bestM b c (min c 1024) := by unfold matchB; rw [if_pos (by omega)]
  have hm := sameB_most b (c - far) c ((matchB b c).1 + 1) (by omega) (by omega) (by omega) fun i hi => h i (by omega)
  have := (bestM_is b c (min c 1024)).most far h1 (by omega) (by omega)
  rw [← e] at this
  omega

/-! ### Packing -/
def flushB (run : List UInt8) : List UInt8 := if run = [] then [] else UInt8.ofNat (run.length - 1) :: run
def packGo (b : List UInt8) : Nat → Nat → List UInt8 → List UInt8
  | 0, _, run => flushB run
  | f + 1, c, run =>
    if c < b.length then
      if (matchB b c).1 = 0 then
        if (run ++ [b.getD c 0]).length = 128 then flushB (run ++ [b.getD c 0]) ++ packGo b f (c + 1) [] else packGo b f (c + 1) (run ++ [b.getD c 0])
      else flushB run ++ (UInt8.ofNat (128 + ((matchB b c).1 - 4)) :: UInt8.ofNat ((matchB b c).2 / 256) :: UInt8.ofNat (matchB b c).2 :: packGo b f (c + (matchB b c).1) [])
    else flushB run
def packB (b : List UInt8) : List UInt8 := packGo b b.length 0 []
theorem packGo_end (b : List UInt8) (f c : Nat) (run : List UInt8) (h : b.length ≤ c) : packGo b f c run = flushB run := by
  cases f with
  | zero => rfl
  | succ f => simp only [packGo]; rw [if_neg (by omega)]
theorem packGo_fuel (b : List UInt8) : ∀ (f f' c : Nat) (run : List UInt8), b.length ≤ c + f → b.length ≤ c + f' → packGo b f c run = packGo b f' c run
  | 0, f', c, run, h, _ => by rw [packGo_end b 0 c run (by omega), packGo_end b f' c run (by omega)]
  | f + 1, 0, c, run, _, h => by rw [packGo_end b _ c run (by omega), packGo_end b 0 c run (by omega)]
  | f + 1, f' + 1, c, run, h1, h2 => by
    simp only [packGo]
    by_cases hc : c < b.length
    · rw [if_pos hc, if_pos hc]
      split
      · split
        · rw [packGo_fuel b f f' _ _ (by omega) (by omega)]
        · rw [packGo_fuel b f f' _ _ (by omega) (by omega)]
      · rw [packGo_fuel b f f' _ _ (by omega) (by omega)]
    · rw [if_neg hc, if_neg hc]
/-- What is packed from a place on. -/
def packAt (b : List UInt8) (c : Nat) (run : List UInt8) : List UInt8 := packGo b (b.length - c) c run
theorem packAt_zero (b : List UInt8) : packAt b 0 [] = packB b := rfl
theorem packAt_end (b : List UInt8) (c : Nat) (run : List UInt8) (h : b.length ≤ c) : packAt b c run = flushB run := packGo_end b _ c run h
theorem packAt_one (b : List UInt8) (c : Nat) (run : List UInt8) (h : c < b.length) (hm : (matchB b c).1 = 0) :
    packAt b c run = if (run ++ [b[c]]).length = 128 then flushB (run ++ [b[c]]) ++ packAt b (c + 1) [] else packAt b (c + 1) (run ++ [b[c]]) := by
  unfold packAt
  obtain ⟨f, hf⟩ : ∃ f, b.length - c = f + 1 := ⟨b.length - c - 1, by omega⟩
  have hg : b.getD c 0 = b[c] := by simp [List.getD_eq_getElem?_getD, h]
  rw [hf]
  simp only [packGo]
  rw [if_pos h, if_pos hm, hg, show b.length - (c + 1) = f by omega]
theorem packAt_match (b : List UInt8) (c : Nat) (run : List UInt8) (h : c < b.length) (hm : (matchB b c).1 ≠ 0) :
    packAt b c run = flushB run ++ (UInt8.ofNat (128 + ((matchB b c).1 - 4)) :: UInt8.ofNat ((matchB b c).2 / 256) :: UInt8.ofNat (matchB b c).2 :: packAt b (c + (matchB b c).1) []) := by
  unfold packAt
  obtain ⟨f, hf⟩ : ∃ f, b.length - c = f + 1 := ⟨b.length - c - 1, by omega⟩
  rw [hf]
  simp only [packGo]
  rw [if_pos h, if_neg hm, packGo_fuel b f (b.length - (c + (matchB b c).1)) _ _ (by omega) (by omega)]

/-! ### Unpacking -/
def copyN (out : List UInt8) (d : Nat) : Nat → List UInt8
  | 0 => out
  | n + 1 => copyN out d n ++ [(copyN out d n).getD ((copyN out d n).length - d) 0]
theorem copyN_length (out : List UInt8) (d : Nat) : ∀ n, (copyN out d n).length = out.length + n
  | 0 => rfl
  | n + 1 => by simp [copyN, copyN_length out d n]; omega
structure Unp where
  out : List UInt8
  err : Int
def unpF (most : Nat) : Nat → List UInt8 → List UInt8 → Unp
  | _, [], out => ⟨out, 0⟩
  | 0, _ :: _, _ => ⟨[], 0⟩
  | f + 1, c :: r, out =>
    if c.toNat < 128 then
      if r.length < c.toNat + 1 then ⟨[], 3⟩ else if most < out.length + (c.toNat + 1) then ⟨[], 5⟩ else unpF most f (r.drop (c.toNat + 1)) (out ++ r.take (c.toNat + 1))
    else if r.length < 2 then ⟨[], 3⟩
    else if 256 * (r.getD 0 0).toNat + (r.getD 1 0).toNat = 0 ∨ out.length < 256 * (r.getD 0 0).toNat + (r.getD 1 0).toNat then ⟨[], 4⟩
    else if most < out.length + (c.toNat - 128 + 4) then ⟨[], 5⟩
    else unpF most f (r.drop 2) (copyN out (256 * (r.getD 0 0).toNat + (r.getD 1 0).toNat) (c.toNat - 128 + 4))
def unpB (p : List UInt8) (most : Nat) : Unp := unpF most p.length p []
theorem unpF_fuel (most : Nat) : ∀ (f f' : Nat) (p out : List UInt8), p.length ≤ f → p.length ≤ f' → unpF most f p out = unpF most f' p out
  | f, f', [], out, _, _ => by cases f <;> cases f' <;> rfl
  | 0, f', c :: r, out, h, _ => by simp at h
  | f + 1, 0, c :: r, out, _, h => by simp at h
  | f + 1, f' + 1, c :: r, out, h1, h2 => by
    simp only [List.length_cons] at h1 h2
    simp only [unpF]
    rw [unpF_fuel most f f' (r.drop (c.toNat + 1)) _ (by simp; omega) (by simp; omega), unpF_fuel most f f' (r.drop 2) _ (by simp; omega) (by simp; omega)]
/-- What is unpacked from a place on. -/
def unpAt (most : Nat) (p out : List UInt8) : Unp := unpF most p.length p out
theorem unpAt_nil (most : Nat) (out : List UInt8) : unpAt most [] out = ⟨out, 0⟩ := rfl
theorem unpAt_cons (most : Nat) (c : UInt8) (r out : List UInt8) : unpAt most (c :: r) out =
    if c.toNat < 128 then
      if r.length < c.toNat + 1 then ⟨[], 3⟩ else if most < out.length + (c.toNat + 1) then ⟨[], 5⟩ else unpAt most (r.drop (c.toNat + 1)) (out ++ r.take (c.toNat + 1))
    else if r.length < 2 then ⟨[], 3⟩
    else if 256 * (r.getD 0 0).toNat + (r.getD 1 0).toNat = 0 ∨ out.length < 256 * (r.getD 0 0).toNat + (r.getD 1 0).toNat then ⟨[], 4⟩
    else if most < out.length + (c.toNat - 128 + 4) then ⟨[], 5⟩
    else unpAt most (r.drop 2) (copyN out (256 * (r.getD 0 0).toNat + (r.getD 1 0).toNat) (c.toNat - 128 + 4)) := by
  unfold unpAt
  simp only [List.length_cons, unpF]
  rw [unpF_fuel most r.length (r.drop (c.toNat + 1)).length _ _ (by simp) (Nat.le_refl _), unpF_fuel most r.length (r.drop 2).length _ _ (by simp) (Nat.le_refl _)]

/-! ### Sealing -/
def sealP (b : List UInt8) : List UInt8 := if (packB b).length < b.length then 1 :: packB b else 0 :: b
def openP : List UInt8 → Unp
  | [] => ⟨[], 3⟩
  | c :: r => if 2 ≤ c.toNat then ⟨[], 4⟩ else if c.toNat = 0 then ⟨r, 0⟩ else unpB r 65536

/-! ### Back -/
/-- What is packed from a place on is unpacked. -/
theorem unp_run (most : Nat) (run rest out : List UInt8) (h : run.length ≤ 128) : unpAt most (flushB run ++ rest) out = if most < out.length + run.length ∧ run ≠ [] then ⟨[], 5⟩ else unpAt most rest (out ++ run) := by
  by_cases hr : run = []
  · subst hr; simp [flushB]
  · have hp : 0 < run.length := List.length_pos_iff.2 hr
    have ht : (UInt8.ofNat (run.length - 1)).toNat = run.length - 1 := by rw [toNat_ofNat8]; omega
    unfold flushB
    rw [if_neg hr, List.cons_append, unpAt_cons, ht, if_pos (by omega), if_neg (by simp; omega), show run.length - 1 + 1 = run.length by omega, List.take_left, List.drop_left]
    by_cases hm : most < out.length + run.length
    · rw [if_pos hm, if_pos ⟨hm, hr⟩]
    · rw [if_neg hm, if_neg fun h => hm h.1]
theorem copyN_take (b : List UInt8) (c d : Nat) (hd : 1 ≤ d) (hdc : d ≤ c) (hc : c ≤ b.length) : ∀ n, c + n ≤ b.length → (∀ i, i < n → b[c - d + i]? = b[c + i]?) → copyN (b.take c) d n = b.take (c + n)
  | 0, _, _ => rfl
  | n + 1, hn, h => by
    have ih := copyN_take b c d hd hdc hc n (by omega) fun i hi => h i (by omega)
    simp only [copyN]
    rw [ih]
    have hl : (b.take (c + n)).length = c + n := by simp; omega
    have e := h n (by omega)
    have hg : (b.take (c + n)).getD ((b.take (c + n)).length - d) 0 = b[c + n]'(by omega) := by
      rw [hl, List.getD_eq_getElem?_getD, List.getElem?_take, if_pos (by omega), show c + n - d = c - d + n by omega, e, List.getElem?_eq_getElem (by omega)]
      rfl
    rw [hg, show c + (n + 1) = (c + n) + 1 by omega, List.take_add_one, List.getElem?_eq_getElem (by omega)]
    rfl
theorem unp_match (most n d : Nat) (rest out : List UInt8) (h1 : 4 ≤ n) (h2 : n ≤ 131) (h3 : 1 ≤ d) (h4 : d ≤ 1024) (h5 : d ≤ out.length) :
    unpAt most (UInt8.ofNat (128 + (n - 4)) :: UInt8.ofNat (d / 256) :: UInt8.ofNat d :: rest) out = if most < out.length + n then ⟨[], 5⟩ else unpAt most rest (copyN out d n) := by
  have e1 : (UInt8.ofNat (128 + (n - 4))).toNat = 128 + (n - 4) := by rw [toNat_ofNat8]; omega
  have e2 : (UInt8.ofNat (d / 256)).toNat = d / 256 := by rw [toNat_ofNat8]; omega
  have e3 : (UInt8.ofNat d).toNat = d % 256 := by rw [toNat_ofNat8]
  rw [unpAt_cons, e1, if_neg (by omega), if_neg (by simp)]
  have e4 : 256 * ((UInt8.ofNat (d / 256) :: UInt8.ofNat d :: rest).getD 0 0).toNat + ((UInt8.ofNat (d / 256) :: UInt8.ofNat d :: rest).getD 1 0).toNat = d := by
    show 256 * (UInt8.ofNat (d / 256)).toNat + (UInt8.ofNat d).toNat = d
    rw [e2, e3]; omega
  rw [e4, if_neg (by omega), show 128 + (n - 4) - 128 + 4 = n by omega]
  rfl
theorem unp_pack (b : List UInt8) (most : Nat) : ∀ (f c : Nat) (run : List UInt8), b.length ≤ c + f → c ≤ b.length → run.length ≤ c → run.length < 128 → run = (b.drop (c - run.length)).take run.length → c - run.length ≤ most →
    unpAt most (packGo b f c run) (b.take (c - run.length)) = if b.length ≤ most then ⟨b, 0⟩ else ⟨[], 5⟩ := by
  have done : ∀ (c : Nat) (run : List UInt8), c = b.length → run.length ≤ c → run.length < 128 → run = (b.drop (c - run.length)).take run.length → c - run.length ≤ most →
      unpAt most (flushB run) (b.take (c - run.length)) = if b.length ≤ most then ⟨b, 0⟩ else ⟨[], 5⟩ := by
    intro c run hc h1 h2 h3 h4
    have := unp_run most run [] (b.take (c - run.length)) (by omega)
    rw [List.append_nil] at this
    rw [this, unpAt_nil]
    have e : b.take (c - run.length) ++ run = b := by
      have : b.take (c - run.length) ++ run = b.take (c - run.length) ++ (b.drop (c - run.length)).take run.length := by rw [← h3]
      rw [this, ← List.take_add, List.take_of_length_le (by omega)]
    have hl : (b.take (c - run.length)).length + run.length = b.length := by rw [List.length_take]; omega
    rw [e, hl]
    by_cases hm : b.length ≤ most
    · rw [if_neg (by omega), if_pos hm]
    · rw [if_pos ⟨by omega, fun e => by rw [e] at h4; simp at h4; omega⟩, if_neg hm]
  intro f
  induction f with
  | zero =>
    intro c run hf hc h1 h2 h3 h4
    exact done c run (by omega) h1 h2 h3 h4
  | succ f ih =>
    intro c run hf hc h1 h2 h3 h4
    simp only [packGo]
    by_cases hcl : c < b.length
    · rw [if_pos hcl]
      have hg : b.getD c 0 = b[c] := by simp [List.getD_eq_getElem?_getD, hcl]
      have htk : b.take (c - run.length) ++ run = b.take c := by
        have : b.take (c - run.length) ++ run = b.take (c - run.length) ++ (b.drop (c - run.length)).take run.length := by rw [← h3]
        rw [this, ← List.take_add]; congr 1; omega
      by_cases hm : (matchB b c).1 = 0
      · rw [if_pos hm, hg]
        have hrl : (run ++ [b[c]]).length = run.length + 1 := by simp
        have hrun : run ++ [b[c]] = (b.drop (c - run.length)).take (run.length + 1) := by
          rw [List.take_add_one, ← h3, List.getElem?_drop, show c - run.length + run.length = c by omega, List.getElem?_eq_getElem hcl]
          rfl
        split
        · rename_i h128
          rw [unp_run most _ _ _ (by omega), hrl]
          have htk2 : b.take (c - run.length) ++ (run ++ [b[c]]) = b.take (c + 1) := by
            rw [← List.append_assoc, htk, List.take_add_one, List.getElem?_eq_getElem hcl]; rfl
          rw [htk2]
          have hl : (b.take (c - run.length)).length + (run.length + 1) = c + 1 := by rw [List.length_take]; omega
          rw [hl]
          by_cases hmm : most < c + 1
          · rw [if_pos ⟨hmm, by simp⟩, if_neg (by omega)]
          · rw [if_neg (fun h => hmm h.1)]
            have := ih (c + 1) [] (by omega) (by omega) (by simp) (by simp) (by simp) (by simpa using hmm)
            simpa using this
        · have := ih (c + 1) (run ++ [b[c]]) (by omega) (by omega) (by omega) (by omega) (by rw [hrl, show c + 1 - (run.length + 1) = c - run.length by omega]; exact hrun) (by omega)
          rw [hrl, show c + 1 - (run.length + 1) = c - run.length by omega] at this
          exact this
      · rw [if_neg hm, unp_run most _ _ _ (by omega), htk]
        rcases matchB_is b c with h0 | ⟨_, m1, m2, m3, m4, m5, m6, m7⟩
        · rw [h0] at hm; exact absurd rfl hm
        have hl : (b.take (c - run.length)).length + run.length = c := by rw [List.length_take]; omega
        have hl2 : (b.take c).length = c := by rw [List.length_take]; omega
        rw [hl]
        by_cases hmm : most < c
        · rw [if_pos ⟨hmm, fun e => by rw [e] at h4; simp at h4; omega⟩, if_neg (by omega)]
        · rw [if_neg (fun h => hmm h.1), unp_match most _ _ _ _ m1 m2 m3 m5 (by rw [hl2]; exact m4), hl2]
          by_cases hmo : most < c + (matchB b c).1
          · rw [if_pos hmo, if_neg (by omega)]
          · rw [if_neg hmo, copyN_take b c _ m3 m4 hc _ m6 m7]
            have := ih (c + (matchB b c).1) [] (by omega) m6 (by simp) (by simp) (by simp) (by simpa using hmo)
            simpa using this
    · rw [if_neg hcl]
      exact done c run (by omega) h1 h2 h3 h4
theorem unp_back (b : List UInt8) (most : Nat) : unpB (packB b) most = if b.length ≤ most then ⟨b, 0⟩ else ⟨[], 5⟩ := by
  have := unp_pack b most b.length 0 [] (by omega) (by omega) (by simp) (by simp) (by simp) (by simp)
  exact this
theorem open_back (b : List UInt8) (h : b.length ≤ 65536) : openP (sealP b) = ⟨b, 0⟩ := by
  unfold sealP
  split
  · show unpB (packB b) 65536 = _
    rw [unp_back, if_pos h]
  · rfl
theorem sealP_length (b : List UInt8) : (sealP b).length ≤ b.length + 1 := by
  unfold sealP
  split
  · simp; omega
  · simp
end Go.Proofs.Ytjhobppgpglndaa
