/- Frames as plain functions: laying, one, scanning, with their laws. No program here. -/
import Derived.Test.YtlbeemjcndhenaaBlk
namespace Go.Proofs.Ytlbeemjcndhenaa

theorem told_some' {ls : List (List UInt8)} {out : List UInt8} {j : Nat} (h : joinGo 1 ls = ⟨out, j⟩) (hj : 0 < j) : joinB ls = ⟨out, j, 0⟩ := by
  unfold joinB; rw [h, if_neg (by show ¬ j = 0; omega)]
theorem joinGo_body : ∀ (k : UInt8) (ls : List (List UInt8)), (joinGo k ls).body.length ≤ 61 * (joinGo k ls).n ∧ (joinGo k ls).n ≤ ls.length
  | k, [] => by simp [joinGo]
  | k, b :: r => by
    have ih := joinGo_body 2 r
    simp only [joinGo]
    split
    · rename_i h
      have := (open_err b h.1).2.2
      simp only [List.length_append, List.length_cons]
      omega
    · simp
theorem joinB_body (ls : List (List UInt8)) : (joinB ls).body.length ≤ 61 * ls.length ∧ (joinB ls).n ≤ ls.length ∧ ((joinB ls).err = 0 → 1 ≤ (joinB ls).n) ∧ ((joinB ls).err = 0 ∨ (joinB ls).err = 8) := by
  have := joinGo_body 1 ls
  unfold joinB
  split
  · simp
  · simp; omega

/-- The bytes of a frame. -/
def frameL (b : List UInt8) : List UInt8 := fixedL b.length 4 ++ sealL b
theorem frameL_length (b : List UInt8) : (frameL b).length = b.length + 12 := by unfold frameL; rw [List.length_append, fixedL_length, sealL_length]; omega
def frLay (b : List UInt8) : List (List UInt8) × Int := if 8192 < b.length then ([], 5) else (layB (frameL b), 0)
def oneB (ls : List (List UInt8)) : Told :=
  if (joinB ls).err ≠ 0 then ⟨[], 0, (joinB ls).err⟩
  else if (joinB ls).body.length < 12 ∨ (((joinB ls).body.length : Int) - 12) ≠ un (unfixed ((joinB ls).body.take 4)) then ⟨[], 0, 3⟩
  else if (openL ((joinB ls).body.drop 4)).2 ≠ 0 then ⟨[], 0, (openL ((joinB ls).body.drop 4)).2⟩
  else ⟨(openL ((joinB ls).body.drop 4)).1, (joinB ls).n, 0⟩
theorem oneB_n (ls : List (List UInt8)) : (oneB ls).n ≤ ls.length ∧ ((oneB ls).err = 0 → 1 ≤ (oneB ls).n) := by
  have h := joinB_body ls
  unfold oneB
  split
  · rename_i h0; exact ⟨Nat.zero_le _, fun e => absurd e h0⟩
  · split
    · exact ⟨Nat.zero_le _, fun e => absurd e (by decide)⟩
    · split
      · rename_i h0 h1 h2; exact ⟨Nat.zero_le _, fun e => absurd e h2⟩
      · rename_i h0 h1 h2
        exact ⟨h.2.1, fun _ => h.2.2.1 (Classical.byContradiction fun e => h0 e)⟩
theorem oneB_nil : oneB [] = ⟨[], 0, 8⟩ := by
  have : joinB [] = ⟨[], 0, 8⟩ := rfl
  unfold oneB; rw [this]; rfl

/-! ### Scanning -/
abbrev Fnd := Int × List UInt8
def scanF : Nat → Nat → List (List UInt8) → List Fnd × Nat
  | 0, c, _ => ([], c)
  | f + 1, c, ls => if (oneB ls).err ≠ 0 then ([], c) else (((c : Int), (oneB ls).body) :: (scanF f (c + (oneB ls).n) (ls.drop (oneB ls).n)).1, (scanF f (c + (oneB ls).n) (ls.drop (oneB ls).n)).2)
def scanB (ls : List (List UInt8)) : List Fnd × Nat := scanF ls.length 0 ls
/-- What is scanned from a place on. -/
def scanAt (c : Nat) (ls : List (List UInt8)) : List Fnd × Nat := scanF ls.length c ls
theorem scanF_stop (f c : Nat) (ls : List (List UInt8)) (h : (oneB ls).err ≠ 0) : scanF f c ls = ([], c) := by
  cases f with
  | zero => rfl
  | succ f => simp only [scanF]; rw [if_pos h]
theorem scanF_fuel : ∀ (f f' c : Nat) (ls : List (List UInt8)), ls.length ≤ f → ls.length ≤ f' → scanF f c ls = scanF f' c ls
  | 0, f', c, ls, h, _ => by
    have : ls = [] := List.eq_nil_of_length_eq_zero (by omega)
    subst this
    rw [scanF_stop f' c [] (by rw [oneB_nil]; decide)]; rfl
  | f + 1, 0, c, ls, _, h => by
    have : ls = [] := List.eq_nil_of_length_eq_zero (by omega)
    subst this
    rw [scanF_stop (f + 1) c [] (by rw [oneB_nil]; decide)]; rfl
  | f + 1, f' + 1, c, ls, h1, h2 => by
    simp only [scanF]
    by_cases h : (oneB ls).err ≠ 0
    · rw [if_pos h, if_pos h]
    · rw [if_neg h, if_neg h]
      have hn := (oneB_n ls).2 (Classical.byContradiction fun e => h e)
      rw [scanF_fuel f f' _ _ (by rw [List.length_drop]; omega) (by rw [List.length_drop]; omega)]
theorem scanAt_stop (c : Nat) (ls : List (List UInt8)) (h : (oneB ls).err ≠ 0) : scanAt c ls = ([], c) := scanF_stop _ c ls h
theorem scanAt_go (c : Nat) (ls : List (List UInt8)) (h : (oneB ls).err = 0) : scanAt c ls = (((c : Int), (oneB ls).body) :: (scanAt (c + (oneB ls).n) (ls.drop (oneB ls).n)).1, (scanAt (c + (oneB ls).n) (ls.drop (oneB ls).n)).2) := by
  unfold scanAt
  cases hl : ls.length with
  | zero =>
    have : ls = [] := List.eq_nil_of_length_eq_zero hl
    subst this
    rw [oneB_nil] at h; exact absurd h (by decide)
  | succ f =>
    simp only [scanF]
    rw [if_neg (by simpa using h)]
    have hn := (oneB_n ls).2 h
    rw [scanF_fuel f (ls.drop (oneB ls).n).length _ _ (by rw [List.length_drop]; omega) (Nat.le_refl _)]

/-! ### What is laid is scanned -/
theorem unfixed_four (b : List UInt8) (h : b.length ≤ 8192) (r : List UInt8) : un (unfixed ((fixedL b.length 4 ++ r).take 4)) = (b.length : Int) := by
  have e : (fixedL b.length 4 ++ r).take 4 = fixedL b.length 4 := by
    rw [List.take_append_of_le_length (by rw [fixedL_length]; omega), List.take_of_length_le (by rw [fixedL_length]; omega)]
  rw [e]
  have h1 : valL (fixedL b.length 4) = b.length := by
    have e1 : (UInt8.ofNat (b.length / 256 ^ 3)).toNat = b.length / 16777216 % 256 := by rw [toNat_ofNat8] <;> omega
    have e2 : (UInt8.ofNat (b.length / 256 ^ 2)).toNat = b.length / 65536 % 256 := by rw [toNat_ofNat8] <;> omega
    have e3 : (UInt8.ofNat (b.length / 256 ^ 1)).toNat = b.length / 256 % 256 := by rw [toNat_ofNat8] <;> omega
    have e4 : (UInt8.ofNat (b.length / 256 ^ 0)).toNat = b.length % 256 := by rw [toNat_ofNat8] <;> omega
    show (((0 * 256 + (UInt8.ofNat (b.length / 256 ^ 3)).toNat) * 256 + (UInt8.ofNat (b.length / 256 ^ 2)).toNat) * 256 + (UInt8.ofNat (b.length / 256 ^ 1)).toNat) * 256 + (UInt8.ofNat (b.length / 256 ^ 0)).toNat = _
    rw [e1, e2, e3, e4]; omega
  unfold unfixed un
  rw [h1, BitVec.toNat_ofNat, Nat.mod_eq_of_lt (by omega)]
theorem layB_some (b : List UInt8) : 0 < (layB b).length := by
  have := layF_length b.length 1 b (Nat.le_refl _)
  unfold needB at this
  show 0 < (layF b.length 1 b).length
  split at this <;> omega
theorem oneB_lay (b : List UInt8) (hb : b.length ≤ 8192) (r : List (List UInt8)) (hr : joinGo 2 r = ⟨[], 0⟩) : oneB (layB (frameL b) ++ r) = ⟨b, (layB (frameL b)).length, 0⟩ := by
  have hj : joinB (layB (frameL b) ++ r) = ⟨frameL b, (layB (frameL b)).length, 0⟩ :=
    told_some' (join_lay _ 1 _ r (.inl rfl) (Nat.le_refl _) hr) (layB_some _)
  have hd : (frameL b).drop 4 = sealL b := by
    unfold frameL
    rw [List.drop_append_of_le_length (by rw [fixedL_length]; omega), List.drop_of_length_le (by rw [fixedL_length]; omega), List.nil_append]
  have h4 : un (unfixed ((frameL b).take 4)) = (b.length : Int) := unfixed_four b hb (sealL b)
  unfold oneB
  rw [hj]
  dsimp only
  rw [if_neg (by simp), frameL_length, h4, if_neg (by omega), hd, openL_seal, if_neg (by simp)]
/-- The blocks of bodies, one behind the other. -/
def laidB : List (List UInt8) → List (List UInt8)
  | [] => []
  | b :: r => layB (frameL b) ++ laidB r
theorem laidB_first (bs : List (List UInt8)) : joinGo 2 (laidB bs) = ⟨[], 0⟩ := by
  cases bs with
  | nil => rfl
  | cons b r => exact joinGo_first _ _
/-- Where each body stands, and the place behind the last one. -/
def placeB : Nat → List (List UInt8) → List Fnd
  | _, [] => []
  | c, b :: r => ((c : Int), b) :: placeB (c + (layB (frameL b)).length) r
theorem scan_laid : ∀ (bs : List (List UInt8)) (c : Nat) (tail : List (List UInt8)), (∀ b ∈ bs, b.length ≤ 8192) → joinGo 2 tail = ⟨[], 0⟩ → (oneB tail).err ≠ 0 →
    scanAt c (laidB bs ++ tail) = (placeB c bs, c + (laidB bs).length)
  | [], c, tail, _, _, h => by simpa [laidB, placeB] using scanAt_stop c tail h
  | b :: r, c, tail, hb, ht, he => by
    have hr : joinGo 2 (laidB r ++ tail) = ⟨[], 0⟩ := by
      cases r with
      | nil => simpa [laidB] using ht
      | cons x r => simp only [laidB, List.append_assoc]; exact joinGo_first _ _
    have ho := oneB_lay b (hb b List.mem_cons_self) (laidB r ++ tail) hr
    have e : laidB (b :: r) ++ tail = layB (frameL b) ++ (laidB r ++ tail) := by simp [laidB]
    rw [e, scanAt_go c _ (by rw [ho]), ho]
    dsimp only
    rw [List.drop_left, scan_laid r _ tail (fun x hx => hb x (List.mem_cons_of_mem _ hx)) ht he]
    simp only [placeB, laidB, List.length_append]
    rw [Nat.add_assoc]
theorem scan_back (bs : List (List UInt8)) (hb : ∀ b ∈ bs, b.length ≤ 8192) : scanB (laidB bs) = (placeB 0 bs, (laidB bs).length) := by
  have := scan_laid bs 0 [] hb rfl (by rw [oneB_nil]; decide)
  rw [List.append_nil, Nat.zero_add] at this
  exact this
end Go.Proofs.Ytlbeemjcndhenaa
