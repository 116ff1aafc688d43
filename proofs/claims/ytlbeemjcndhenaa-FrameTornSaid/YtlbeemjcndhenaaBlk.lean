/- Blocks as plain functions of bytes: sealing, opening, laying, joining, with their laws. No program here. -/
import Derived.Test.YtlbeemjcndhenaaSum
namespace Go.Proofs.Ytlbeemjcndhenaa

def blockL (k : UInt8) (b : List UInt8) : List UInt8 := k :: UInt8.ofNat b.length :: (b ++ (List.replicate (61 - b.length) 0 ++ [90]))
def goodKind (k : UInt8) : Prop := k = 1 ∨ k = 2
instance (k : UInt8) : Decidable (goodKind k) := by unfold goodKind; infer_instance
def sealB (k : UInt8) (b : List UInt8) : List UInt8 × Int := if ¬ goodKind k then ([], 22) else if 61 < b.length then ([], 5) else (blockL k b, 0)
/-- The payload that a block's second byte tells. -/
def payload (b : List UInt8) : List UInt8 := (b.drop 2).take (b.getD 1 0).toNat
def isBlock (b : List UInt8) : Prop := goodKind (b.getD 0 0) ∧ (b.getD 1 0).toNat ≤ 61 ∧ b = blockL (b.getD 0 0) (payload b)
instance (b : List UInt8) : Decidable (isBlock b) := by unfold isBlock; infer_instance
structure Opened where
  kind : UInt8
  body : List UInt8
  err : Int
def openB (b : List UInt8) : Opened :=
  if b.length ≠ 64 ∨ b.getD 63 0 ≠ 90 then ⟨0, [], 3⟩ else if isBlock b then ⟨b.getD 0 0, payload b, 0⟩ else ⟨0, [], 4⟩

theorem blockL_length (k : UInt8) (b : List UInt8) (h : b.length ≤ 61) : (blockL k b).length = 64 := by simp [blockL]; omega
theorem blockL_kind (k : UInt8) (b : List UInt8) : (blockL k b).getD 0 0 = k := rfl
theorem blockL_len (k : UInt8) (b : List UInt8) (h : b.length ≤ 61) : ((blockL k b).getD 1 0).toNat = b.length := by
  show (UInt8.ofNat b.length).toNat = _
  rw [toNat_ofNat8]; omega
theorem blockL_last (k : UInt8) (b : List UInt8) (h : b.length ≤ 61) : (blockL k b).getD 63 0 = 90 := by
  have e : (blockL k b)[63]? = some 90 := by
    unfold blockL
    rw [List.getElem?_cons_succ, List.getElem?_cons_succ, List.getElem?_append_right (by omega), List.getElem?_append_right (by simp)]
    have : 61 - b.length - (List.replicate (61 - b.length) (0 : UInt8)).length = 0 := by simp
    rw [this]
    rfl
  simp [List.getD_eq_getElem?_getD, e]
theorem payload_blockL (k : UInt8) (b : List UInt8) (h : b.length ≤ 61) : payload (blockL k b) = b := by
  unfold payload
  rw [blockL_len k b h]
  simp [blockL]
theorem open_block (k : UInt8) (b : List UInt8) (hk : goodKind k) (h : b.length ≤ 61) : openB (blockL k b) = ⟨k, b, 0⟩ := by
  unfold openB
  rw [if_neg (by rw [blockL_length k b h, blockL_last k b h]; simp), if_pos]
  · rw [blockL_kind, payload_blockL k b h]
  · exact ⟨hk, by rw [blockL_len k b h]; exact h, by rw [blockL_kind, payload_blockL k b h]⟩
theorem open_last (b : List UInt8) (h : b.getD 63 0 ≠ 90) : openB b = ⟨0, [], 3⟩ := by unfold openB; rw [if_pos (.inr h)]
theorem open_err (b : List UInt8) : (openB b).err = 0 → goodKind (openB b).kind ∧ b = blockL (openB b).kind (openB b).body ∧ (openB b).body.length ≤ 61 := by
  unfold openB
  split
  · intro h; simp at h
  · split
    · rename_i h1 h2
      intro _
      refine ⟨h2.1, h2.2.2, ?_⟩
      have := h2.2.1
      have h3 := List.length_take_le (b.getD 1 0).toNat (b.drop 2)
      exact Nat.le_trans h3 this
    · intro h; simp at h
theorem payload_length (b : List UInt8) : (payload b).length ≤ (b.getD 1 0).toNat := List.length_take_le _ _

/-- A text of 64 bytes is its kind, its length, its payload, the rest and its last byte. -/
theorem split64 (b : List UInt8) (h : b.length = 64) {n : Nat} (hn : n ≤ 61) :
    b = b.getD 0 0 :: b.getD 1 0 :: ((b.drop 2).take n ++ ((b.drop (2 + n)).take (61 - n) ++ [b.getD 63 0])) := by
  have e1 : b = b.take 2 ++ b.drop 2 := (List.take_append_drop 2 b).symm
  have e2 : b.drop 2 = (b.drop 2).take n ++ b.drop (2 + n) := by rw [← List.drop_drop]; exact (List.take_append_drop n _).symm
  have e3 : b.drop (2 + n) = (b.drop (2 + n)).take (61 - n) ++ b.drop 63 := by
    have : b.drop 63 = (b.drop (2 + n)).drop (61 - n) := by rw [List.drop_drop]; congr 1; omega
    rw [this]
    exact (List.take_append_drop _ _).symm
  have e4 : b.drop 63 = [b.getD 63 0] := by
    rw [List.drop_eq_getElem_cons (show 63 < b.length by omega), List.drop_of_length_le (by omega)]
    simp [List.getD_eq_getElem?_getD, show 63 < b.length by omega]
  have e5 : b.take 2 = [b.getD 0 0, b.getD 1 0] := by
    match b, h with
    | x :: y :: r, _ => rfl
  have e6 : b.take 2 ++ ((b.drop 2).take n ++ ((b.drop (2 + n)).take (61 - n) ++ b.drop 63)) = b := by rw [← e3, ← e2, ← e1]
  rw [e5, e4] at e6
  exact e6.symm
theorem isBlock_iff (b : List UInt8) (h : b.length = 64) (hl : b.getD 63 0 = 90) (hk : goodKind (b.getD 0 0)) (hn : (b.getD 1 0).toNat ≤ 61) :
    isBlock b ↔ (b.drop (2 + (b.getD 1 0).toNat)).take (61 - (b.getD 1 0).toNat) = List.replicate (61 - (b.getD 1 0).toNat) 0 := by
  have hs := split64 b h hn
  have hpl : (payload b).length = (b.getD 1 0).toNat := by unfold payload; rw [List.length_take, List.length_drop]; omega
  rw [hl] at hs
  constructor
  · intro hb
    have e := hb.2.2
    unfold blockL at e
    rw [hpl] at e
    have e2 := hs.symm.trans e
    simp only [List.cons.injEq, true_and] at e2
    have e3 := e2.2
    have e4 := List.append_cancel_left e3
    exact List.append_cancel_right e4
  · intro hz
    refine ⟨hk, hn, ?_⟩
    unfold blockL
    rw [hpl]
    rw [hz] at hs
    have : UInt8.ofNat (b.getD 1 0).toNat = b.getD 1 0 := by simp
    rw [this]
    exact hs

/-! ### Laying -/
def layF : Nat → UInt8 → List UInt8 → List (List UInt8)
  | 0, k, b => [blockL k b]
  | n + 1, k, b => if b.length ≤ 61 then [blockL k b] else blockL k (b.take 61) :: layF n 2 (b.drop 61)
def layB (b : List UInt8) : List (List UInt8) := layF b.length 1 b
theorem layF_short (n : Nat) (k : UInt8) (b : List UInt8) (h : b.length ≤ 61) : layF n k b = [blockL k b] := by
  cases n with
  | zero => rfl
  | succ n => simp [layF, h]
theorem layF_fuel : ∀ (n m : Nat) (k : UInt8) (b : List UInt8), b.length ≤ n → b.length ≤ m → layF n k b = layF m k b
  | 0, m, k, b, h, _ => by rw [layF_short 0 k b (by omega), layF_short m k b (by omega)]
  | n + 1, 0, k, b, _, h => by rw [layF_short 0 k b (by omega), layF_short (n + 1) k b (by omega)]
  | n + 1, m + 1, k, b, h1, h2 => by
    simp only [layF]
    split
    · rfl
    · rename_i h
      rw [layF_fuel n m 2 (b.drop 61) (by simp; omega) (by simp; omega)]
theorem layF_long (n : Nat) (k : UInt8) (b : List UInt8) (h : 61 < b.length) (hn : b.length ≤ n) : layF n k b = blockL k (b.take 61) :: layF (b.drop 61).length 2 (b.drop 61) := by
  cases n with
  | zero => omega
  | succ n =>
    simp only [layF]
    rw [if_neg (by omega), layF_fuel n (b.drop 61).length 2 (b.drop 61) (by simp; omega) (Nat.le_refl _)]

/-! ### Joining -/
structure Joined where
  body : List UInt8
  n : Nat
def joinGo : UInt8 → List (List UInt8) → Joined
  | _, [] => ⟨[], 0⟩
  | want, b :: r => if (openB b).err = 0 ∧ (openB b).kind = want then ⟨(openB b).body ++ (joinGo 2 r).body, (joinGo 2 r).n + 1⟩ else ⟨[], 0⟩
structure Told where
  body : List UInt8
  n : Nat
  err : Int
def joinB (l : List (List UInt8)) : Told := if (joinGo 1 l).n = 0 then ⟨[], 0, 8⟩ else ⟨(joinGo 1 l).body, (joinGo 1 l).n, 0⟩
/-- How many blocks n bytes need. -/
def needB (n : Int) : Int := if n ≤ 0 then 1 else (n - 1) / 61 + 1

theorem joinGo_stop (want : UInt8) (b : List UInt8) (r : List (List UInt8)) (h : ¬ ((openB b).err = 0 ∧ (openB b).kind = want)) : joinGo want (b :: r) = ⟨[], 0⟩ := by
  simp only [joinGo]; rw [if_neg h]
theorem joinGo_go (want : UInt8) (b : List UInt8) (r : List (List UInt8)) (h : (openB b).err = 0 ∧ (openB b).kind = want) : joinGo want (b :: r) = ⟨(openB b).body ++ (joinGo 2 r).body, (joinGo 2 r).n + 1⟩ := by
  simp only [joinGo]; rw [if_pos h]
/-- What is laid is joined, if what stands behind it does not go on. -/
theorem join_lay : ∀ (n : Nat) (k : UInt8) (b : List UInt8) (r : List (List UInt8)), goodKind k → b.length ≤ n → joinGo 2 r = ⟨[], 0⟩ → joinGo k (layF n k b ++ r) = ⟨b, (layF n k b).length⟩ := by
  intro n
  induction n with
  | zero =>
    intro k b r hk hb hr
    have h0 : b = [] := List.eq_nil_of_length_eq_zero (by omega)
    subst h0
    have ho := open_block k [] hk (by simp)
    show joinGo k (blockL k [] :: r) = _
    rw [joinGo_go _ _ _ (by rw [ho]; exact ⟨rfl, rfl⟩), ho, hr]
    rfl
  | succ n ih =>
    intro k b r hk hb hr
    by_cases h : b.length ≤ 61
    · have ho := open_block k b hk h
      simp only [layF, if_pos h, List.cons_append, List.nil_append]
      rw [joinGo_go _ _ _ (by rw [ho]; exact ⟨rfl, rfl⟩), ho, hr]
      simp
    · have ho := open_block k (b.take 61) hk (by simp; omega)
      simp only [layF, if_neg h, List.cons_append]
      rw [joinGo_go _ _ _ (by rw [ho]; exact ⟨rfl, rfl⟩), ho, ih 2 (b.drop 61) r (.inr rfl) (by simp; omega) hr]
      simp
theorem joinGo_first (b : List UInt8) (r : List (List UInt8)) : joinGo 2 (layB b ++ r) = ⟨[], 0⟩ := by
  unfold layB
  have : ∃ x s, layF b.length 1 b = blockL 1 x :: s ∧ x.length ≤ 61 := by
    cases hb : b.length with
    | zero => exact ⟨b, [], rfl, by omega⟩
    | succ n =>
      simp only [layF]
      split
      · exact ⟨b, [], rfl, by omega⟩
      · exact ⟨b.take 61, _, rfl, by simp; omega⟩
  obtain ⟨x, s, e, hx⟩ := this
  rw [e, List.cons_append]
  exact joinGo_stop _ _ _ (by rw [open_block 1 x (.inl rfl) hx]; simp)
theorem layF_length : ∀ (n : Nat) (k : UInt8) (b : List UInt8), b.length ≤ n → ((layF n k b).length : Int) = needB b.length
  | 0, k, b, h => by
    have : b.length = 0 := by omega
    simp [layF, needB, this]
  | n + 1, k, b, h => by
    simp only [layF]
    split
    · rename_i h1
      unfold needB
      rw [List.length_singleton]
      by_cases h0 : (b.length : Int) ≤ 0
      · rw [if_pos h0]; rfl
      · rw [if_neg h0]; omega
    · rename_i h1
      rw [List.length_cons]
      have := layF_length n 2 (b.drop 61) (by simp; omega)
      simp only [List.length_drop] at this
      unfold needB at this ⊢
      rw [if_neg (by omega)] at this ⊢
      omega

/-- A row of zeros, with kind, length and last byte stored, and the payload copied in. -/
theorem laid_block (k : UInt8) (b : List UInt8) (h : b.length ≤ 61) :
    ((((List.replicate 64 0).set 0 k).set 1 (UInt8.ofNat b.length)).set 63 90).take 2 ++ (b.take (min b.length 62) ++ ((((List.replicate 64 0).set 0 k).set 1 (UInt8.ofNat b.length)).set 63 90).drop (2 + min b.length 62)) = blockL k b := by
  have e1 : min b.length 62 = b.length := by omega
  rw [e1, List.take_of_length_le (Nat.le_refl _)]
  have e2 : ((((List.replicate 64 (0 : UInt8)).set 0 k).set 1 (UInt8.ofNat b.length)).set 63 90) = k :: UInt8.ofNat b.length :: (List.replicate 61 0 ++ [90]) := rfl
  rw [e2]
  unfold blockL
  have e3 : (k :: UInt8.ofNat b.length :: (List.replicate 61 (0 : UInt8) ++ [90])).drop (2 + b.length) = List.replicate (61 - b.length) 0 ++ [90] := by
    rw [Nat.add_comm, List.drop_succ_cons, List.drop_succ_cons, List.drop_append_of_le_length (by simp; omega), List.drop_replicate]
  rw [e3]
  rfl
theorem open_len (b : List UInt8) (h : b.length ≠ 64) : openB b = ⟨0, [], 3⟩ := by unfold openB; rw [if_pos (.inl h)]
theorem open_form (b : List UInt8) (h : b.length = 64) (hl : b.getD 63 0 = 90) (hb : ¬ isBlock b) : openB b = ⟨0, [], 4⟩ := by
  unfold openB; rw [if_neg (by rw [h, hl]; simp), if_neg hb]
theorem open_ok (b : List UInt8) (h : b.length = 64) (hl : b.getD 63 0 = 90) (hb : isBlock b) : openB b = ⟨b.getD 0 0, payload b, 0⟩ := by
  unfold openB; rw [if_neg (by rw [h, hl]; simp), if_pos hb]
/-- What stands behind the payload. -/
def behind (b : List UInt8) : List UInt8 := (b.drop (2 + (b.getD 1 0).toNat)).take (63 - (2 + (b.getD 1 0).toNat))
theorem behind_length (b : List UInt8) (h : b.length = 64) (hn : (b.getD 1 0).toNat ≤ 61) : (behind b).length = 63 - (2 + (b.getD 1 0).toNat) := by
  unfold behind; rw [List.length_take, List.length_drop]; omega
theorem isBlock_of_zeros (b : List UInt8) (h : b.length = 64) (hl : b.getD 63 0 = 90) (hk : goodKind (b.getD 0 0)) (hn : (b.getD 1 0).toNat ≤ 61) (hz : ∀ j (hj : j < (behind b).length), (behind b)[j] = 0) : isBlock b := by
  have e : 61 - (b.getD 1 0).toNat = 63 - (2 + (b.getD 1 0).toNat) := by omega
  rw [isBlock_iff b h hl hk hn, e]
  have hbl := behind_length b h hn
  show behind b = _
  apply List.ext_getElem
  · rw [hbl]; simp
  · intro j h1 h2
    rw [hz j h1]; simp
theorem not_block_of_byte (b : List UInt8) (h : b.length = 64) (hl : b.getD 63 0 = 90) (hk : goodKind (b.getD 0 0)) (hn : (b.getD 1 0).toNat ≤ 61) {j : Nat} (hj : j < (behind b).length) (hz : (behind b)[j] ≠ 0) : ¬ isBlock b := by
  have e : 61 - (b.getD 1 0).toNat = 63 - (2 + (b.getD 1 0).toNat) := by omega
  rw [isBlock_iff b h hl hk hn, e]
  intro hb
  have hb2 : behind b = List.replicate (63 - (2 + (b.getD 1 0).toNat)) 0 := hb
  apply hz
  have : (behind b)[j]? = some 0 := by rw [hb2]; rw [List.getElem?_replicate, if_pos]; rw [hb2] at hj; simpa using hj
  rw [List.getElem?_eq_getElem hj] at this
  exact Option.some.inj this
theorem isBlock_seal (b : List UInt8) (h : b.length = 64) (hk : goodKind (b.getD 0 0)) {n : Nat} (hn : n = min (b.getD 1 0).toNat 61) : blockL (b.getD 0 0) ((b.drop 2).take n) = b ↔ isBlock b := by
  have hlen : ((b.drop 2).take n).length = n := by rw [List.length_take, List.length_drop]; omega
  constructor
  · intro e
    have h1 : (b.getD 1 0).toNat = n := by
      have := blockL_len (b.getD 0 0) ((b.drop 2).take n) (by omega)
      rw [e, hlen] at this
      exact this
    refine ⟨hk, by omega, ?_⟩
    unfold payload
    rw [h1]
    exact e.symm
  · intro hb
    have h1 : n = (b.getD 1 0).toNat := by have := hb.2.1; omega
    have := hb.2.2
    unfold payload at this
    rw [h1]
    exact this.symm
theorem payload_seal (b : List UInt8) (hb : isBlock b) {n : Nat} (hn : n = min (b.getD 1 0).toNat 61) : (b.drop 2).take n = payload b := by
  have h1 : n = (b.getD 1 0).toNat := by have := hb.2.1; omega
  rw [h1]; rfl
end Go.Proofs.Ytlbeemjcndhenaa
