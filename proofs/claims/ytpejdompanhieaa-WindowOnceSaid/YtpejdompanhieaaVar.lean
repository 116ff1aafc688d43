/- Numbers and texts of bytes as plain functions: laying, reading, with their laws. No program here. -/
import Derived.Test.YtpejdompanhieaaSum
namespace Go.Proofs.Ytpejdompanhieaa

/-! ### Signs -/
def zig (n : Int) : Nat := if 0 ≤ n then (2 * n).toNat else (-2 * n - 1).toNat
def zag (u : Nat) : Int := if u % 2 = 0 then ((u / 2 : Nat) : Int) else -((u / 2 : Nat) : Int) - 1
theorem zag_zig (n : Int) : zag (zig n) = n := by
  unfold zag zig
  split
  · rw [if_pos (by omega)]; omega
  · rw [if_neg (by omega)]; omega
theorem zig_zag (u : Nat) : zig (zag u) = u := by
  unfold zag zig
  split
  · rw [if_pos (by omega)]; omega
  · rw [if_neg (by omega)]; omega
theorem zig_lt (n : Int) (h : -9223372036854775808 ≤ n) (h2 : n ≤ 9223372036854775807) : zig n < 18446744073709551616 := by
  unfold zig; split <;> omega

/-! ### Laying -/
def vbF : Nat → Nat → List UInt8
  | 0, u => [UInt8.ofNat u]
  | f + 1, u => if u < 128 then [UInt8.ofNat u] else UInt8.ofNat (u % 128 + 128) :: vbF f (u / 128)
/-- The bytes of a number without a sign. -/
def vb (u : Nat) : List UInt8 := vbF 9 u
def putV (n : Int) : List UInt8 := vb (zig n)
def textV (l : List UInt8) : List UInt8 := putV l.length ++ l
theorem vbF_small (f u : Nat) (h : u < 128) : vbF f u = [UInt8.ofNat u] := by
  cases f with
  | zero => rfl
  | succ f => simp only [vbF]; rw [if_pos h]
theorem vbF_go (f u : Nat) (h : ¬ u < 128) : vbF (f + 1) u = UInt8.ofNat (u % 128 + 128) :: vbF f (u / 128) := by
  simp only [vbF]; rw [if_neg h]
theorem vbF_length : ∀ f u, 1 ≤ (vbF f u).length ∧ (vbF f u).length ≤ f + 1
  | 0, u => by simp [vbF]
  | f + 1, u => by
    have := vbF_length f (u / 128)
    simp only [vbF]
    split
    · simp
    · simp only [List.length_cons]; omega
theorem vb_length (u : Nat) : 1 ≤ (vb u).length ∧ (vb u).length ≤ 10 := vbF_length 9 u

/-! ### Reading -/
/-- The value of bytes, seven bits each. -/
def sevV : List UInt8 → Nat
  | [] => 0
  | c :: r => c.toNat % 128 + 128 * sevV r
/-- How many bytes stand ahead of the first that is below 128. -/
def runV : List UInt8 → Nat
  | [] => 0
  | c :: r => if 128 ≤ c.toNat then runV r + 1 else 0
structure GotV where
  n : Int
  k : Nat
  e : Int
def getV (b : List UInt8) : GotV :=
  if b.length ≤ runV (b.take 10) then ⟨0, 0, if b.length < 10 then 3 else 4⟩
  else if runV (b.take 10) = 10 then ⟨0, 0, 4⟩
  else if vb (sevV (b.take (runV (b.take 10) + 1)) % 18446744073709551616) = b.take (runV (b.take 10) + 1) then ⟨zag (sevV (b.take (runV (b.take 10) + 1)) % 18446744073709551616), runV (b.take 10) + 1, 0⟩ else ⟨0, 0, 4⟩
theorem runV_le : ∀ b : List UInt8, runV b ≤ b.length
  | [] => by simp [runV]
  | c :: r => by
    have := runV_le r
    simp only [runV, List.length_cons]
    split <;> omega
theorem runV_append : ∀ (a b : List UInt8), runV a = a.length → runV (a ++ b) = a.length + runV b
  | [], b, _ => by simp
  | c :: r, b, h => by
    simp only [runV, List.length_cons] at h
    by_cases hc : 128 ≤ c.toNat
    · rw [if_pos hc] at h
      simp only [List.cons_append, runV, List.length_cons]
      rw [if_pos hc, runV_append r b (by omega)]; omega
    · rw [if_neg hc] at h; omega
theorem sevV_vbF : ∀ (f u : Nat), u < 128 ^ (f + 1) → sevV (vbF f u) = u
  | 0, u, h => by
    simp only [vbF, sevV, toNat_ofNat8]
    have : u < 128 := by simpa using h
    omega
  | f + 1, u, h => by
    simp only [vbF]
    split
    · simp only [sevV, toNat_ofNat8]; omega
    · simp only [sevV, toNat_ofNat8]
      rw [sevV_vbF f (u / 128) (by rw [Nat.pow_succ] at h; exact Nat.div_lt_of_lt_mul (by rw [Nat.mul_comm]; exact h))]
      omega
theorem runV_vbF : ∀ (f u : Nat) (r : List UInt8), u < 128 ^ (f + 1) → runV (vbF f u ++ r) + 1 = (vbF f u).length
  | 0, u, r, h => by
    have hu : u < 128 := by simpa using h
    simp only [vbF, List.cons_append, runV, toNat_ofNat8, List.length_cons, List.length_nil]
    rw [if_neg (by omega)]
  | f + 1, u, r, h => by
    simp only [vbF]
    split
    · rename_i hu
      simp only [List.cons_append, runV, toNat_ofNat8, List.length_cons, List.length_nil]
      rw [if_neg (by omega)]
    · have ih := runV_vbF f (u / 128) r (by rw [Nat.pow_succ] at h; exact Nat.div_lt_of_lt_mul (by rw [Nat.mul_comm]; exact h))
      simp only [List.cons_append, runV, toNat_ofNat8, List.length_cons]
      rw [if_pos (by omega), ih]
theorem runV_take : ∀ (b : List UInt8) (n : Nat), runV b < n → runV (b.take n) = runV b
  | [], n, _ => by simp
  | c :: r, 0, h => by omega
  | c :: r, n + 1, h => by
    simp only [List.take_succ_cons, runV] at h ⊢
    split
    · rename_i hc
      rw [if_pos hc] at h
      rw [runV_take r n (by omega)]
    · rfl
/-- What is laid is got, whatever stands behind it. -/
theorem getV_vb (u : Nat) (hu : u < 18446744073709551616) (r : List UInt8) : getV (vb u ++ r) = ⟨zag u, (vb u).length, 0⟩ := by
  have hp : u < 128 ^ (9 + 1) := by omega
  have h1 := runV_vbF 9 u r hp
  have h2 := vb_length u
  have h3 : runV ((vb u ++ r).take 10) = runV (vb u ++ r) := runV_take _ _ (by unfold vb at h2 ⊢; omega)
  have h4 : (vb u ++ r).take ((vb u).length) = vb u := List.take_left
  have h5 : runV (vb u ++ r) + 1 = (vb u).length := h1
  unfold getV
  rw [h3, h5, h4, if_neg (by rw [List.length_append]; omega), if_neg (by omega), show sevV (vb u) = u from sevV_vbF 9 u hp, Nat.mod_eq_of_lt hu, if_pos rfl]
theorem getV_put (n : Int) (h1 : -9223372036854775808 ≤ n) (h2 : n ≤ 9223372036854775807) (r : List UInt8) : getV (putV n ++ r) = ⟨n, (putV n).length, 0⟩ := by
  unfold putV
  rw [getV_vb (zig n) (zig_lt n h1 h2), zag_zig]
end Go.Proofs.Ytpejdompanhieaa
