/- The bit operations of layer 1 as numbers. No program here. -/
import Derived.Test.YtpejdompanhieaaVar
import Derived.IntWalk
import Derived.WalkSpells
namespace Go.Proofs.Ytpejdompanhieaa
open Go.RowKit

theorem un_of (x : Nat) (h : x < 18446744073709551616) : (x : Int) = un (BitVec.ofNat 64 x) := by
  unfold un
  rw [BitVec.toNat_ofNat, Nat.mod_eq_of_lt h]
theorem zig_bits (n : Int) (h1 : -9223372036854775808 ≤ n) (h2 : n ≤ 9223372036854775807) :
    bits .xor .u64 (IntKind.u64.wrap (IntKind.u64.wrap n * 2)) (IntKind.u64.wrap (n / 9223372036854775808)) = ((zig n : Nat) : Int) := by
  unfold zig
  by_cases h : 0 ≤ n
  · rw [if_pos h]
    have e1 : IntKind.u64.wrap (IntKind.u64.wrap n * 2) = un (BitVec.ofNat 64 (2 * n).toNat) := by
      rw [← un_of _ (by omega), IntKind.wrap_u64, IntKind.wrap_u64]; omega
    have e2 : IntKind.u64.wrap (n / 9223372036854775808) = un 0#64 := by
      rw [show n / 9223372036854775808 = 0 by omega]; decide
    rw [e1, e2, bits_xor_bv, BitVec.xor_zero, ← un_of _ (by omega)]
  · rw [if_neg h]
    have e1 : IntKind.u64.wrap (IntKind.u64.wrap n * 2) = un (BitVec.ofNat 64 (2 * n + 18446744073709551616).toNat) := by
      rw [← un_of _ (by omega), IntKind.wrap_u64, IntKind.wrap_u64]; omega
    have e2 : IntKind.u64.wrap (n / 9223372036854775808) = 18446744073709551615 := by
      rw [show n / 9223372036854775808 = -1 by omega]; decide
    rw [e1, e2, ones_xor]
    unfold un
    rw [BitVec.toNat_not, BitVec.toNat_ofNat, Nat.mod_eq_of_lt (by omega)]
    omega
theorem wraps_u64 (n : Int) (h₀ : 0 ≤ n) (h₁ : n < 2 ^ 64) : IntKind.u64.wrap n = n := by rw [IntKind.wrap_u64]; omega
theorem and_one64 (u : Nat) (h : u < 18446744073709551616) : bits .and .u64 (u : Int) 1 = (u : Int) % 2 :=
  bits_mask .u64 64 (by decide) wraps_u64 1 (by decide) u (by omega) (by omega)
theorem xor_neg1 (x : Nat) (h : x < 9223372036854775808) : bits .xor .i64 (x : Int) (-1) = -(x : Int) - 1 := by
  show IntKind.i64.wrap (((BitVec.ofInt 64 (x : Int) ^^^ BitVec.ofInt 64 (-1)).toNat : Nat) : Int) = _
  have e : BitVec.ofInt 64 (-1) = BitVec.allOnes 64 := by decide
  rw [e, BitVec.xor_allOnes, BitVec.toNat_not, BitVec.ofInt_natCast, BitVec.toNat_ofNat, Nat.mod_eq_of_lt (by omega), IntKind.wrap_i64]
  omega
theorem xor_zero64 (x : Nat) (h : x < 9223372036854775808) : bits .xor .i64 (x : Int) 0 = (x : Int) := by
  show IntKind.i64.wrap (((BitVec.ofInt 64 (x : Int) ^^^ BitVec.ofInt 64 0).toNat : Nat) : Int) = _
  have e : BitVec.ofInt 64 0 = 0#64 := by decide
  rw [e, BitVec.xor_zero, BitVec.ofInt_natCast, BitVec.toNat_ofNat, Nat.mod_eq_of_lt (by omega), IntKind.wrap_i64]
  omega
theorem zag_bits (u : Nat) (h : u < 18446744073709551616) :
    bits .xor .i64 ((u : Int) / 2) (wrap64 (-wrap64 (bits .and .u64 (u : Int) 1))) = zag u := by
  rw [and_one64 u h]
  unfold zag
  have e0 : ((u : Int) / 2) = ((u / 2 : Nat) : Int) := by omega
  rw [e0]
  by_cases h2 : u % 2 = 0
  · rw [if_pos h2, show (u : Int) % 2 = 0 by omega]
    have e : wrap64 (-wrap64 0) = 0 := by unfold wrap64; omega
    rw [e, xor_zero64 _ (by omega)]
  · rw [if_neg h2, show (u : Int) % 2 = 1 by omega]
    have e : wrap64 (-wrap64 1) = -1 := by unfold wrap64; omega
    rw [e, xor_neg1 _ (by omega)]
theorem u8_or_more : ∀ c : Fin 256, bits .or .u8 (c.val : Int) 128 = ((c.val % 128 + 128 : Nat) : Int) := by decide +kernel
theorem u8_and_low : ∀ c : Fin 256, bits .and .u8 (c.val : Int) 127 = ((c.val % 128 : Nat) : Int) := by decide +kernel
theorem u8_and_more : ∀ c : Fin 256, bits .and .u8 (c.val : Int) 128 = if 128 ≤ c.val then 128 else 0 := by decide +kernel
theorem lay_byte (u : Nat) : bits .or .u8 (IntKind.u8.wrap (u : Int)) 128 = ((UInt8.ofNat (u % 128 + 128)).toNat : Int) := by
  have := u8_or_more ⟨u % 256, by omega⟩
  simp only at this
  rw [show IntKind.u8.wrap (u : Int) = ((u % 256 : Nat) : Int) by rw [IntKind.wrap_u8]; omega, this, toNat_ofNat8]
  omega
theorem lay_last (u : Nat) : IntKind.u8.wrap (u : Int) = ((UInt8.ofNat u).toNat : Int) := by
  rw [toNat_ofNat8, IntKind.wrap_u8]; omega
theorem get_low (x : UInt8) : bits .and .u8 (x.toNat : Int) 127 = ((x.toNat % 128 : Nat) : Int) := u8_and_low ⟨x.toNat, x.toNat_lt⟩
theorem get_more (x : UInt8) : (bits .and .u8 (x.toNat : Int) 128 != 0) = decide (128 ≤ x.toNat) := by
  have := u8_and_more ⟨x.toNat, x.toNat_lt⟩
  simp only at this
  rw [this]
  by_cases h : 128 ≤ x.toNat <;> simp [h]
theorem pow128 (i : Nat) : (2 : Nat) ^ (7 * i) = 128 ^ i := by rw [Nat.pow_mul]
/-- A digit is laid above. -/
theorem or_digit (u y i : Nat) (hu : u < 128 ^ i) (hi : i ≤ 9) : bits .or .u64 (u : Int) (IntKind.u64.wrap ((y : Int) * 2 ^ (7 * i))) = (((u + 128 ^ i * y) % 18446744073709551616 : Nat) : Int) := by
  have hp : (128 : Nat) ^ i ≤ 9223372036854775808 := Nat.le_trans (Nat.pow_le_pow_right (by omega) hi) (by decide)
  have hp0 : 0 < (128 : Nat) ^ i := Nat.pow_pos (by omega)
  have e1 : IntKind.u64.wrap ((y : Int) * 2 ^ (7 * i)) = ((y * 128 ^ i % 18446744073709551616 : Nat) : Int) := by
    rw [IntKind.wrap_u64, show ((y : Int) * 2 ^ (7 * i)) = ((y * 128 ^ i : Nat) : Int) by rw [← pow128]; simp]
    omega
  rw [e1, un_of u (by omega), un_of (y * 128 ^ i % 18446744073709551616) (by omega), bits_or_bv]
  unfold un
  congr 1
  rw [BitVec.toNat_or, BitVec.toNat_ofNat, BitVec.toNat_ofNat, Nat.mod_eq_of_lt (show u < 2 ^ 64 by omega), Nat.mod_eq_of_lt (show y * 128 ^ i % 18446744073709551616 < 2 ^ 64 by omega)]
  have hsplit : (18446744073709551616 : Nat) = 128 ^ i * (18446744073709551616 / 128 ^ i) := by
    have hd : (128 : Nat) ^ i ∣ 18446744073709551616 := by
      rw [← pow128, show (18446744073709551616 : Nat) = 2 ^ 64 by decide]
      exact Nat.pow_dvd_pow 2 (by omega)
    exact (Nat.mul_div_cancel' hd).symm
  have e2 : y * 128 ^ i % 18446744073709551616 = (y % (18446744073709551616 / 128 ^ i)) <<< (7 * i) := by
    rw [Nat.shiftLeft_eq, pow128, Nat.mul_comm y, Nat.mul_comm (y % _)]
    conv => lhs; rw [hsplit]
    rw [Nat.mul_mod_mul_left]
  rw [e2, Nat.or_comm, ← Nat.shiftLeft_add_eq_or_of_lt (by rw [pow128]; exact hu), ← e2]
  have h3 : y * 128 ^ i % 18446744073709551616 + u < 18446744073709551616 := by
    rw [e2, Nat.shiftLeft_eq, pow128]
    have hd : 0 < 18446744073709551616 / 128 ^ i := Nat.div_pos (by omega) hp0
    have h4 : y % (18446744073709551616 / 128 ^ i) + 1 ≤ 18446744073709551616 / 128 ^ i := Nat.mod_lt _ hd
    have h5 := Nat.mul_le_mul_right (128 ^ i) h4
    rw [Nat.add_mul, Nat.one_mul, Nat.mul_comm (18446744073709551616 / 128 ^ i), ← hsplit] at h5
    omega
  rw [Nat.mul_comm (128 ^ i) y]
  omega
theorem sevV_snoc : ∀ (l : List UInt8) (x : UInt8), sevV (l ++ [x]) = sevV l + 128 ^ l.length * (x.toNat % 128)
  | [], x => by simp [sevV]
  | c :: r, x => by
    simp only [List.cons_append, sevV, List.length_cons]
    rw [sevV_snoc r x, Nat.mul_add, ← Nat.mul_assoc, Nat.mul_comm 128 (128 ^ r.length), ← Nat.pow_succ, Nat.add_assoc]
theorem sevV_lt : ∀ l : List UInt8, sevV l < 128 ^ l.length
  | [] => by simp [sevV]
  | c :: r => by
    have := sevV_lt r
    simp only [sevV, List.length_cons]
    have h1 := Nat.mul_le_mul_left 128 this
    rw [show 128 ^ (r.length + 1) = 128 * 128 ^ r.length by rw [Nat.pow_succ, Nat.mul_comm]]
    have : c.toNat % 128 < 128 := Nat.mod_lt _ (by omega)
    rw [Nat.succ_eq_add_one, Nat.mul_add] at h1
    omega
theorem sevV_take (l : List UInt8) {k : Nat} (hk : k < l.length) : sevV (l.take (k + 1)) = sevV (l.take k) + 128 ^ k * (l[k].toNat % 128) := by
  rw [List.take_succ_eq_append_getElem hk, sevV_snoc, List.length_take, Nat.min_eq_left (by omega)]

/-! ### How far bytes above 127 go -/
theorem runV_step : ∀ (l : List UInt8) (k : Nat) (hk : k < l.length), k ≤ runV l → (k + 1 ≤ runV l ↔ 128 ≤ l[k].toNat)
  | [], k, hk, _ => by simp at hk
  | c :: r, 0, _, _ => by
    simp only [runV, List.getElem_cons_zero]
    split <;> omega
  | c :: r, k + 1, hk, h => by
    simp only [runV] at h ⊢
    by_cases hc : 128 ≤ c.toNat
    · rw [if_pos hc] at h ⊢
      have := runV_step r k (by simpa using hk) (by omega)
      simp only [List.getElem_cons_succ]
      omega
    · rw [if_neg hc] at h; omega
theorem getV_ok (b : List UInt8) (k : Nat) (hk : k < (b.take 10).length) (hr : k ≤ runV (b.take 10)) (hx : (b.take 10)[k].toNat < 128) :
    getV b = if vb (sevV (b.take (k + 1)) % 18446744073709551616) = b.take (k + 1) then ⟨zag (sevV (b.take (k + 1)) % 18446744073709551616), k + 1, 0⟩ else ⟨0, 0, 4⟩ := by
  have h1 : ¬ (k + 1 ≤ runV (b.take 10)) := by rw [runV_step _ k hk hr]; omega
  have h2 : runV (b.take 10) = k := by omega
  rw [List.length_take] at hk
  unfold getV
  rw [h2, if_neg (by omega), if_neg (by omega)]
theorem getV_cut (b : List UInt8) (hb : b.length < 10) (hr : b.length ≤ runV (b.take 10)) : getV b = ⟨0, 0, 3⟩ := by
  unfold getV
  rw [if_pos hr, if_pos hb]
theorem getV_form (b : List UInt8) (hb : 10 ≤ b.length) (hr : 10 ≤ runV (b.take 10)) : getV b = ⟨0, 0, 4⟩ := by
  have h1 := runV_le (b.take 10)
  rw [List.length_take] at h1
  unfold getV
  split
  · rw [if_neg (by omega)]
  · rw [if_pos (by omega)]
theorem getV_bounds (b : List UInt8) : (getV b).k ≤ b.length ∧ (getV b).k ≤ 10 ∧ -9223372036854775808 ≤ (getV b).n ∧ (getV b).n ≤ 9223372036854775807 ∧ ((getV b).e = 0 ∨ (getV b).e = 3 ∨ (getV b).e = 4) ∧ ((getV b).e ≠ 0 → (getV b).k = 0 ∧ (getV b).n = 0) := by
  have h1 := runV_le (b.take 10)
  rw [List.length_take] at h1
  unfold getV
  split
  · refine ⟨by simp, by simp, by simp, by simp, ?_, by simp⟩
    show (if b.length < 10 then (3 : Int) else 4) = 0 ∨ _
    split <;> simp
  · split
    · simp
    · split
      · refine ⟨by simp only; omega, by simp only; omega, ?_, ?_, by simp, by simp⟩ <;> simp only <;> unfold zag <;> split <;> omega
      · simp
end Go.Proofs.Ytpejdompanhieaa
