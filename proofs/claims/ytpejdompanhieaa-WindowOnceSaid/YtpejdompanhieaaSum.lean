/- The sum of bytes, and numbers of a set width, as plain functions, with their laws. No program here. -/
import Derived.Laws.Bits64
import Derived.Laws.BitsLemmas
namespace Go.Proofs.Ytpejdompanhieaa

/-! ### 64-bit words as the model's integers -/
def un (c : BitVec 64) : Int := (c.toNat : Int)
abbrev uv (c : BitVec 64) : Value := .int .u64 (un c)
theorem un_nonneg (c : BitVec 64) : 0 ≤ un c := by unfold un; omega
theorem un_lt (c : BitVec 64) : un c < 18446744073709551616 := by unfold un; have := c.isLt; omega
theorem un_inj {a b : BitVec 64} (h : un a = un b) : a = b := BitVec.eq_of_toNat_eq (by unfold un at h; omega)
theorem un_beq (a b : BitVec 64) : (un a == un b) = (a == b) := by
  by_cases h : a = b
  · subst h; simp
  · have h1 : un a ≠ un b := fun e => h (un_inj e)
    rw [beq_eq_false_iff_ne.2 h, beq_eq_false_iff_ne.2 h1]
theorem ofInt_bv (c : BitVec 64) : BitVec.ofInt 64 (un c) = c := by
  unfold un; rw [BitVec.ofInt_natCast]; simp
theorem wrap_bv (c : BitVec 64) : IntKind.u64.wrap (un c) = un c := by
  rw [IntKind.wrap_u64]
  have := un_lt c
  have := un_nonneg c
  omega
theorem bits_xor_bv (a b : BitVec 64) : bits .xor .u64 (un a) (un b) = un (a ^^^ b) := by
  show IntKind.u64.wrap (un (BitVec.ofInt 64 (un a) ^^^ BitVec.ofInt 64 (un b))) = _
  rw [ofInt_bv, ofInt_bv, wrap_bv]
theorem bits_and_bv (a b : BitVec 64) : bits .and .u64 (un a) (un b) = un (a &&& b) := by
  show IntKind.u64.wrap (un (BitVec.ofInt 64 (un a) &&& BitVec.ofInt 64 (un b))) = _
  rw [ofInt_bv, ofInt_bv, wrap_bv]
theorem bits_or_bv (a b : BitVec 64) : bits .or .u64 (un a) (un b) = un (a ||| b) := by
  show IntKind.u64.wrap (un (BitVec.ofInt 64 (un a) ||| BitVec.ofInt 64 (un b))) = _
  rw [ofInt_bv, ofInt_bv, wrap_bv]
theorem wrap_neg_bv (a : BitVec 64) : IntKind.u64.wrap (-(un a)) = un (-a) := by
  unfold un
  rw [IntKind.wrap_u64, BitVec.toNat_neg]
  have := a.isLt
  omega
theorem div2_bv (a : BitVec 64) : un a / (2 : Int) = un (a >>> 1) := by
  unfold un
  rw [BitVec.toNat_ushiftRight, Nat.shiftRight_eq_div_pow]
  simp
theorem quo2_bv (a : BitVec 64) : IntKind.u64.wrap ((un a).tdiv 2) = un (a >>> 1) := by
  rw [Int.tdiv_eq_ediv_of_nonneg (un_nonneg a), div2_bv, wrap_bv]
/-- All ones: a name that nothing opens. -/
def ones : BitVec 64 := BitVec.allOnes 64
theorem not_bv (a : BitVec 64) : bits .xor .u64 IntKind.u64.max (un a) = un (~~~ a) := by
  have e : IntKind.u64.max = un (BitVec.allOnes 64) := by decide
  rw [e, bits_xor_bv]
  rw [BitVec.allOnes_xor]

/-! ### The sum -/
def poly : BitVec 64 := 0xc96c5795d7870f42#64
def crcBit (c : BitVec 64) : BitVec 64 := (c >>> 1) ^^^ (if c.getLsbD 0 then poly else 0)
def crcN : Nat → BitVec 64 → BitVec 64
  | 0, c => c
  | n + 1, c => crcBit (crcN n c)
def ofByte (x : UInt8) : BitVec 64 := BitVec.ofNat 64 x.toNat
def crcByte (c : BitVec 64) (x : UInt8) : BitVec 64 := crcN 8 (c ^^^ ofByte x)
def crcAll (c : BitVec 64) (l : List UInt8) : BitVec 64 := l.foldl crcByte c
def sumMore (s : BitVec 64) (l : List UInt8) : BitVec 64 := ~~~ crcAll (~~~ s) l
def sumOf (l : List UInt8) : BitVec 64 := sumMore 0 l

theorem crcN_add (m n : Nat) (c : BitVec 64) : crcN m (crcN n c) = crcN (m + n) c := by
  induction m with
  | zero => simp [crcN]
  | succ m ih => rw [Nat.succ_add]; simp only [crcN]; rw [ih]
theorem toNat_ofByte (x : UInt8) : (ofByte x).toNat = x.toNat := by
  unfold ofByte
  rw [BitVec.toNat_ofNat]
  have := x.toNat_lt
  omega
theorem lsb_mod (c : BitVec 64) : c.getLsbD 0 = decide (c.toNat % 2 = 1) := by
  rw [BitVec.getLsbD]
  simp [Nat.testBit_zero]
theorem and_one (c : BitVec 64) : c &&& 1#64 = if c.getLsbD 0 then 1#64 else 0#64 := by
  apply BitVec.eq_of_toNat_eq
  rw [BitVec.toNat_and, lsb_mod]
  have : (1#64).toNat = 1 := rfl
  rw [this, Nat.and_one_is_mod]
  by_cases h : c.toNat % 2 = 1
  · simp [h]
  · have : c.toNat % 2 = 0 := by omega
    simp [this]
theorem half_step (c : BitVec 64) : bits .xor .u64 (un c / 2) (bits .and .u64 14514072000185962306 (IntKind.u64.wrap (-bits .and .u64 (un c) 1))) = un (crcBit c) := by
  have e1 : (1 : Int) = un (1#64) := rfl
  have e2 : (14514072000185962306 : Int) = un poly := rfl
  rw [e1, bits_and_bv, wrap_neg_bv, e2, bits_and_bv, div2_bv, bits_xor_bv]
  have e3 : poly &&& -(c &&& 1#64) = if c.getLsbD 0 then poly else 0 := by
    rw [and_one]
    cases c.getLsbD 0 <;> simp
    decide
  rw [e3]
  rfl
theorem un_byte (x : UInt8) : un (ofByte x) = (x.toNat : Int) := by unfold un; rw [toNat_ofByte]
theorem xor_byte (c : BitVec 64) (x : UInt8) : bits .xor .u64 (un c) (x.toNat : Int) = un (c ^^^ ofByte x) := by
  rw [← un_byte, bits_xor_bv]
theorem shr_crc (c : BitVec 64) : crcBit c = if un c % 2 = 1 then (c >>> 1) ^^^ poly else c >>> 1 := by
  unfold crcBit
  rw [lsb_mod]
  unfold un
  by_cases h : c.toNat % 2 = 1
  · have h2 : (c.toNat : Int) % 2 = 1 := by omega
    simp [h, h2]
  · have h2 : ¬ (c.toNat : Int) % 2 = 1 := by omega
    simp [h, h2]
theorem poly_xor (c : BitVec 64) : bits .xor .u64 (un c) 14514072000185962306 = un (c ^^^ poly) := by
  have e : (14514072000185962306 : Int) = un poly := rfl
  rw [e, bits_xor_bv]
theorem ones_xor (c : BitVec 64) : bits .xor .u64 (un c) 18446744073709551615 = un (~~~ c) := by
  have e : (18446744073709551615 : Int) = un (BitVec.allOnes 64) := rfl
  rw [e, bits_xor_bv]
  rw [BitVec.xor_allOnes]
theorem crcAll_snoc8 (c : BitVec 64) (l : List UInt8) {k : Nat} (hk : k < l.length) : crcAll c (l.take (k + 1)) = crcN 8 (crcAll c (l.take k) ^^^ ofByte l[k]) := by
  rw [List.take_succ_eq_append_getElem hk]
  simp only [crcAll, List.foldl_append, List.foldl_cons, List.foldl_nil, crcByte]
theorem crcAll_snoc (c : BitVec 64) (l : List UInt8) {k : Nat} (hk : k < l.length) : crcAll c (l.take (k + 1)) = crcN 4 (crcN 4 (crcAll c (l.take k) ^^^ ofByte l[k])) := by
  rw [List.take_succ_eq_append_getElem hk, crcN_add]
  simp only [crcAll, List.foldl_append, List.foldl_cons, List.foldl_nil, crcByte]

theorem sumMore_append (s : BitVec 64) (a b : List UInt8) : sumMore (sumMore s a) b = sumMore s (a ++ b) := by
  simp [sumMore, crcAll, List.foldl_append]

/-! ### Numbers of a set width, the greatest byte first -/
def fixedL (n : Nat) : Nat → List UInt8
  | 0 => []
  | k + 1 => UInt8.ofNat (n / 256 ^ k) :: fixedL n k
def valL (l : List UInt8) : Nat := l.foldl (fun n c => n * 256 + c.toNat) 0
def unfixed (l : List UInt8) : BitVec 64 := BitVec.ofNat 64 (valL l)
theorem fixedL_length (n k : Nat) : (fixedL n k).length = k := by
  induction k with
  | zero => rfl
  | succ k ih => simp [fixedL, ih]
theorem valL_snoc (l : List UInt8) (x : UInt8) : valL (l ++ [x]) = valL l * 256 + x.toNat := by simp [valL]
theorem valL_take (l : List UInt8) {k : Nat} (hk : k < l.length) : valL (l.take (k + 1)) = valL (l.take k) * 256 + l[k].toNat := by
  rw [List.take_succ_eq_append_getElem hk, valL_snoc]
theorem valL_foldl (m : Nat) (l : List UInt8) : l.foldl (fun n c => n * 256 + c.toNat) m = m * 256 ^ l.length + valL l := by
  induction l generalizing m with
  | nil => simp [valL]
  | cons x l ih =>
    have h0 : valL (x :: l) = x.toNat * 256 ^ l.length + valL l := by
      show List.foldl _ (0 * 256 + x.toNat) l = _
      rw [ih]; simp
    rw [List.foldl_cons, ih, h0, List.length_cons, Nat.pow_succ]
    rw [Nat.add_mul, Nat.mul_assoc, Nat.mul_comm 256, Nat.add_assoc]
theorem valL_cons (x : UInt8) (l : List UInt8) : valL (x :: l) = x.toNat * 256 ^ l.length + valL l := by
  show List.foldl _ (0 * 256 + x.toNat) l = _
  rw [valL_foldl]; simp
theorem valL_lt (l : List UInt8) : valL l < 256 ^ l.length := by
  induction l with
  | nil => simp [valL]
  | cons x l ih =>
    rw [valL_cons, List.length_cons, Nat.pow_succ]
    have h := x.toNat_lt
    have h2 : x.toNat * 256 ^ l.length ≤ 255 * 256 ^ l.length := Nat.mul_le_mul_right _ (by omega)
    omega
theorem toNat_ofNat8 (n : Nat) : (UInt8.ofNat n).toNat = n % 256 := by simp
theorem valL_fixedL (n k : Nat) : valL (fixedL n k) = n % 256 ^ k := by
  induction k with
  | zero => simp [fixedL, valL, Nat.mod_one]
  | succ k ih =>
    simp only [fixedL]
    rw [valL_cons, ih, fixedL_length, toNat_ofNat8, Nat.pow_succ, Nat.mod_mul]
    rw [Nat.mul_comm]; omega
theorem valL_inj : ∀ (a b : List UInt8), a.length = b.length → valL a = valL b → a = b
  | [], [], _, _ => rfl
  | [], _ :: _, h, _ => by simp at h
  | _ :: _, [], h, _ => by simp at h
  | x :: a, y :: b, hl, hv => by
    have hl' : a.length = b.length := by simpa using hl
    rw [valL_cons, valL_cons, hl'] at hv
    have h1 := valL_lt a
    have h2 := valL_lt b
    rw [hl'] at h1
    have hp : 0 < 256 ^ b.length := Nat.pos_of_ne_zero (by simp)
    have hx : x.toNat = y.toNat := by
      have e1 : (x.toNat * 256 ^ b.length + valL a) / 256 ^ b.length = x.toNat := by
        rw [Nat.mul_comm, Nat.mul_add_div hp, Nat.div_eq_of_lt h1]; rfl
      have e2 : (y.toNat * 256 ^ b.length + valL b) / 256 ^ b.length = y.toNat := by
        rw [Nat.mul_comm, Nat.mul_add_div hp, Nat.div_eq_of_lt h2]; rfl
      rw [← e1, ← e2, hv]
    have hr : valL a = valL b := by rw [hx] at hv; omega
    rw [UInt8.toNat_inj.1 hx, valL_inj a b hl' hr]
theorem unfixed_toNat (l : List UInt8) (h : l.length ≤ 8) : (unfixed l).toNat = valL l := by
  unfold unfixed
  rw [BitVec.toNat_ofNat]
  refine Nat.mod_eq_of_lt (Nat.lt_of_lt_of_le (valL_lt l) ?_)
  have : (256 : Nat) ^ l.length ≤ 256 ^ 8 := Nat.pow_le_pow_right (by omega) h
  omega
theorem unfixed_fixed (n : BitVec 64) : unfixed (fixedL n.toNat 8) = n := by
  apply BitVec.eq_of_toNat_eq
  rw [unfixed_toNat _ (by rw [fixedL_length]; omega), valL_fixedL]
  have := n.isLt
  omega
theorem fixed_unfixed (l : List UInt8) (h : l.length = 8) : fixedL (unfixed l).toNat 8 = l := by
  apply valL_inj _ _ (by rw [fixedL_length, h])
  rw [valL_fixedL, unfixed_toNat _ (by omega)]
  have := valL_lt l
  rw [h] at this
  omega
theorem wrap_mul256 (n : Nat) : IntKind.u64.wrap (un (BitVec.ofNat 64 n) * 256) = un (BitVec.ofNat 64 n <<< 8) := by
  unfold un
  rw [IntKind.wrap_u64, BitVec.toNat_shiftLeft, Nat.shiftLeft_eq]
  omega
theorem or_byte (n : Nat) (x : UInt8) : bits .or .u64 (un (BitVec.ofNat 64 n <<< 8)) (x.toNat : Int) = un (BitVec.ofNat 64 (n * 256 + x.toNat)) := by
  rw [← un_byte, bits_or_bv]
  unfold un
  congr 1
  rw [BitVec.toNat_or, toNat_ofByte, BitVec.toNat_shiftLeft, BitVec.toNat_ofNat, BitVec.toNat_ofNat]
  have hx := x.toNat_lt
  have e : (n % 2 ^ 64) <<< 8 % 2 ^ 64 = (n % 2 ^ 56) <<< 8 := by
    rw [Nat.shiftLeft_eq, Nat.shiftLeft_eq]; omega
  rw [e, ← Nat.shiftLeft_add_eq_or_of_lt (by omega), Nat.shiftLeft_eq]
  omega

theorem byte_at (n : BitVec 64) (j : Nat) : un n / 2 ^ (8 * j) % 256 = ((UInt8.ofNat (n.toNat / 256 ^ j)).toNat : Int) := by
  rw [toNat_ofNat8]
  unfold un
  have e : (256 : Nat) ^ j = 2 ^ (8 * j) := by rw [Nat.pow_mul]
  rw [e]
  simp
theorem fixed_store (n k j : Nat) (h : j < k) : (List.replicate (k - j) (0 : UInt8) ++ fixedL n j).set (k - 1 - j) (UInt8.ofNat (n / 256 ^ j)) = List.replicate (k - (j + 1)) 0 ++ fixedL n (j + 1) := by
  have e : k - j = (k - (j + 1)) + 1 := by omega
  rw [e, List.replicate_succ', List.append_assoc, List.set_append_right _ _ (by simp; omega)]
  have e2 : k - 1 - j - (List.replicate (k - (j + 1)) (0 : UInt8)).length = 0 := by simp; omega
  rw [e2]
  rfl

/-! ### Sealed bytes -/
def sealL (l : List UInt8) : List UInt8 := fixedL (sumOf l).toNat 8 ++ l
def openL (l : List UInt8) : List UInt8 × Int :=
  if l.length < 8 then ([], 3) else if unfixed (l.take 8) ≠ sumOf (l.drop 8) then ([], 12) else (l.drop 8, 0)
theorem sealL_length (l : List UInt8) : (sealL l).length = l.length + 8 := by simp [sealL, fixedL_length]; omega
theorem sealL_take (l : List UInt8) : (sealL l).take 8 = fixedL (sumOf l).toNat 8 := by
  unfold sealL
  rw [List.take_append_of_le_length (by rw [fixedL_length]; omega), List.take_of_length_le (by rw [fixedL_length]; omega)]
theorem sealL_drop (l : List UInt8) : (sealL l).drop 8 = l := by
  unfold sealL
  rw [List.drop_append_of_le_length (by rw [fixedL_length]; omega), List.drop_of_length_le (by rw [fixedL_length]; omega)]
  rfl
theorem openL_seal (l : List UInt8) : openL (sealL l) = (l, 0) := by
  unfold openL
  rw [if_neg (by rw [sealL_length]; omega), sealL_take, sealL_drop, unfixed_fixed, if_neg (by simp)]
theorem seal_eq_iff (l : List UInt8) (h : 8 ≤ l.length) : sealL (l.drop 8) = l ↔ unfixed (l.take 8) = sumOf (l.drop 8) := by
  constructor
  · intro e
    have h1 := congrArg (List.take 8) e
    rw [sealL_take] at h1
    rw [← h1, unfixed_fixed]
  · intro e
    unfold sealL
    rw [← e, fixed_unfixed _ (by rw [List.length_take]; omega), List.take_append_drop]
theorem beq_seal (l : List UInt8) (h : 8 ≤ l.length) : (sealL (l.drop 8) == l) = decide (unfixed (l.take 8) = sumOf (l.drop 8)) := by
  rw [Bool.eq_iff_iff, beq_iff_eq, decide_eq_true_iff]
  exact seal_eq_iff l h
end Go.Proofs.Ytpejdompanhieaa
