/- The sum of bytes: it is linear, and one changed byte changes it. -/
import Derived.Test.YtcfociegdnhneaaSum
namespace Go.Proofs.Ytcfociegdnhneaa

theorem crcBit_xor (a b : BitVec 64) : crcBit (a ^^^ b) = crcBit a ^^^ crcBit b := by
  unfold crcBit
  rw [BitVec.ushiftRight_xor_distrib, BitVec.getLsbD_xor]
  cases a.getLsbD 0 <;> cases b.getLsbD 0 <;> simp
  · ac_rfl
  · ac_rfl
  · have : a >>> 1 ^^^ poly ^^^ (b >>> 1 ^^^ poly) = (a >>> 1 ^^^ b >>> 1) ^^^ (poly ^^^ poly) := by ac_rfl
    rw [this, BitVec.xor_self, BitVec.xor_zero]
theorem crcN_xor (n : Nat) (a b : BitVec 64) : crcN n (a ^^^ b) = crcN n a ^^^ crcN n b := by
  induction n with
  | zero => rfl
  | succ n ih => simp only [crcN]; rw [ih, crcBit_xor]
theorem ofByte_xor (x y : UInt8) : ofByte (x ^^^ y) = ofByte x ^^^ ofByte y := by
  apply BitVec.eq_of_toNat_eq
  rw [BitVec.toNat_xor, toNat_ofByte, toNat_ofByte, toNat_ofByte, UInt8.toNat_xor]
theorem crcByte_xor (a b : BitVec 64) (x y : UInt8) : crcByte (a ^^^ b) (x ^^^ y) = crcByte a x ^^^ crcByte b y := by
  unfold crcByte
  rw [← crcN_xor, ofByte_xor]
  congr 1
  ac_rfl
def xorL : List UInt8 → List UInt8 → List UInt8
  | x :: a, y :: b => (x ^^^ y) :: xorL a b
  | _, _ => []
theorem crcAll_xor : ∀ (l m : List UInt8), l.length = m.length → ∀ a b : BitVec 64, crcAll (a ^^^ b) (xorL l m) = crcAll a l ^^^ crcAll b m
  | [], [], _, _, _ => rfl
  | [], _ :: _, h, _, _ => by simp at h
  | _ :: _, [], h, _, _ => by simp at h
  | x :: l, y :: m, h, a, b => by
    show crcAll (crcByte (a ^^^ b) (x ^^^ y)) (xorL l m) = crcAll (crcByte a x) l ^^^ crcAll (crcByte b y) m
    rw [crcByte_xor, crcAll_xor l m (by simpa using h)]
theorem xorL_length : ∀ (l m : List UInt8), l.length = m.length → (xorL l m).length = l.length
  | [], [], _ => rfl
  | [], _ :: _, h => by simp at h
  | _ :: _, [], h => by simp at h
  | x :: l, y :: m, h => by simp [xorL, xorL_length l m (by simpa using h)]
theorem xorL_zero : ∀ (l : List UInt8), xorL l (List.replicate l.length 0) = l
  | [] => rfl
  | x :: l => by simp [xorL, List.replicate_succ, xorL_zero l]
theorem sum_linear (a b : List UInt8) (h : a.length = b.length) : sumOf (xorL a b) = (sumOf a ^^^ sumOf b) ^^^ sumOf (List.replicate a.length 0) := by
  have e1 := crcAll_xor a b h ones ones
  have e2 := crcAll_xor (xorL a b) (List.replicate a.length 0) (by rw [xorL_length a b h]; simp) ones ones
  have e3 : xorL (xorL a b) (List.replicate a.length 0) = xorL a b := by
    have := xorL_zero (xorL a b)
    rwa [xorL_length a b h] at this
  rw [e3, e1] at e2
  have k : ∀ l, sumOf l = ~~~ crcAll ones l := fun l => rfl
  rw [k, k, k, k]
  generalize crcAll ones (xorL a b) = x at *
  generalize crcAll ones a = u at *
  generalize crcAll ones b = v at *
  generalize crcAll ones (List.replicate a.length 0) = z at *
  have e4 : x = u ^^^ v ^^^ z := by
    have : x ^^^ z ^^^ z = x := by rw [BitVec.xor_assoc, BitVec.xor_self, BitVec.xor_zero]
    rw [← this, ← e2]
  rw [e4]
  have n : ∀ y : BitVec 64, ~~~ y = y ^^^ BitVec.allOnes 64 := fun y => BitVec.xor_allOnes.symm
  rw [n, n u, n v, n z]
  generalize BitVec.allOnes 64 = o
  have : (u ^^^ o ^^^ (v ^^^ o)) ^^^ (z ^^^ o) = (u ^^^ v ^^^ z ^^^ o) ^^^ (o ^^^ o) := by ac_rfl
  rw [this, BitVec.xor_self, BitVec.xor_zero]
theorem xorL_get : ∀ (l m : List UInt8) (i : Nat) (h1 : i < l.length) (h2 : i < m.length) (h3 : i < (xorL l m).length), (xorL l m)[i] = l[i] ^^^ m[i]
  | x :: l, y :: m, 0, _, _, _ => rfl
  | x :: l, y :: m, i + 1, h1, h2, h3 => by
    simp only [xorL, List.getElem_cons_succ]
    exact xorL_get l m i (by simpa using h1) (by simpa using h2) _
theorem xorL_snoc : ∀ (l m : List UInt8) (x y : UInt8), l.length = m.length → xorL (l ++ [x]) (m ++ [y]) = xorL l m ++ [x ^^^ y] := by
  intro l
  induction l with
  | nil => intro m x y hl; cases m <;> simp at hl; rfl
  | cons u l ih => intro m x y hl; cases m with
    | nil => simp at hl
    | cons v m => simp only [List.cons_append, xorL]; rw [ih m x y (by simpa using hl)]
theorem xorL_take_set (a b : List UInt8) {n i : Nat} (ha : n ≤ a.length) (hb : n ≤ b.length) (hi : i < n) :
    (xorL (a.take i) (b.take i) ++ List.replicate (n - i) 0).set i (a[i]'(by omega) ^^^ b[i]'(by omega)) = xorL (a.take (i + 1)) (b.take (i + 1)) ++ List.replicate (n - (i + 1)) 0 := by
  have hlen : (xorL (a.take i) (b.take i)).length = i := by rw [xorL_length _ _ (by simp; omega)]; simp; omega
  rw [List.take_succ_eq_append_getElem (show i < a.length by omega), List.take_succ_eq_append_getElem (show i < b.length by omega), xorL_snoc _ _ _ _ (by simp; omega)]
  rw [List.set_append_right _ _ (by omega), hlen, Nat.sub_self]
  have e2 : n - i = (n - (i + 1)) + 1 := by omega
  rw [e2, List.replicate_succ]
  simp

/-! ### One changed byte -/
theorem crcBit_msb (c : BitVec 64) : (crcBit c).getLsbD 63 = c.getLsbD 0 := by
  unfold crcBit
  rw [BitVec.getLsbD_xor, BitVec.getLsbD_ushiftRight]
  have : c.getLsbD (1 + 63) = false := BitVec.getLsbD_of_ge _ _ (by omega)
  rw [this]
  cases c.getLsbD 0
  · simp
  · simp [poly]
theorem crcBit_inj {a b : BitVec 64} (h : crcBit a = crcBit b) : a = b := by
  have h0 : a.getLsbD 0 = b.getLsbD 0 := by rw [← crcBit_msb, ← crcBit_msb, h]
  have hs : a >>> 1 = b >>> 1 := by
    unfold crcBit at h
    rw [h0] at h
    have := congrArg (· ^^^ (if b.getLsbD 0 then poly else 0)) h
    simpa [BitVec.xor_assoc] using this
  apply BitVec.eq_of_getLsbD_eq
  intro i hi
  cases i with
  | zero => exact h0
  | succ i =>
    have := congrArg (fun x : BitVec 64 => x.getLsbD i) hs
    simpa [BitVec.getLsbD_ushiftRight, Nat.add_comm] using this
theorem crcN_inj : ∀ (n : Nat) {a b : BitVec 64}, crcN n a = crcN n b → a = b
  | 0, _, _, h => h
  | n + 1, _, _, h => crcN_inj n (crcBit_inj h)
theorem xor_left_inj {a b c : BitVec 64} (h : a ^^^ b = a ^^^ c) : b = c := by
  have := congrArg (a ^^^ ·) h
  simpa [← BitVec.xor_assoc] using this
theorem ofByte_inj {x y : UInt8} (h : ofByte x = ofByte y) : x = y := by
  have := congrArg BitVec.toNat h
  rw [toNat_ofByte, toNat_ofByte] at this
  exact UInt8.toNat_inj.1 this
theorem crcByte_inj {c : BitVec 64} {x y : UInt8} (h : crcByte c x = crcByte c y) : x = y := ofByte_inj (xor_left_inj (crcN_inj 8 h))
theorem crcByte_inj_left {a b : BitVec 64} {x : UInt8} (h : crcByte a x = crcByte b x) : a = b := by
  have h1 := crcN_inj 8 h
  have := congrArg (· ^^^ ofByte x) h1
  simpa [BitVec.xor_assoc] using this
theorem crcAll_inj_left : ∀ (l : List UInt8) {a b : BitVec 64}, crcAll a l = crcAll b l → a = b
  | [], _, _, h => h
  | _ :: l, _, _, h => crcByte_inj_left (crcAll_inj_left l h)
theorem crcAll_changed (c : BitVec 64) (l : List UInt8) (i : Nat) (hi : i < l.length) (y : UInt8) (hy : y ≠ l[i]) : crcAll c (l.set i y) ≠ crcAll c l := by
  induction l generalizing c i with
  | nil => simp at hi
  | cons x l ih =>
    cases i with
    | zero => exact fun h => hy (crcByte_inj (crcAll_inj_left l h))
    | succ i => exact ih (crcByte c x) i (by simpa using hi) (by simpa using hy)
theorem sumOf_changed (l : List UInt8) (i : Nat) (hi : i < l.length) (y : UInt8) (hy : y ≠ l[i]) : sumOf (l.set i y) ≠ sumOf l := by
  intro h
  have k : ∀ l, sumOf l = ~~~ crcAll ones l := fun l => rfl
  rw [k, k] at h
  exact crcAll_changed ones l i hi y hy (BitVec.not_inj.1 h)
theorem open_changed (l : List UInt8) (i : Nat) (hi : i < (sealL l).length) (y : UInt8) (hy : y ≠ (sealL l)[i]) : openL ((sealL l).set i y) = ([], 12) := by
  have hlen := sealL_length l
  have h8 : ¬ ((sealL l).set i y).length < 8 := by rw [List.length_set]; omega
  unfold openL
  rw [if_neg h8, if_pos]
  by_cases h : i < 8
  · rw [List.take_set, List.drop_set_of_lt h, sealL_drop, sealL_take]
    intro e
    have e1 : unfixed ((fixedL (sumOf l).toNat 8).set i y) = unfixed (fixedL (sumOf l).toNat 8) := e.trans (unfixed_fixed _).symm
    have e2 := congrArg BitVec.toNat e1
    rw [unfixed_toNat _ (by rw [List.length_set, fixedL_length]; omega), unfixed_toNat _ (by rw [fixedL_length]; omega)] at e2
    have e3 := valL_inj _ _ (by rw [List.length_set]) e2
    have hi8 : i < (fixedL (sumOf l).toNat 8).length := by rw [fixedL_length]; exact h
    have e4 : (sealL l)[i]? = (fixedL (sumOf l).toNat 8)[i]? := by unfold sealL; rw [List.getElem?_append_left hi8]
    have e5 := congrArg (fun m : List UInt8 => m[i]?) e3
    simp only [List.getElem?_set_self hi8] at e5
    rw [← e4, List.getElem?_eq_getElem hi] at e5
    exact hy (Option.some.inj e5)
  · rw [List.drop_set, if_neg h, List.take_set_of_le (by omega), sealL_drop, sealL_take, unfixed_fixed]
    have hi' : i - 8 < l.length := by omega
    have e4 : (sealL l)[i]? = l[i - 8]? := by unfold sealL; rw [List.getElem?_append_right (by rw [fixedL_length]; omega), fixedL_length]
    rw [List.getElem?_eq_getElem hi, List.getElem?_eq_getElem hi'] at e4
    rw [Option.some.inj e4] at hy
    exact (sumOf_changed l (i - 8) hi' y hy).symm
end Go.Proofs.Ytcfociegdnhneaa
