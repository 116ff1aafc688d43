/- Sets of keys as plain functions: checks, places, bits, with their laws; reading numbers and texts off. No program here. -/
import Derived.Test.YthlhhnkalknidaaVar
namespace Go.Proofs.Ythlhhnkalknidaa

/-! ### Bits -/
def bitAt (l : List UInt8) (p : Nat) : Bool := (l.getD (p / 8) 0).toNat.testBit (p % 8)
def pow8 (k : Nat) : UInt8 := UInt8.ofNat (2 ^ k)
def setBit (l : List UInt8) (p : Nat) : List UInt8 := l.set (p / 8) (l.getD (p / 8) 0 ||| pow8 (p % 8))
def orB (a b : List UInt8) : List UInt8 := List.zipWith (fun x y => x ||| y) a b
theorem byte_or_bit : ∀ k : Fin 8, ∀ j : Fin 8, (pow8 k.val).toNat.testBit j.val = decide (k.val = j.val) := by decide +kernel
theorem testBit_or8 (x y : UInt8) (j : Nat) : (x ||| y).toNat.testBit j = (x.toNat.testBit j || y.toNat.testBit j) := by
  rw [UInt8.toNat_or, Nat.testBit_or]
theorem byte_plus : ∀ c : Fin 256, ∀ k : Fin 8, c.val.testBit k.val = false → (UInt8.ofNat c.val ||| pow8 k.val) = UInt8.ofNat (c.val + 2 ^ k.val) ∧ c.val + 2 ^ k.val < 256 := by decide +kernel
theorem byte_stays : ∀ c : Fin 256, ∀ k : Fin 8, c.val.testBit k.val = true → (UInt8.ofNat c.val ||| pow8 k.val) = UInt8.ofNat c.val := by decide +kernel
theorem ofNat_toNat8 (c : UInt8) : UInt8.ofNat c.toNat = c := by simp
theorem or_plus (c : UInt8) (k : Nat) (hk : k < 8) (h : c.toNat.testBit k = false) : c ||| pow8 k = UInt8.ofNat (c.toNat + 2 ^ k) ∧ c.toNat + 2 ^ k < 256 := by
  have := byte_plus ⟨c.toNat, c.toNat_lt⟩ ⟨k, hk⟩ h
  simpa [ofNat_toNat8] using this
theorem or_stays (c : UInt8) (k : Nat) (hk : k < 8) (h : c.toNat.testBit k = true) : c ||| pow8 k = c := by
  have := byte_stays ⟨c.toNat, c.toNat_lt⟩ ⟨k, hk⟩ h
  simpa [ofNat_toNat8] using this
theorem setBit_length (l : List UInt8) (p : Nat) : (setBit l p).length = l.length := by simp [setBit]
theorem setBit_stays (l : List UInt8) (p : Nat) (h : bitAt l p = true) : setBit l p = l := by
  unfold setBit
  unfold bitAt at h
  rw [or_stays _ _ (by omega) h]
  apply List.ext_getElem?
  intro i
  rw [List.getElem?_set]
  split
  · rename_i e
    subst e
    by_cases hl : p / 8 < l.length
    · simp [hl, List.getD_eq_getElem?_getD]
    · simp [hl]
  · rfl
theorem bitAt_setBit (l : List UInt8) (p q : Nat) (hp : p < 8 * l.length) : bitAt (setBit l p) q = (bitAt l q || decide (p = q)) := by
  unfold bitAt setBit
  simp only [List.getD_eq_getElem?_getD, List.getElem?_set]
  have hl : p / 8 < l.length := by omega
  by_cases e : p / 8 = q / 8
  · rw [if_pos e, if_pos hl]
    rw [← e]
    simp only [Option.getD_some]
    rw [testBit_or8]
    have := byte_or_bit ⟨p % 8, by omega⟩ ⟨q % 8, by omega⟩
    simp only at this
    rw [this]
    congr 1
    exact decide_eq_decide.2 ⟨fun h => by omega, fun h => by omega⟩
  · rw [if_neg e]
    have hne : p ≠ q := fun h => e (by rw [h])
    simp [hne]
theorem bits_ext8 (x y : UInt8) (h : ∀ j, j < 8 → x.toNat.testBit j = y.toNat.testBit j) : x = y := by
  apply UInt8.toNat_inj.1
  apply Nat.eq_of_testBit_eq
  intro j
  by_cases hj : j < 8
  · exact h j hj
  · have hx : x.toNat < 2 ^ j := Nat.lt_of_lt_of_le x.toNat_lt (Nat.pow_le_pow_right (by omega) (Nat.le_of_not_lt hj))
    have hy : y.toNat < 2 ^ j := Nat.lt_of_lt_of_le y.toNat_lt (Nat.pow_le_pow_right (by omega) (Nat.le_of_not_lt hj))
    rw [Nat.testBit_lt_two_pow hx, Nat.testBit_lt_two_pow hy]
theorem bits_ext (a b : List UInt8) (hl : a.length = b.length) (h : ∀ q, q < 8 * a.length → bitAt a q = bitAt b q) : a = b := by
  apply List.ext_getElem hl
  intro i h1 h2
  apply bits_ext8
  intro j hj
  have := h (8 * i + j) (by omega)
  unfold bitAt at this
  rw [show (8 * i + j) / 8 = i by omega, show (8 * i + j) % 8 = j by omega] at this
  simpa [List.getD_eq_getElem?_getD, h1, h2] using this
theorem orB_length (a b : List UInt8) (h : a.length = b.length) : (orB a b).length = a.length := by simp [orB, h]
theorem bitAt_orB (a b : List UInt8) (h : a.length = b.length) (q : Nat) : bitAt (orB a b) q = (bitAt a q || bitAt b q) := by
  unfold bitAt orB
  simp only [List.getD_eq_getElem?_getD, List.getElem?_zipWith]
  by_cases hq : q / 8 < a.length
  · have hq2 : q / 8 < b.length := by omega
    simp only [List.getElem?_eq_getElem hq, List.getElem?_eq_getElem hq2, Option.getD_some]
    exact testBit_or8 _ _ _
  · simp [List.getElem?_eq_none (Nat.le_of_not_lt hq), List.getElem?_eq_none (show b.length ≤ q / 8 by omega)]
def setBits (l : List UInt8) (ps : List Nat) : List UInt8 := ps.foldl setBit l
theorem setBits_length (ps : List Nat) : ∀ l : List UInt8, (setBits l ps).length = l.length := by
  induction ps with
  | nil => intro l; rfl
  | cons p r ih => intro l; show (setBits (setBit l p) r).length = _; rw [ih, setBit_length]
theorem bitAt_setBits (ps : List Nat) : ∀ (l : List UInt8) (_ : ∀ p ∈ ps, p < 8 * l.length) (q : Nat), bitAt (setBits l ps) q = (bitAt l q || decide (q ∈ ps)) := by
  induction ps with
  | nil => intro l _ q; simp [setBits]
  | cons p r ih =>
    intro l h q
    show bitAt (setBits (setBit l p) r) q = _
    rw [ih (setBit l p) (by rw [setBit_length]; exact fun x hx => h x (List.mem_cons_of_mem _ hx)), bitAt_setBit l p q (h p List.mem_cons_self)]
    by_cases e : p = q
    · subst e; simp
    · have e' : ¬ q = p := fun h => e h.symm
      simp [e, e']
/-- Bit by bit into a what is set in b below p. -/
def orTo (a b : List UInt8) (p : Nat) : List UInt8 := (List.range p).foldl (fun x q => if bitAt b q && !bitAt x q then setBit x q else x) a
theorem orTo_succ (a b : List UInt8) (p : Nat) : orTo a b (p + 1) = if bitAt b p && !bitAt (orTo a b p) p then setBit (orTo a b p) p else orTo a b p := by
  unfold orTo
  rw [List.range_succ, List.foldl_append]
  rfl
theorem orTo_facts (a b : List UInt8) (h : a.length = b.length) : ∀ p, p ≤ 8 * a.length → (orTo a b p).length = a.length ∧ ∀ q, bitAt (orTo a b p) q = (bitAt a q || (decide (q < p) && bitAt b q))
  | 0, _ => by simp [orTo]
  | p + 1, hp => by
    obtain ⟨h1, h2⟩ := orTo_facts a b h p (by omega)
    rw [orTo_succ]
    by_cases hb : (bitAt b p && !bitAt (orTo a b p) p) = true
    · rw [if_pos hb]
      refine ⟨by rw [setBit_length, h1], fun q => ?_⟩
      rw [bitAt_setBit _ _ _ (by rw [h1]; omega), h2]
      simp only [Bool.and_eq_true] at hb
      by_cases e : p = q
      · subst e; simp [hb.1]
      · have : decide (q < p + 1) = decide (q < p) := decide_eq_decide.2 ⟨fun h => by omega, fun h => by omega⟩
        simp [e, this]
    · rw [if_neg hb]
      refine ⟨h1, fun q => ?_⟩
      by_cases e : p = q
      · subst e
        have h3 := h2 p
        simp only [Nat.lt_irrefl, decide_false, Bool.false_and, Bool.or_false] at h3
        rw [h3] at hb ⊢
        cases h4 : bitAt b p <;> cases h5 : bitAt a p <;> simp_all
      · have : decide (q < p + 1) = decide (q < p) := decide_eq_decide.2 ⟨fun h => by omega, fun h => by omega⟩
        rw [h2, this]
theorem orTo_all (a b : List UInt8) (h : a.length = b.length) : orTo a b (8 * a.length) = orB a b := by
  obtain ⟨h1, h2⟩ := orTo_facts a b h _ (Nat.le_refl _)
  refine bits_ext _ _ (by rw [h1, orB_length a b h]) fun q hq => ?_
  rw [h2, bitAt_orB a b h]
  rw [h1] at hq
  simp [hq]

/-! ### How many bits are set -/
def fullL (l : List UInt8) : Nat := (List.range (8 * l.length)).countP (bitAt l)
def fullTo (l : List UInt8) (p : Nat) : Nat := (List.range p).countP (bitAt l)
theorem fullTo_succ (l : List UInt8) (p : Nat) : fullTo l (p + 1) = fullTo l p + if bitAt l p then 1 else 0 := by
  unfold fullTo
  rw [List.range_succ, List.countP_append]
  simp
theorem fullTo_le (l : List UInt8) (p : Nat) : fullTo l p ≤ p := by
  have := List.countP_le_length (p := bitAt l) (l := List.range p)
  simpa [fullTo] using this
theorem full_mono (a b : List UInt8) (hl : a.length = b.length) (h : ∀ q, bitAt a q = true → bitAt b q = true) : fullL a ≤ fullL b := by
  unfold fullL
  rw [hl]
  exact List.countP_mono_left fun q _ => h q
def pop8 (c : UInt8) : Nat := (List.range 8).countP fun j => c.toNat.testBit j
theorem pop8_le (c : UInt8) : pop8 c ≤ 8 := by
  have := List.countP_le_length (p := fun j => c.toNat.testBit j) (l := List.range 8)
  simpa [pop8] using this
theorem full_step (l : List UInt8) (k : Nat) (hk : k < l.length) : fullTo l (8 * (k + 1)) = fullTo l (8 * k) + pop8 l[k] := by
  have h : ∀ j, j < 8 → bitAt l (8 * k + j) = l[k].toNat.testBit j := fun j hj => by
    unfold bitAt
    rw [show (8 * k + j) / 8 = k by omega, show (8 * k + j) % 8 = j by omega]
    simp [List.getD_eq_getElem?_getD, hk]
  rw [show 8 * (k + 1) = 8 * k + 7 + 1 by omega, fullTo_succ, fullTo_succ, fullTo_succ, fullTo_succ, fullTo_succ, fullTo_succ, fullTo_succ, show 8 * k + 0 + 1 = 8 * k + 1 by omega, fullTo_succ]
  rw [h 1 (by omega), h 2 (by omega), h 3 (by omega), h 4 (by omega), h 5 (by omega), h 6 (by omega), h 7 (by omega)]
  have h0 := h 0 (by omega)
  rw [Nat.add_zero] at h0
  rw [h0]
  unfold pop8
  rw [show List.range 8 = [0, 1, 2, 3, 4, 5, 6, 7] from rfl]
  simp only [List.countP_cons, List.countP_nil]
  omega

/-! ### Sets -/
structure SetB where
  bits : List UInt8
  each : Int
  n : Int
def mostN : Int := 1099511627776
def goodB (s : SetB) : Prop := 1 ≤ s.bits.length ∧ s.bits.length ≤ 4096 ∧ 1 ≤ s.each ∧ s.each ≤ 16 ∧ 0 ≤ s.n ∧ s.n ≤ 1099511627776
instance (s : SetB) : Decidable (goodB s) := by unfold goodB; infer_instance
def checkB (s : SetB) : Int := if goodB s then 0 else 11
theorem checkB_ok {s : SetB} (h : goodB s) : checkB s = 0 := if_pos h
theorem checkB_bad {s : SetB} (h : ¬ goodB s) : checkB s = 11 := if_neg h
def stepOf (h : Nat) : Nat := if h % 4294967296 % 2 = 0 then h % 4294967296 + 1 else h % 4294967296
def placeN (h m i : Nat) : Nat := (h / 4294967296 + i * stepOf h) % 4294967296 % (8 * m)
def placesN (h m : Nat) (each : Nat) : List Nat := (List.range each).map (placeN h m)
def placesL (m : Nat) (each : Int) (key : List UInt8) : List Nat := placesN (sumOf key).toNat m each.toNat
def placesB (s : SetB) (key : List UInt8) : List Nat := if goodB s then placesL s.bits.length s.each key else []
def hasB (s : SetB) (key : List UInt8) : Bool := decide (0 < (placesB s key).length) && (placesB s key).all (bitAt s.bits)
def addB (s : SetB) (key : List UInt8) : SetB := if goodB s then ⟨setBits s.bits (placesB s key), s.each, min (s.n + 1) 1099511627776⟩ else s
def joinS (a b : SetB) : SetB × Int :=
  if ¬ goodB a ∨ ¬ goodB b then (⟨[], 0, 0⟩, 11)
  else if a.bits.length ≠ b.bits.length ∨ a.each ≠ b.each then (⟨[], 0, 0⟩, 2)
  else (⟨orB a.bits b.bits, a.each, min (a.n + b.n) 1099511627776⟩, 0)
def newS (size each : Int) : SetB × Int :=
  if 0 ≤ size ∧ size ≤ 4096 ∧ goodB ⟨List.replicate size.toNat 0, each, 0⟩ then (⟨List.replicate size.toNat 0, each, 0⟩, 0) else (⟨[], 0, 0⟩, 11)
theorem placesN_length (h m each : Nat) : (placesN h m each).length = each := by simp [placesN]
theorem placesN_at (h m each i : Nat) (hi : i < each) : (placesN h m each)[i]? = some (placeN h m i) := by simp [placesN, hi]
theorem placesN_lt (h m each : Nat) (hm : 0 < m) : ∀ p ∈ placesN h m each, p < 8 * m := by
  intro p hp
  simp only [placesN, List.mem_map] at hp
  obtain ⟨i, _, rfl⟩ := hp
  exact Nat.mod_lt _ (by omega)
theorem placesB_lt (s : SetB) (key : List UInt8) : ∀ p ∈ placesB s key, p < 8 * s.bits.length := by
  unfold placesB
  split
  · rename_i h
    exact placesN_lt _ _ _ (by unfold goodB at h; omega)
  · simp
theorem goodB_add (s : SetB) (key : List UInt8) (h : goodB s) : goodB (addB s key) := by
  unfold addB
  rw [if_pos h]
  unfold goodB at h ⊢
  simp only [setBits_length]
  omega
theorem addB_bits (s : SetB) (key : List UInt8) (h : goodB s) : (addB s key).bits.length = s.bits.length ∧ (addB s key).each = s.each ∧ (addB s key).n = min (s.n + 1) 1099511627776 ∧ ∀ q, bitAt (addB s key).bits q = (bitAt s.bits q || decide (q ∈ placesL s.bits.length s.each key)) := by
  have hp : placesB s key = placesL s.bits.length s.each key := by unfold placesB; rw [if_pos h]
  have hlt := placesB_lt s key
  unfold addB
  rw [if_pos h]
  refine ⟨setBits_length _ _, rfl, rfl, fun q => ?_⟩
  show bitAt (setBits s.bits (placesB s key)) q = _
  rw [bitAt_setBits _ _ hlt q, hp]
theorem hasB_iff (s : SetB) (key : List UInt8) (h : goodB s) : hasB s key = true ↔ ∀ q ∈ placesL s.bits.length s.each key, bitAt s.bits q = true := by
  have hp : placesB s key = placesL s.bits.length s.each key := by unfold placesB; rw [if_pos h]
  have hl : 0 < (placesB s key).length := by
    rw [hp]
    unfold placesL
    rw [placesN_length]
    unfold goodB at h
    omega
  unfold hasB
  rw [hp] at hl ⊢
  simp [hl, List.all_eq_true]

def putS (s : SetB) : List UInt8 × Int := if goodB s then (putV s.each ++ putV s.n ++ textV s.bits, 0) else ([], 11)

/-! ### All keys of a list -/
def addAll (s : SetB) (keys : List (List UInt8)) : SetB := keys.foldl addB s
theorem addAll_snoc (s : SetB) (keys : List (List UInt8)) (k : List UInt8) : addAll s (keys ++ [k]) = addB (addAll s keys) k := by simp [addAll]
theorem addAll_facts (keys : List (List UInt8)) : ∀ s : SetB, goodB s → goodB (addAll s keys) ∧ (addAll s keys).bits.length = s.bits.length ∧ (addAll s keys).each = s.each ∧ (addAll s keys).n = min (s.n + keys.length) 1099511627776 ∧
    ∀ q, bitAt (addAll s keys).bits q = true ↔ bitAt s.bits q = true ∨ ∃ k ∈ keys, q ∈ placesL s.bits.length s.each k := by
  induction keys with
  | nil =>
    intro s h
    refine ⟨h, rfl, rfl, ?_, fun q => by simp [addAll]⟩
    have := h.2.2.2.2.2
    simp only [addAll, List.foldl_nil, List.length_nil]
    omega
  | cons k r ih =>
    intro s h
    obtain ⟨h1, h2, h3, h4⟩ := addB_bits s k h
    obtain ⟨i1, i2, i3, i4, i5⟩ := ih (addB s k) (goodB_add s k h)
    refine ⟨i1, by show (addAll (addB s k) r).bits.length = _; rw [i2, h1], by show (addAll (addB s k) r).each = _; rw [i3, h2], ?_, fun q => ?_⟩
    · show (addAll (addB s k) r).n = _
      rw [i4, h3]
      simp only [List.length_cons]
      omega
    · show bitAt (addAll (addB s k) r).bits q = true ↔ _
      rw [i5, h4, h1, h2]
      simp only [Bool.or_eq_true, decide_eq_true_eq, List.mem_cons, exists_eq_or_imp]
      exact or_assoc
end Go.Proofs.Ythlhhnkalknidaa
