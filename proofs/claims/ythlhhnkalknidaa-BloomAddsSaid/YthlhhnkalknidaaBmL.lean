/- Plain laws of sets: what is put is got; what the statements ask of any program. -/
import Derived.Test.YthlhhnkalknidaaBmF
namespace Go.Proofs.Ythlhhnkalknidaa

theorem drop_putV (n : Int) (r : List UInt8) : (putV n ++ r).drop (putV n).length = r := List.drop_left
theorem num_put (n : Int) (h1 : -9223372036854775808 ≤ n) (h2 : n ≤ 9223372036854775807) (r : List UInt8) : numN ⟨putV n ++ r, 0⟩ = n ∧ numR ⟨putV n ++ r, 0⟩ = ⟨r, 0⟩ := by
  have hg := getV_put n h1 h2 r
  constructor
  · show (if (0 : Int) = 0 then (getV (putV n ++ r)).n else 0) = n
    rw [if_pos rfl, hg]
  · show (if (0 : Int) = 0 then (⟨(putV n ++ r).drop (getV (putV n ++ r)).k, (getV (putV n ++ r)).e⟩ : RdV) else _) = _
    rw [if_pos rfl, hg]
    simp only
    rw [drop_putV]
theorem text_put (l : List UInt8) (most : Int) (h : (l.length : Int) ≤ most) (hm : most ≤ 9223372036854775807) (r : List UInt8) : textL most ⟨textV l ++ r, 0⟩ = l ∧ textR most ⟨textV l ++ r, 0⟩ = ⟨r, 0⟩ := by
  obtain ⟨h1, h2⟩ := num_put (l.length : Int) (by omega) (by omega) (l ++ r)
  have e : textV l ++ r = putV (l.length : Int) ++ (l ++ r) := by simp [textV]
  rw [e]
  unfold textL textR takeL takeR
  rw [h1, h2]
  have hb : ¬ ((l.length : Int) < 0 ∨ max 0 most < (l.length : Int)) := by omega
  simp only [ne_eq, not_true_eq_false, if_false]
  rw [if_neg hb, if_neg hb, Int.toNat_natCast, if_neg (by simp), if_neg (by simp)]
  exact ⟨List.take_left, by rw [List.drop_left]⟩
theorem putS_ok {s : SetB} (h : goodB s) : putS s = (putV s.each ++ putV s.n ++ textV s.bits, 0) := if_pos h
/-- What is put is got. -/
theorem get_put (s : SetB) (h : goodB s) : getS (putS s).1 = (s, 0) := by
  have hp := putS_ok h
  unfold goodB at h
  have h1 := num_put s.each (by omega) (by omega) (putV s.n ++ textV s.bits)
  have h2 := num_put s.n (by omega) (by omega) (textV s.bits)
  have h3 := text_put s.bits 4096 (by omega) (by omega) []
  rw [List.append_nil] at h3
  have e : (putS s).1 = putV s.each ++ (putV s.n ++ textV s.bits) := by rw [hp]; simp
  have hr : getRaw (putS s).1 = s := by
    unfold getRaw
    rw [e, h1.1, h1.2, h2.1, h2.2, h3.1]
  unfold getS
  rw [hr, if_pos ⟨by rw [hp], rfl⟩]
theorem putS_length (s : SetB) : (putS s).1.length ≤ s.bits.length + 30 := by
  unfold putS
  split
  · simp only [textV, List.length_append]
    have := putV_length s.each
    have := putV_length s.n
    have := putV_length (s.bits.length : Int)
    omega
  · simp

theorem bitAt_zeros (n q : Nat) : bitAt (List.replicate n 0) q = false := by
  unfold bitAt
  rw [List.getD_eq_getElem?_getD, List.getElem?_replicate]
  split <;> simp
theorem full_zeros (n : Nat) : fullL (List.replicate n 0) = 0 := by
  unfold fullL
  rw [List.countP_eq_zero]
  intro q _
  rw [bitAt_zeros]
  simp
theorem full_pos (l : List UInt8) (q : Nat) (hq : q < 8 * l.length) (h : bitAt l q = true) : 0 < fullL l := by
  unfold fullL
  exact List.countP_pos_iff.2 ⟨q, List.mem_range.2 hq, h⟩
theorem same_refl (s : SetB) : sameB s s = true := by simp [sameB]
theorem join_good (a b : SetB) (ha : goodB a) (hb : goodB b) (hl : a.bits.length = b.bits.length) (he : a.each = b.each) : joinS a b = (⟨orB a.bits b.bits, a.each, min (a.n + b.n) 1099511627776⟩, 0) := by
  unfold joinS
  rw [if_neg (by simp [ha, hb]), if_neg (by simp [hl, he])]
/-- What a set's bits hold, another one's do. -/
def Sub (a b : List UInt8) : Prop := ∀ q, bitAt a q = true → bitAt b q = true
theorem or_sub (a b : List UInt8) (hl : a.length = b.length) (h : Sub a b) : orB a b = b := by
  refine bits_ext _ _ (by rw [orB_length a b hl, hl]) fun q _ => ?_
  rw [bitAt_orB a b hl]
  cases hb : bitAt b q with
  | true => simp
  | false =>
    cases ha : bitAt a q with
    | true => rw [h q ha] at hb; cases hb
    | false => rfl
theorem or_comm8 (a b : List UInt8) (hl : a.length = b.length) : orB a b = orB b a := by
  refine bits_ext _ _ (by rw [orB_length a b hl, orB_length b a hl.symm, hl]) fun q _ => ?_
  rw [bitAt_orB a b hl, bitAt_orB b a hl.symm, Bool.or_comm]

/-- What is asked of any program. -/
theorem awake_facts : ∃ (z bt pl : List UInt8) (F : Nat), z.length = 8 ∧ bt.length = 8 ∧ pl.length ≤ 1000 ∧ newS 8 3 = (⟨z, 3, 0⟩, 0) ∧ addB ⟨z, 3, 0⟩ [107] = ⟨bt, 3, 1⟩ ∧ putS ⟨bt, 3, 1⟩ = (pl, 0) ∧ getS pl = (⟨bt, 3, 1⟩, 0) ∧ joinS ⟨z, 3, 0⟩ ⟨bt, 3, 1⟩ = (⟨bt, 3, 1⟩, 0) ∧
    hasB ⟨bt, 3, 1⟩ [107] = true ∧ hasB ⟨z, 3, 0⟩ [107] = false ∧ sameB ⟨bt, 3, 1⟩ ⟨bt, 3, 1⟩ = true ∧ sameB ⟨z, 3, 0⟩ ⟨bt, 3, 1⟩ = false ∧ (placesB ⟨z, 3, 0⟩ [107]).length = 3 ∧ fullL z = 0 ∧ fullL bt = F ∧ 0 < F ∧ checkB ⟨bt, 3, 1⟩ = 0 := by
  have hg0 : goodB ⟨List.replicate 8 0, 3, 0⟩ := by decide
  obtain ⟨a1, a2, a3, a4⟩ := addB_bits ⟨List.replicate 8 0, 3, 0⟩ [107] hg0
  have hadd : addB ⟨List.replicate 8 0, 3, 0⟩ [107] = ⟨(addB ⟨List.replicate 8 0, 3, 0⟩ [107]).bits, 3, 1⟩ := by
    have e3 : (addB ⟨List.replicate 8 0, 3, 0⟩ [107]).n = 1 := by rw [a3]; rfl
    cases h : addB ⟨List.replicate 8 0, 3, 0⟩ [107] with
    | mk b e n => rw [h] at a2 e3; simp only at a2 e3; subst a2; subst e3; rfl
  have hg1 := goodB_add ⟨List.replicate 8 0, 3, 0⟩ [107] hg0
  rw [hadd] at hg1
  generalize (addB ⟨List.replicate 8 0, 3, 0⟩ [107]).bits = bt at *
  have hlen : bt.length = 8 := by simpa using a1
  have hp0 : placesB ⟨List.replicate 8 0, 3, 0⟩ [107] = placesL 8 3 [107] := by unfold placesB; rw [if_pos hg0]; rfl
  have hpl : (placesL 8 3 [107]).length = 3 := placesN_length _ _ _
  have hlt : ∀ p ∈ placesL 8 3 [107], p < 64 := placesN_lt _ _ _ (by decide)
  have hset : ∀ q ∈ placesL 8 3 [107], bitAt bt q = true := fun q hq => by
    rw [a4]
    show (bitAt (List.replicate 8 0) q || decide (q ∈ placesL 8 3 [107])) = true
    simp [hq]
  obtain ⟨q0, hq0⟩ : ∃ q, q ∈ placesL 8 3 [107] := by
    cases h : placesL 8 3 [107] with
    | nil => rw [h] at hpl; simp at hpl
    | cons q r => exact ⟨q, List.mem_cons_self⟩
  have hput := putS_ok hg1
  have hpl2 := putS_length ⟨bt, 3, 1⟩
  have hget := get_put ⟨bt, 3, 1⟩ hg1
  rw [hput] at hpl2 hget
  refine ⟨List.replicate 8 0, bt, _, fullL bt, rfl, hlen, ?_, ?_, hadd, hput, hget, ?_, ?_, ?_, same_refl _, ?_, ?_, full_zeros 8, rfl, ?_, checkB_ok hg1⟩
  · exact Nat.le_trans hpl2 (by show bt.length + 30 ≤ 1000; omega)
  · unfold newS; rw [if_pos ⟨by decide, by decide, hg0⟩]; rfl
  · rw [join_good _ _ hg0 hg1 (by simp [hlen]) rfl]
    show (SetB.mk (orB (List.replicate 8 0) bt) 3 _, (0 : Int)) = _
    rw [or_sub _ _ (by simp [hlen]) fun q hq => by rw [bitAt_zeros] at hq; cases hq]
    rfl
  · rw [hasB_iff _ _ hg1]
    show ∀ q ∈ placesL bt.length 3 [107], bitAt bt q = true
    rw [hlen]
    exact hset
  · cases h : hasB ⟨List.replicate 8 0, 3, 0⟩ [107] with
    | false => rfl
    | true =>
      have := (hasB_iff _ _ hg0).1 h q0 hq0
      rw [bitAt_zeros] at this
      cases this
  · simp [sameB]
  · rw [hp0, hpl]
  · exact full_pos bt q0 (by rw [hlen]; exact hlt q0 hq0) (hset q0 hq0)
end Go.Proofs.Ythlhhnkalknidaa
