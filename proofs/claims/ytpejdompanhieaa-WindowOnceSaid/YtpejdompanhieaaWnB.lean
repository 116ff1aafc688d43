/- Plain laws of layer 35: a state's bytes; what is put is got. -/
import Derived.Test.YtpejdompanhieaaVarT
import Derived.Test.YtpejdompanhieaaWn
namespace Go.Proofs.Ytpejdompanhieaa

theorem text_app (s rest : List UInt8) (most : Int) (h : (s.length : Int) ≤ most) (hs : s.length ≤ 1000000) : textL most ⟨textV s ++ rest, 0⟩ = s ∧ textR most ⟨textV s ++ rest, 0⟩ = ⟨rest, 0⟩ := by
  have hg := getV_put (s.length : Int) (by omega) (by omega) (s ++ rest)
  have e0 : textV s ++ rest = putV s.length ++ (s ++ rest) := by unfold textV; rw [List.append_assoc]
  rw [e0]
  have e1 : numN ⟨putV s.length ++ (s ++ rest), 0⟩ = (s.length : Int) := by unfold numN; simp only [if_true]; rw [hg]
  have e2 : numR ⟨putV s.length ++ (s ++ rest), 0⟩ = ⟨s ++ rest, 0⟩ := by
    unfold numR
    simp only [if_true]
    rw [hg]
    simp
  unfold textL textR
  rw [e1, e2]
  simp only [ne_eq, not_true_eq_false, if_false]
  rw [if_neg (by omega), if_neg (by omega), Int.toNat_natCast]
  unfold takeL takeR
  simp only
  rw [if_neg (by rw [List.length_append]; omega), if_neg (by rw [List.length_append]; omega)]
  simp
theorem num_app {n : Int} (h1 : -9223372036854775808 ≤ n) (h2 : n ≤ 9223372036854775807) (rest : List UInt8) : numN ⟨putV n ++ rest, 0⟩ = n ∧ numR ⟨putV n ++ rest, 0⟩ = ⟨rest, 0⟩ := by
  have hg := getV_put n h1 h2 rest
  constructor
  · unfold numN; simp only [if_true]; rw [hg]
  · unfold numR; simp only [if_true]; rw [hg]; simp
/-! ### Bytes -/
def sumV (x : Sm) : List UInt8 := textV x.key ++ (putV x.start ++ (putV x.count ++ (putV x.total ++ (putV x.least ++ putV x.most))))
def sumsV (l : List Sm) : List UInt8 := (l.map sumV).flatten
def putW (s : Wt) : List UInt8 := putV s.size ++ (putV s.late ++ (putV s.mark ++ (putV s.drops ++ (putV s.opn.length ++ sumsV s.opn))))
def rdSum (r : RdV) : Sm × RdV :=
  let r1 := textR 64 r; let r2 := numR r1; let r3 := numR r2; let r4 := numR r3; let r5 := numR r4
  (⟨numN r1, textL 64 r, numN r2, numN r3, numN r4, numN r5⟩, numR r5)
/-- The program's sums off a reader; the document's. -/
def rdP : Nat → RdV → List Sm
  | 0, _ => []
  | k + 1, r => (rdSum r).1 :: rdP k (rdSum r).2
def rdD : Nat → RdV → List Sm
  | 0, _ => []
  | k + 1, r => if r.e ≠ 0 then [] else (rdSum r).1 :: rdD k (rdSum r).2
def manyW (n : Int) : Nat := (max 0 (min n 257)).toNat
def headW (b : List UInt8) (f : Nat → RdV → List Sm) : Wt :=
  let r0 : RdV := ⟨b, 0⟩; let r1 := numR r0; let r2 := numR r1; let r3 := numR r2; let r4 := numR r3
  ⟨numN r0, numN r1, numN r2, numN r3, f (manyW (numN r4)) (numR r4)⟩
def okW (b : List UInt8) (s : Wt) : Bool := (checkW s == 0) && (putW s == b)
def getW (b : List UInt8) : Wt × Int := if okW b (headW b rdP) = true then (headW b rdP, 0) else (wt0, 4)
theorem mayS_in {size : Int} {x : Sm} (h : mayS size x = true) : 0 ≤ x.start ∧ x.start ≤ 1099511627776 ∧ x.start % size = 0 ∧ x.key.length ≤ 64 ∧ 1 ≤ x.count ∧ x.count ≤ 1048576 ∧ -1073741824 ≤ x.least ∧ x.least ≤ 1073741824 ∧ -1073741824 ≤ x.most ∧ x.most ≤ 1073741824 ∧ x.least ≤ x.most ∧ x.count * x.least ≤ x.total ∧ x.total ≤ x.count * x.most := by
  unfold mayS numW inW at h
  simp only [Bool.and_eq_true, decide_eq_true_eq] at h
  omega
theorem mayS_total {size : Int} {x : Sm} (h : mayS size x = true) : -1125899906842624 ≤ x.total ∧ x.total ≤ 1125899906842624 := by
  obtain ⟨-, -, -, -, h1, h2, h3, h4, h5, h6, -, h7, h8⟩ := mayS_in h
  have a1 : x.count * (-1073741824) ≤ x.count * x.least := Int.mul_le_mul_of_nonneg_left h3 (by omega)
  have a2 : x.count * x.most ≤ x.count * 1073741824 := Int.mul_le_mul_of_nonneg_left h6 (by omega)
  omega
theorem checkW_ok {s : Wt} (h : checkW s = 0) : 1 ≤ s.size ∧ s.size ≤ 1048576 ∧ 0 ≤ s.late ∧ s.late ≤ 1048576 ∧ -1 ≤ s.mark ∧ s.mark ≤ 1099511627776 ∧ 0 ≤ s.drops ∧ s.drops ≤ 1099511627776 ∧ s.opn.length ≤ 256 ∧ (∀ x ∈ s.opn, mayS s.size x = true) ∧ Rises s.opn := by
  unfold checkW at h
  cases h1 : boundsW s with
  | false => rw [h1, if_pos rfl] at h; cases h
  | true =>
    rw [h1, if_neg (by simp)] at h
    cases h2 : s.opn.all (mayS s.size) with
    | false => rw [h2, if_pos rfl] at h; cases h
    | true =>
      rw [h2, if_neg (by simp)] at h
      cases h3 : risesS s.opn with
      | false => rw [h3, if_pos rfl] at h; cases h
      | true =>
        unfold boundsW inW at h1
        simp only [Bool.and_eq_true, decide_eq_true_eq] at h1
        rw [List.all_eq_true] at h2
        refine ⟨by omega, by omega, by omega, by omega, by omega, by omega, by omega, by omega, by omega, h2, rises_pair.1 h3⟩
theorem checkW_of {s : Wt} (h : 1 ≤ s.size ∧ s.size ≤ 1048576 ∧ 0 ≤ s.late ∧ s.late ≤ 1048576 ∧ -1 ≤ s.mark ∧ s.mark ≤ 1099511627776 ∧ 0 ≤ s.drops ∧ s.drops ≤ 1099511627776 ∧ s.opn.length ≤ 256) (h2 : ∀ x ∈ s.opn, mayS s.size x = true) (h3 : Rises s.opn) : checkW s = 0 := by
  unfold checkW
  have e1 : boundsW s = true := by
    unfold boundsW inW
    simp only [Bool.and_eq_true, decide_eq_true_eq]
    omega
  rw [e1, if_neg (by simp), List.all_eq_true.2 h2, if_neg (by simp), rises_pair.2 h3, if_neg (by simp)]
theorem rdSum_app {size : Int} {x : Sm} (h : mayS size x = true) (rest : List UInt8) : rdSum ⟨sumV x ++ rest, 0⟩ = (x, ⟨rest, 0⟩) := by
  have ht := mayS_total h
  obtain ⟨h1, h2, h3, h4, h5, h6, h7, h8, h9, h10, h11, h12, h13⟩ := mayS_in h
  obtain ⟨a1, a2⟩ := text_app x.key (putV x.start ++ (putV x.count ++ (putV x.total ++ (putV x.least ++ (putV x.most ++ rest))))) 64 (by omega) (by omega)
  obtain ⟨b1, b2⟩ := num_app (n := x.start) (by omega) (by omega) (putV x.count ++ (putV x.total ++ (putV x.least ++ (putV x.most ++ rest))))
  obtain ⟨c1, c2⟩ := num_app (n := x.count) (by omega) (by omega) (putV x.total ++ (putV x.least ++ (putV x.most ++ rest)))
  obtain ⟨d1, d2⟩ := num_app (n := x.total) (by omega) (by omega) (putV x.least ++ (putV x.most ++ rest))
  obtain ⟨e1, e2⟩ := num_app (n := x.least) (by omega) (by omega) (putV x.most ++ rest)
  obtain ⟨f1, f2⟩ := num_app (n := x.most) (by omega) (by omega) rest
  unfold rdSum sumV
  simp only [List.append_assoc]
  rw [a1, a2, b1, b2, c1, c2, d1, d2, e1, e2, f1, f2]
theorem rdP_app {size : Int} : ∀ {l : List Sm} (_ : ∀ x ∈ l, mayS size x = true) (rest : List UInt8), rdP l.length ⟨sumsV l ++ rest, 0⟩ = l
  | [], _, _ => rfl
  | x :: l, h, rest => by
    have e : sumsV (x :: l) ++ rest = sumV x ++ (sumsV l ++ rest) := by unfold sumsV; simp
    rw [e, List.length_cons, rdP, rdSum_app (h x (List.mem_cons_self ..))]
    simp only
    rw [rdP_app (fun y hy => h y (List.mem_cons_of_mem _ hy)) rest]
theorem rdD_app {size : Int} : ∀ {l : List Sm} (_ : ∀ x ∈ l, mayS size x = true) (rest : List UInt8), rdD l.length ⟨sumsV l ++ rest, 0⟩ = l
  | [], _, _ => rfl
  | x :: l, h, rest => by
    have e : sumsV (x :: l) ++ rest = sumV x ++ (sumsV l ++ rest) := by unfold sumsV; simp
    rw [e, List.length_cons, rdD, if_neg (by simp), rdSum_app (h x (List.mem_cons_self ..))]
    simp only
    rw [rdD_app (fun y hy => h y (List.mem_cons_of_mem _ hy)) rest]
theorem headW_put {s : Wt} (h : checkW s = 0) {f : Nat → RdV → List Sm} (hf : ∀ {l : List Sm} (_ : ∀ x ∈ l, mayS s.size x = true) (rest : List UInt8), f l.length ⟨sumsV l ++ rest, 0⟩ = l) : headW (putW s) f = s := by
  obtain ⟨h1, h2, h3, h4, h5, h6, h7, h8, h9, h10, h11⟩ := checkW_ok h
  obtain ⟨b1, b2⟩ := num_app (n := s.size) (by omega) (by omega) (putV s.late ++ (putV s.mark ++ (putV s.drops ++ (putV s.opn.length ++ sumsV s.opn))))
  obtain ⟨c1, c2⟩ := num_app (n := s.late) (by omega) (by omega) (putV s.mark ++ (putV s.drops ++ (putV s.opn.length ++ sumsV s.opn)))
  obtain ⟨d1, d2⟩ := num_app (n := s.mark) (by omega) (by omega) (putV s.drops ++ (putV s.opn.length ++ sumsV s.opn))
  obtain ⟨e1, e2⟩ := num_app (n := s.drops) (by omega) (by omega) (putV s.opn.length ++ sumsV s.opn)
  obtain ⟨f1, f2⟩ := num_app (n := (s.opn.length : Int)) (by omega) (by omega) (sumsV s.opn)
  have hm : manyW (s.opn.length : Int) = s.opn.length := by unfold manyW; omega
  have hl := hf h10 []
  rw [List.append_nil] at hl
  unfold headW putW
  simp only
  rw [b1, b2, c1, c2, d1, d2, e1, e2, f1, f2, hm, hl]
theorem okW_put {b : List UInt8} {s : Wt} (h : okW b s = true) : checkW s = 0 ∧ putW s = b := by
  unfold okW at h
  simpa using h
/-- The program's way and the document's come to the same. -/
theorem ways_same (b : List UInt8) : okW b (headW b rdD) = okW b (headW b rdP) ∧ (okW b (headW b rdP) = true → headW b rdD = headW b rdP) := by
  have key : ∀ s, okW b s = true → headW b rdP = s ∧ headW b rdD = s := fun s hs => by
    obtain ⟨h1, rfl⟩ := okW_put hs
    exact ⟨headW_put h1 rdP_app, headW_put h1 rdD_app⟩
  constructor
  · cases h1 : okW b (headW b rdP) with
    | true =>
      have := (key _ h1).2
      rw [this, h1]
    | false =>
      cases h2 : okW b (headW b rdD) with
      | true =>
        have := (key _ h2).1
        rw [this, h2] at h1; cases h1
      | false => rfl
  · intro h
    exact (key _ h).2
theorem getW_put {s : Wt} (h : checkW s = 0) : getW (putW s) = (s, 0) := by
  have e := headW_put h rdP_app
  unfold getW
  rw [e, if_pos]
  unfold okW
  rw [h]
  simp
end Go.Proofs.Ytpejdompanhieaa
