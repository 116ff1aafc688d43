/- Plain laws of layer 35: what is fed is dropped, or counted in just one sum that is told or open. -/
import Derived.Test.YtpejdompanhieaaWnP
namespace Go.Proofs.Ytpejdompanhieaa

theorem posS_mem {l : List Sm} {p : Sm} (hc : posS l p < l.length) : l.getD (posS l p) sm0 ∈ l := by
  rw [getD_sm hc]
  exact List.getElem_mem hc
/-- A number in a sum that may be. -/
theorem may_with {size : Int} {x : Sm} {n : Int} (h : mayS size x = true) (hc : x.count < 1048576) (hn : numW n = true) : mayS size (withS x n) = true := by
  obtain ⟨h1, h2, h3, h4, h5, h6, h7, h8, h9, h10, h11, h12, h13⟩ := mayS_in h
  unfold numW inW at hn
  simp only [Bool.and_eq_true, decide_eq_true_eq] at hn
  unfold mayS withS numW inW
  simp only [Bool.and_eq_true, decide_eq_true_eq]
  have a1 : x.count * min x.least n ≤ x.count * x.least := Int.mul_le_mul_of_nonneg_left (Int.min_le_left _ _) (by omega)
  have a2 : x.count * x.most ≤ x.count * max x.most n := Int.mul_le_mul_of_nonneg_left (Int.le_max_left _ _) (by omega)
  have a3 : (x.count + 1) * min x.least n = x.count * min x.least n + min x.least n := by rw [Int.add_mul, Int.one_mul]
  have a4 : (x.count + 1) * max x.most n = x.count * max x.most n + max x.most n := by rw [Int.add_mul, Int.one_mul]
  rw [a3, a4]
  generalize x.count * min x.least n = m1 at *
  generalize x.count * max x.most n = m2 at *
  generalize x.count * x.least = m3 at *
  generalize x.count * x.most = m4 at *
  omega
theorem may_new {size start : Int} {key : List UInt8} {n : Int} (h1 : 0 ≤ start ∧ start ≤ 1099511627776) (h2 : start % size = 0) (h3 : key.length ≤ 64) (hn : numW n = true) : mayS size ⟨start, key, 1, n, n, n⟩ = true := by
  unfold numW inW at hn
  simp only [Bool.and_eq_true, decide_eq_true_eq] at hn
  unfold mayS numW inW
  simp only [Bool.and_eq_true, decide_eq_true_eq]
  omega
theorem cnt_set {l : List Sm} {i : Nat} {x : Sm} (hi : i < l.length) : cntS (l.set i x) = cntS l - l[i].count + x.count ∧ totS (l.set i x) = totS l - l[i].total + x.total := by
  have e : l = l.take i ++ (l[i] :: l.drop (i + 1)) := by rw [← List.drop_eq_getElem_cons hi, List.take_append_drop]
  have hs : l.set i x = l.take i ++ (x :: l.drop (i + 1)) := by rw [List.set_eq_take_append_cons_drop, if_pos hi]
  have c1 := cntS_app (l.take i) (l[i] :: l.drop (i + 1))
  have c2 := cntS_app [l[i]] (l.drop (i + 1))
  have c3 := cntS_app (l.take i) (x :: l.drop (i + 1))
  have c4 := cntS_app [x] (l.drop (i + 1))
  have t1 := totS_app (l.take i) (l[i] :: l.drop (i + 1))
  have t2 := totS_app [l[i]] (l.drop (i + 1))
  have t3 := totS_app (l.take i) (x :: l.drop (i + 1))
  have t4 := totS_app [x] (l.drop (i + 1))
  rw [cntS_one, List.singleton_append] at c2 c4
  rw [totS_one, List.singleton_append] at t2 t4
  rw [← e] at c1 t1
  rw [hs]
  omega
/-- What add makes of sums that may be. -/
theorem addS_ok {size start : Int} {l L : List Sm} {key : List UInt8} {n : Int} (h : addS l (atS start key) n = (L, 0)) (hm : ∀ x ∈ l, mayS size x = true) (h1 : 0 ≤ start ∧ start ≤ 1099511627776) (h2 : start % size = 0) (h3 : key.length ≤ 64) (hn : numW n = true) :
    (∀ x ∈ L, mayS size x = true) ∧ cntS L = cntS l + 1 ∧ totS L = totS l + n := by
  rw [addS_def] at h
  by_cases hc : posS l (atS start key) < l.length ∧ ordS (l.getD (posS l (atS start key)) sm0) (atS start key) = 0
  · rw [if_pos hc] at h
    by_cases hf : 1048576 ≤ (l.getD (posS l (atS start key)) sm0).count
    · rw [if_pos hf] at h
      cases h
    · rw [if_neg hf] at h
      cases h
      have hx := hm _ (posS_mem hc.1)
      have hw := may_with (n := n) hx (by omega) hn
      refine ⟨fun x hx => ?_, ?_⟩
      · rcases List.mem_or_eq_of_mem_set hx with h | rfl
        · exact hm x h
        · exact hw
      · have := cnt_set (x := withS (l.getD (posS l (atS start key)) sm0) n) hc.1
        rw [← getD_sm hc.1] at this
        rw [this.1, this.2]
        unfold withS
        simp only
        omega
  · rw [if_neg hc] at h
    by_cases hf : 256 ≤ l.length
    · rw [if_pos hf] at h
      cases h
    · rw [if_neg hf] at h
      cases h
      refine ⟨fun x hx => ?_, ?_⟩
      · rcases List.mem_append.1 hx with h | h
        · exact hm x (List.mem_of_mem_take h)
        · rcases List.mem_cons.1 h with rfl | h
          · exact may_new h1 h2 h3 hn
          · exact hm x (List.mem_of_mem_drop h)
      · have c1 := cntS_app (l.take (posS l (atS start key))) ((⟨start, key, 1, n, n, n⟩ : Sm) :: l.drop (posS l (atS start key)))
        have c2 := cntS_app [(⟨start, key, 1, n, n, n⟩ : Sm)] (l.drop (posS l (atS start key)))
        have c3 := cntS_app (l.take (posS l (atS start key))) (l.drop (posS l (atS start key)))
        have t1 := totS_app (l.take (posS l (atS start key))) ((⟨start, key, 1, n, n, n⟩ : Sm) :: l.drop (posS l (atS start key)))
        have t2 := totS_app [(⟨start, key, 1, n, n, n⟩ : Sm)] (l.drop (posS l (atS start key)))
        have t3 := totS_app (l.take (posS l (atS start key))) (l.drop (posS l (atS start key)))
        rw [cntS_one, List.singleton_append] at c2
        rw [totS_one, List.singleton_append] at t2
        rw [List.take_append_drop] at c3 t3
        simp only at c2 t2
        show cntS (l.take (posS l (atS start key)) ++ (⟨start, key, 1, n, n, n⟩ : Sm) :: l.drop (posS l (atS start key))) = _ ∧ totS (l.take (posS l (atS start key)) ++ (⟨start, key, 1, n, n, n⟩ : Sm) :: l.drop (posS l (atS start key))) = _
        omega
theorem cnt_parts (l : List Sm) (p : Sm → Bool) : cntS (l.filter p) + cntS (l.filter fun x => !(p x)) = cntS l ∧ totS (l.filter p) + totS (l.filter fun x => !(p x)) = totS l := by
  induction l with
  | nil => exact ⟨rfl, rfl⟩
  | cons x l ih =>
    have c1 := cntS_app [x] l
    have t1 := totS_app [x] l
    have c2 := cntS_app [x] (l.filter p)
    have t2 := totS_app [x] (l.filter p)
    have c3 := cntS_app [x] (l.filter fun x => !(p x))
    have t3 := totS_app [x] (l.filter fun x => !(p x))
    rw [cntS_one, List.singleton_append] at c1 c2 c3
    rw [totS_one, List.singleton_append] at t1 t2 t3
    rw [List.filter_cons, List.filter_cons]
    cases p x with
    | true => simp only [Bool.not_true, Bool.false_eq_true, if_true, if_false]; omega
    | false => simp only [Bool.not_false, Bool.false_eq_true, if_true, if_false]; omega
/-- The three ways of a number that is fed without an error. -/
theorem feedW_cases {s T : Wt} {key : List UInt8} {time n : Int} {O : List Sm} (hc : checkW s = 0) (h : feedW s key time n = (T, O, 0)) :
    numW n = true ∧ 0 ≤ time ∧ time ≤ 1099511627776 ∧ key.length ≤ 64 ∧
    ((T = ⟨s.size, s.late, s.mark, min (s.drops + 1) 1099511627776, s.opn⟩ ∧ O = []) ∨
     ∃ L, addS s.opn (atS (time - time % s.size) key) n = (L, 0) ∧ lateW s (time - time % s.size) (max s.mark time) = false ∧ T = ⟨s.size, s.late, max s.mark time, s.drops, L.filter fun x => !(lateW s x.start (max s.mark time))⟩ ∧ O = L.filter fun x => lateW s x.start (max s.mark time)) := by
  have h0 : ¬ checkW s ≠ 0 := fun e => e hc
  by_cases h2 : 64 < key.length
  · unfold feedW at h
    rw [if_neg h0, if_pos h2] at h
    cases h
  by_cases h3 : inW time 0 1099511627776 = false ∨ numW n = false
  · unfold feedW at h
    rw [if_neg h0, if_neg h2, if_pos h3] at h
    cases h
  have h4 : inW time 0 1099511627776 = true := by cases e : inW time 0 1099511627776 with | true => rfl | false => exact absurd (.inl e) h3
  have h5 : numW n = true := by cases e : numW n with | true => rfl | false => exact absurd (.inr e) h3
  have h6 := h4
  unfold inW at h6
  simp only [Bool.and_eq_true, decide_eq_true_eq] at h6
  refine ⟨h5, h6.1, h6.2, by omega, ?_⟩
  unfold feedW at h
  rw [if_neg h0, if_neg h2, if_neg h3] at h
  simp only at h
  cases hl : lateW s (time - time % s.size) (max s.mark time) with
  | true =>
    rw [hl, if_pos rfl] at h
    cases h
    exact .inl ⟨rfl, rfl⟩
  | false =>
    rw [hl, if_neg (by simp)] at h
    by_cases h7 : (addS s.opn (atS (time - time % s.size) key) n).2 = 0
    · rw [if_neg (by simp [h7])] at h
      refine .inr ⟨(addS s.opn (atS (time - time % s.size) key) n).1, ?_, rfl, ?_⟩
      · rw [← h7]
      · cases h
        exact ⟨rfl, rfl⟩
    · rw [if_pos h7] at h
      injection h with e1 e2
      injection e2 with e3 e4
      exact absurd e4 h7
theorem start_ok {size time : Int} (hs : 1 ≤ size) (h0 : 0 ≤ time) (h1 : time ≤ 1099511627776) : 0 ≤ time - time % size ∧ time - time % size ≤ 1099511627776 ∧ (time - time % size) % size = 0 := by
  have e1 := Int.emod_add_mul_ediv time size
  have e2 : 0 ≤ time / size := Int.ediv_nonneg h0 (by omega)
  have e3 : 0 ≤ size * (time / size) := Int.mul_nonneg (by omega) e2
  have e4 : 0 ≤ time % size := Int.emod_nonneg _ (by omega)
  have e5 : time - time % size = size * (time / size) := by omega
  refine ⟨by omega, by omega, ?_⟩
  rw [e5]
  exact Int.mul_emod_right _ _
/-- Feed leaves a state that may be. -/
theorem feed_check {s T : Wt} {key : List UInt8} {time n : Int} {O : List Sm} (hc : checkW s = 0) (h : feedW s key time n = (T, O, 0)) : checkW T = 0 ∧ T.size = s.size ∧ T.late = s.late ∧ s.mark ≤ T.mark ∧ s.drops ≤ T.drops := by
  obtain ⟨b1, b2, b3, b4, b5, b6, b7, b8, b9, b10, b11⟩ := checkW_ok hc
  obtain ⟨hn, t1, t2, hk, hw⟩ := feedW_cases hc h
  rcases hw with ⟨rfl, -⟩ | ⟨L, hL, -, rfl, -⟩
  · refine ⟨checkW_of ⟨b1, b2, b3, b4, b5, b6, ?_, ?_, b9⟩ b10 b11, rfl, rfl, Int.le_refl _, ?_⟩
    · show 0 ≤ min (s.drops + 1) 1099511627776; omega
    · show min (s.drops + 1) 1099511627776 ≤ 1099511627776; omega
    · show s.drops ≤ min (s.drops + 1) 1099511627776; omega
  · obtain ⟨s1, s2, s3⟩ := start_ok b1 t1 t2
    obtain ⟨m1, -, -⟩ := addS_ok hL b10 ⟨s1, s2⟩ s3 hk hn
    have hlen := addS_len (p := atS (time - time % s.size) key) (n := n) b9
    have hri := addS_rises (p := atS (time - time % s.size) key) (n := n) b11 (by rw [hL])
    rw [hL] at hlen hri
    refine ⟨checkW_of ⟨b1, b2, b3, b4, ?_, ?_, b7, b8, Nat.le_trans (List.length_filter_le _ _) hlen⟩ (fun x hx => m1 x (List.mem_filter.1 hx).1) (List.Pairwise.sublist List.filter_sublist hri), rfl, rfl, ?_, Int.le_refl _⟩
    · show -1 ≤ max s.mark time; omega
    · show max s.mark time ≤ 1099511627776; omega
    · show s.mark ≤ max s.mark time; omega
/-- Two places are apart. -/
def Apart2 (a b : Sm) : Prop := ¬ (a.start = b.start ∧ a.key = b.key)
theorem rises_apart {l : List Sm} (h : Rises l) : l.Pairwise Apart2 := List.Pairwise.imp (fun {a b} hab he => by have := ordS_zero.2 he; omega) h
/-- What holds behind i numbers: all that was fed and not dropped is in what was told, or open. -/
structure OnceI (s : Wt) (told : List Sm) (cnt tot : Int) (z lt : Int) (i : Nat) : Prop where
  chk : checkW s = 0
  size : s.size = z
  late : s.late = lt
  cntE : cntS told + cntS s.opn = cnt
  totE : totS told + totS s.opn = tot
  cle : 0 ≤ cnt ∧ cnt ≤ i
  tle : -(1073741824 * (i : Int)) ≤ tot ∧ tot ≤ 1073741824 * i
  dle : s.drops ≤ i
  apart : told.Pairwise Apart2
  gone : ∀ x ∈ told, lateW s x.start s.mark = true
  stay : ∀ x ∈ s.opn, lateW s x.start s.mark = false
  may : ∀ x ∈ told, mayS z x = true
theorem OnceI.start (z lt : Int) (h1 : 1 ≤ z ∧ z ≤ 1048576) (h2 : 0 ≤ lt ∧ lt ≤ 1048576) : newW z lt = (⟨z, lt, -1, 0, []⟩, 0) ∧ OnceI ⟨z, lt, -1, 0, []⟩ [] 0 0 z lt 0 := by
  have hc : checkW ⟨z, lt, -1, 0, []⟩ = 0 := checkW_of ⟨h1.1, h1.2, h2.1, h2.2, by show (-1 : Int) ≤ -1; omega, by show (-1 : Int) ≤ 1099511627776; omega, by show (0 : Int) ≤ 0; omega, by show (0 : Int) ≤ 1099511627776; omega, Nat.zero_le _⟩ (fun x hx => by simp at hx) List.Pairwise.nil
  refine ⟨by unfold newW; rw [if_neg (by simp [hc])], ⟨hc, rfl, rfl, rfl, rfl, ⟨by omega, by omega⟩, ⟨by omega, by omega⟩, by show (0 : Int) ≤ 0; omega, List.Pairwise.nil, fun x hx => by simp at hx, fun x hx => by simp at hx, fun x hx => by simp at hx⟩⟩
theorem OnceI.skip {s : Wt} {told : List Sm} {cnt tot z lt : Int} {i : Nat} (h : OnceI s told cnt tot z lt i) : OnceI s told cnt tot z lt (i + 1) :=
  ⟨h.chk, h.size, h.late, h.cntE, h.totE, ⟨h.cle.1, by have := h.cle.2; omega⟩, ⟨by have := h.tle.1; omega, by have := h.tle.2; omega⟩, by have := h.dle; omega, h.apart, h.gone, h.stay, h.may⟩
theorem late_same {s T : Wt} (h1 : T.size = s.size) (h2 : T.late = s.late) (a b : Int) : lateW T a b = lateW s a b := by unfold lateW; rw [h1, h2]
theorem late_mono {s : Wt} {a b c : Int} (h : lateW s a b = true) (hbc : b ≤ c) : lateW s a c = true := by
  unfold lateW at *
  rw [decide_eq_true_eq] at *
  omega
/-- A number that is fed without an error. -/
theorem OnceI.step {s T : Wt} {told O : List Sm} {cnt tot z lt : Int} {i : Nat} {key : List UInt8} {time n : Int} (h : OnceI s told cnt tot z lt i) (hi : i ≤ 60) (hf : feedW s key time n = (T, O, 0)) :
    (-1073741824 ≤ n ∧ n ≤ 1073741824) ∧ (∀ x ∈ O, x.start + T.size + T.late ≤ T.mark ∧ x.start % T.size = 0 ∧ 0 ≤ x.start ∧ x.start ≤ 1099511627776) ∧ checkW T = 0 ∧ s.mark ≤ T.mark ∧ s.drops ≤ T.drops ∧
    (T.drops = s.drops → OnceI T (told ++ O) (cnt + 1) (tot + n) z lt (i + 1)) ∧ (T.drops ≠ s.drops → OnceI T (told ++ O) cnt tot z lt (i + 1)) := by
  obtain ⟨k1, k2, k3, k4, k5⟩ := feed_check h.chk hf
  obtain ⟨b1, b2, b3, b4, b5, b6, b7, b8, b9, b10, b11⟩ := checkW_ok h.chk
  obtain ⟨hn, t1, t2, hk, hw⟩ := feedW_cases h.chk hf
  have hnn := hn
  unfold numW inW at hnn
  simp only [Bool.and_eq_true, decide_eq_true_eq] at hnn
  have hd := h.dle
  rcases hw with ⟨rfl, rfl⟩ | ⟨L, hL, hl, hT, hO⟩
  · have hne : (⟨s.size, s.late, s.mark, min (s.drops + 1) 1099511627776, s.opn⟩ : Wt).drops ≠ s.drops := by show min (s.drops + 1) 1099511627776 ≠ s.drops; omega
    refine ⟨hnn, fun x hx => by simp at hx, k1, k4, k5, fun e => absurd e hne, fun _ => ?_⟩
    rw [List.append_nil]
    exact ⟨k1, h.size, h.late, h.cntE, h.totE, ⟨h.cle.1, by have := h.cle.2; omega⟩, ⟨by have := h.tle.1; omega, by have := h.tle.2; omega⟩, by show min (s.drops + 1) 1099511627776 ≤ _; omega, h.apart, fun x hx => (late_same rfl rfl _ _).trans (h.gone x hx), fun x hx => (late_same rfl rfl _ _).trans (h.stay x hx), h.may⟩
  · obtain ⟨s1, s2, s3⟩ := start_ok b1 t1 t2
    obtain ⟨m1, m2, m3⟩ := addS_ok hL b10 ⟨s1, s2⟩ s3 hk hn
    have hri := addS_rises (p := atS (time - time % s.size) key) (n := n) b11 (by rw [hL])
    rw [hL] at hri
    obtain ⟨p1, p2⟩ := cnt_parts L fun x => lateW s x.start (max s.mark time)
    have hTo : T.opn = L.filter fun x => !(lateW s x.start (max s.mark time)) := by rw [hT]
    have hTm : T.mark = max s.mark time := by rw [hT]
    have hTd : T.drops = s.drops := by rw [hT]
    have hOl : ∀ x ∈ O, x ∈ L ∧ lateW s x.start (max s.mark time) = true := fun x hx => by rw [hO] at hx; exact List.mem_filter.1 hx
    refine ⟨hnn, fun x hx => ?_, k1, k4, k5, fun _ => ?_, fun e => absurd hTd e⟩
    · obtain ⟨x1, x2⟩ := hOl x hx
      have hm := mayS_in (m1 x x1)
      unfold lateW at x2
      rw [decide_eq_true_eq] at x2
      rw [k2, k3, hTm]
      exact ⟨x2, hm.2.2.1, hm.1, hm.2.1⟩
    · refine ⟨k1, k2.trans h.size, k3.trans h.late, ?_, ?_, ⟨by have := h.cle.1; omega, by have := h.cle.2; omega⟩, ⟨by have := h.tle.1; omega, by have := h.tle.2; omega⟩, by omega, ?_, fun x hx => ?_, fun x hx => ?_, fun x hx => ?_⟩
      · rw [cntS_app, hTo, hO]
        have := h.cntE
        omega
      · rw [totS_app, hTo, hO]
        have := h.totE
        omega
      · rw [List.pairwise_append]
        refine ⟨h.apart, ?_, fun a ha b hb he => ?_⟩
        · rw [hO]
          exact List.Pairwise.sublist List.filter_sublist (rises_apart hri)
        · obtain ⟨x1, x2⟩ := hOl b hb
          have g1 := h.gone a ha
          rw [he.1] at g1
          rcases addS_mem (l := s.opn) (p := atS (time - time % s.size) key) (n := n) (x := b) (by rw [hL]; exact x1) with e | ⟨y, hy, e⟩
          · have e' : b.start = time - time % s.size := e
            rw [e', hl] at x2
            cases x2
          · rw [e, h.stay y hy] at g1
            cases g1
      · rw [late_same k2 k3, hTm]
        rcases List.mem_append.1 hx with hx | hx
        · exact late_mono (h.gone x hx) (by omega)
        · exact (hOl x hx).2
      · rw [late_same k2 k3, hTm]
        rw [hTo] at hx
        have := (List.mem_filter.1 hx).2
        simpa using this
      · rcases List.mem_append.1 hx with hx | hx
        · exact h.may x hx
        · have := m1 x (hOl x hx).1
          rw [h.size] at this
          exact this
theorem cnt_len {z : Int} : ∀ {l : List Sm}, (∀ x ∈ l, mayS z x = true) → (l.length : Int) ≤ cntS l
  | [], _ => by simp [cntS]
  | x :: l, h => by
    have h1 := cnt_len (l := l) fun y hy => h y (List.mem_cons_of_mem _ hy)
    have h2 := mayS_in (h x (List.mem_cons_self ..))
    have c := cntS_app [x] l
    rw [cntS_one, List.singleton_append] at c
    rw [List.length_cons]
    omega
theorem fair_may {z : Int} {l : List Sm} (h : ∀ x ∈ l, mayS z x = true) : FairS l := fun x hx => by
  obtain ⟨-, -, -, -, h1, h2, h3, h4, h5, h6, -, h7, h8⟩ := mayS_in (h x hx)
  have a1 : x.count * (-1073741824) ≤ x.count * x.least := Int.mul_le_mul_of_nonneg_left h3 (by omega)
  have a2 : x.count * x.most ≤ x.count * 1073741824 := Int.mul_le_mul_of_nonneg_left h6 (by omega)
  omega
/-- All that was told, and what is closed at the end. -/
theorem OnceI.all {s : Wt} {told : List Sm} {cnt tot z lt : Int} {i : Nat} (h : OnceI s told cnt tot z lt i) (hi : i ≤ 60) :
    closeW s = (⟨s.size, s.late, s.mark, s.drops, []⟩, s.opn) ∧ cntS (told ++ s.opn) = cnt ∧ totS (told ++ s.opn) = tot ∧ (told ++ s.opn).Pairwise Apart2 ∧ FairS (told ++ s.opn) ∧ (told ++ s.opn).length ≤ 60 ∧ cnt ≤ 60 := by
  obtain ⟨b1, b2, b3, b4, b5, b6, b7, b8, b9, b10, b11⟩ := checkW_ok h.chk
  have hmay : ∀ x ∈ told ++ s.opn, mayS z x = true := fun x hx => by
    rcases List.mem_append.1 hx with hx | hx
    · exact h.may x hx
    · have := b10 x hx
      rw [h.size] at this
      exact this
  have hcn : cntS (told ++ s.opn) = cnt := by rw [cntS_app]; exact h.cntE
  have hl := cnt_len hmay
  have hc := h.cle
  refine ⟨by unfold closeW; rw [if_neg (by simp [h.chk])], hcn, by rw [totS_app]; exact h.totE, ?_, fair_may hmay, by omega, by omega⟩
  rw [List.pairwise_append]
  refine ⟨h.apart, rises_apart b11, fun a ha b hb he => ?_⟩
  have g1 := h.gone a ha
  rw [he.1, h.stay b hb] at g1
  cases g1
theorem told_len {s : Wt} {told : List Sm} {cnt tot z lt : Int} {i : Nat} (h : OnceI s told cnt tot z lt i) (hi : i ≤ 60) : told.length ≤ 60 := by
  have := (h.all hi).2.2.2.2.2.1
  rw [List.length_append] at this
  omega
end Go.Proofs.Ytpejdompanhieaa
