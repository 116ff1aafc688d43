/- What the program's small functions of layer 35 compute: whether a sum may be; closures; places. -/
import Derived.Test.YtpejdompanhieaaWnR
import Derived.Test.YtpejdompanhieaaReads2
namespace Go.Proofs.Ytpejdompanhieaa
open Go.RowKit

/-! ### Places -/
section
variable {α : Type}
/-- The place of the first of which p holds; -1: there is none. -/
def placeF (p : α → Bool) (l : List α) : Int := match l.findIdx? p with
  | some i => (i : Int)
  | none => -1
theorem find_found {p : α → Bool} {l : List α} {j : Nat} (hj : j < l.length) (hp : p l[j] = true) (h : ∀ (t : Nat) (x : α), t < j → l[t]? = some x → p x = false) : l.findIdx? p = some j := by
  rw [List.findIdx?_eq_some_iff_getElem]
  refine ⟨hj, hp, fun t ht => ?_⟩
  have := h t l[t] ht (List.getElem?_eq_getElem (by omega))
  simpa using this
theorem find_none {p : α → Bool} {l : List α} (h : ∀ (t : Nat) (x : α), l[t]? = some x → p x = false) : l.findIdx? p = none := by
  rw [List.findIdx?_eq_none_iff]
  intro x hx
  obtain ⟨t, ht, rfl⟩ := List.getElem_of_mem hx
  exact h t _ (List.getElem?_eq_getElem ht)
theorem find_some {p : α → Bool} {l : List α} {j : Nat} (h : l.findIdx? p = some j) : ∃ hj : j < l.length, p l[j] = true ∧ ∀ (t : Nat) (ht : t < j), p (l[t]'(by omega)) = false := by
  rw [List.findIdx?_eq_some_iff_getElem] at h
  obtain ⟨hj, hp, h⟩ := h
  exact ⟨hj, hp, fun t ht => by simpa using h t ht⟩
end

set_option maxHeartbeats 400000 in
theorem within_any (n a b : Int) (w : World) :
    Calls Try.prog 28 #[.int .i64 n, .int .i64 a, .int .i64 b] w fun e w' => e = .returned (.bool (inW n a b)) ∧ w = w' := by
  unfold inW
  by_cases h1 : a ≤ n
  · rw [decide_eq_true h1, Bool.true_and]
    go_enter Try.func28, Try.ntmps28
    go_wp2_with fail
    go_ret
    exact ⟨rfl, rfl⟩
  · rw [decide_eq_false h1, Bool.false_and]
    go_enter Try.func28, Try.ntmps28
    go_wp2_with fail
    go_ret
    exact ⟨rfl, rfl⟩
theorem number_any (n : Int) (w : World) :
    Calls Try.prog 29 #[.int .i64 n] w fun e w' => e = .returned (.bool (numW n)) ∧ w = w' := by
  unfold numW
  have C1 := fun W => within_any n (-1073741824) 1073741824 W
  generalize inW n (-1073741824) 1073741824 = B at *
  go_enter Try.func29, Try.ntmps29
  go_wp2_with (go_at_call 28; refine (C1 _).mono ?_; rintro e w' ⟨rfl, rfl⟩)
  go_ret
  exact ⟨rfl, rfl⟩
set_option maxHeartbeats 2000000 in
theorem may_any (x : Sm) (size : Int) (hs : 1 ≤ size) (w : World) :
    Calls Try.prog 42 #[smv x, .int .i64 size] w fun e w' => e = .returned (.bool (mayS size x)) ∧ Ext w w' := by
  obtain ⟨s, k, n, t, l, m⟩ := x
  have hx0 := Ext.alloc w (.cells #[.int .i64 s, .string ⟨k.toArray⟩, .int .i64 n, .int .i64 t, .int .i64 l, .int .i64 m] 64)
  have hk : (ByteArray.mk k.toArray).size = k.length := text_size _
  have hz : ¬ size = 0 := by omega
  unfold mayS
  simp only
  have hmod : inW s 0 1099511627776 = true → s.tmod size = s % size := fun h => by
    unfold inW at h; simp only [Bool.and_eq_true, decide_eq_true_eq] at h
    exact Int.tmod_eq_emod_of_nonneg h.1
  have HMOD := Lib.hid hmod
  have hmul : inW n 1 1048576 = true → numW l = true → numW m = true → wrap64 (n * l) = n * l ∧ wrap64 (n * m) = n * m := fun h1 h2 h3 => by
    unfold numW inW at h2 h3
    unfold inW at h1
    simp only [Bool.and_eq_true, decide_eq_true_eq] at h1 h2 h3
    have a1 : n * (-1073741824) ≤ n * l := Int.mul_le_mul_of_nonneg_left h2.1 (by omega)
    have a2 : n * l ≤ n * 1073741824 := Int.mul_le_mul_of_nonneg_left h2.2 (by omega)
    have a3 : n * (-1073741824) ≤ n * m := Int.mul_le_mul_of_nonneg_left h3.1 (by omega)
    have a4 : n * m ≤ n * 1073741824 := Int.mul_le_mul_of_nonneg_left h3.2 (by omega)
    exact ⟨(by unfold wrap64; omega), (by unfold wrap64; omega)⟩
  have HMUL := Lib.hid hmul
  clear hmod hmul
  cases h0 : inW s 0 1099511627776 with
  | false =>
    simp only [Bool.false_and]
    go_enter Try.func42, Try.ntmps42
    go_wp2_with (first
      | (go_at_call 28; refine (within_any _ _ _ _).mono ?_; rintro e w' ⟨rfl, rfl⟩)
      | (go_at_call 29; refine (number_any _ _).mono ?_; rintro e w' ⟨rfl, rfl⟩))
    go_ret
    exact ⟨rfl, hx0⟩
  | true =>
    have hm1 := HMOD.out h0
    have HH0 := Lib.hid h0
    by_cases h1 : s % size = 0
    case neg =>
      have hb1 : (s % size == 0) = false := by rw [beq_eq_false_iff_ne]; exact h1
      rw [decide_eq_false h1]
      simp only [Bool.false_and, Bool.and_false]
      clear h1
      go_enter Try.func42, Try.ntmps42
      go_wp2_with (first
        | (go_at_call 28; refine (within_any _ _ _ _).mono ?_; rintro e w' ⟨rfl, rfl⟩)
        | (go_at_call 29; refine (number_any _ _).mono ?_; rintro e w' ⟨rfl, rfl⟩))
      go_ret
      exact ⟨rfl, hx0⟩
    have hb1 : (s % size == 0) = true := by rw [beq_iff_eq]; exact h1
    rw [decide_eq_true h1]
    clear h1
    by_cases h2 : k.length ≤ 64
    case neg =>
      have hi2 : ¬ ((k.length : Int) ≤ 64) := by omega
      rw [decide_eq_false h2]
      simp only [Bool.false_and, Bool.and_false]
      clear h2
      go_enter Try.func42, Try.ntmps42
      go_wp2_with (first
        | (go_at_call 28; refine (within_any _ _ _ _).mono ?_; rintro e w' ⟨rfl, rfl⟩)
        | (go_at_call 29; refine (number_any _ _).mono ?_; rintro e w' ⟨rfl, rfl⟩))
      go_ret
      exact ⟨rfl, hx0⟩
    have hi2 : ((k.length : Int) ≤ 64) := by omega
    rw [decide_eq_true h2]
    clear h2
    cases h3 : inW n 1 1048576 with
    | false =>
      simp only [Bool.false_and, Bool.and_false]
      go_enter Try.func42, Try.ntmps42
      go_wp2_with (first
        | (go_at_call 28; refine (within_any _ _ _ _).mono ?_; rintro e w' ⟨rfl, rfl⟩)
        | (go_at_call 29; refine (number_any _ _).mono ?_; rintro e w' ⟨rfl, rfl⟩))
      go_ret
      exact ⟨rfl, hx0⟩
    | true =>
      cases h4 : numW l with
      | false =>
        simp only [Bool.false_and, Bool.and_false]
        go_enter Try.func42, Try.ntmps42
        go_wp2_with (first
          | (go_at_call 28; refine (within_any _ _ _ _).mono ?_; rintro e w' ⟨rfl, rfl⟩)
          | (go_at_call 29; refine (number_any _ _).mono ?_; rintro e w' ⟨rfl, rfl⟩))
        go_ret
        exact ⟨rfl, hx0⟩
      | true =>
        cases h5 : numW m with
        | false =>
          simp only [Bool.false_and, Bool.and_false]
          go_enter Try.func42, Try.ntmps42
          go_wp2_with (first
            | (go_at_call 28; refine (within_any _ _ _ _).mono ?_; rintro e w' ⟨rfl, rfl⟩)
            | (go_at_call 29; refine (number_any _ _).mono ?_; rintro e w' ⟨rfl, rfl⟩))
          go_ret
          exact ⟨rfl, hx0⟩
        | true =>
          by_cases h6 : l ≤ m
          case neg =>
            rw [decide_eq_false h6]
            simp only [Bool.false_and, Bool.and_false]
            go_enter Try.func42, Try.ntmps42
            go_wp2_with (first
              | (go_at_call 28; refine (within_any _ _ _ _).mono ?_; rintro e w' ⟨rfl, rfl⟩)
              | (go_at_call 29; refine (number_any _ _).mono ?_; rintro e w' ⟨rfl, rfl⟩))
            go_ret
            exact ⟨rfl, hx0⟩
          rw [decide_eq_true h6]
          obtain ⟨hw1, hw2⟩ := HMUL.out h3 h4 h5
          have HW := Lib.hid (And.intro hw1 hw2)
          simp only [Bool.true_and]
          clear hw1 hw2
          go_enter Try.func42, Try.ntmps42
          go_wp2_with (first
            | (go_at_call 28; refine (within_any _ _ _ _).mono ?_; rintro e w' ⟨rfl, rfl⟩)
            | (go_at_call 29; refine (number_any _ _).mono ?_; rintro e w' ⟨rfl, rfl⟩))
          go_ret
          refine ⟨?_, hx0⟩
          show Ending.returned (.bool (inW t (wrap64 (n * l)) (wrap64 (n * m)))) = _
          rw [HW.out.1, HW.out.2]
/-! ### Closures -/
theorem mayC_any (g : Nat) (s : Wt) (v : Value) (x : Sm) (w : World) (hs : 1 ≤ s.size) (ho : ObjAt w g 31 [.int .i64 s.size, .int .i64 s.late, .int .i64 s.mark, .int .i64 s.drops, v]) :
    Calls Try.prog 41 #[smv x, .pointer (some ⟨g, 0, none⟩)] w fun e w' => e = .returned (.bool (!mayS s.size x)) ∧ Ext w w' := by
  have O1 := fun W => may_any x s.size hs W
  have hx0 := Ext.alloc w (.cells #[.int .i64 x.start, .string ⟨x.key.toArray⟩, .int .i64 x.count, .int .i64 x.total, .int .i64 x.least, .int .i64 x.most] 64)
  have c0 := (ho.ext hx0).cell (j := 0) rfl
  generalize mayS s.size x = B at *
  go_enter Try.func41, Try.ntmps41
  go_wp2_with (go_at_call 42; refine (O1 _).mono ?_; rintro e w' ⟨rfl, hx1⟩)
  go_ret
  exact ⟨rfl, hx0.trans hx1⟩
theorem late_any (s : Wt) (v : Value) (start mark : Int) (h : 0 ≤ s.size ∧ s.size ≤ 1048576 ∧ 0 ≤ s.late ∧ s.late ≤ 1048576 ∧ 0 ≤ start ∧ start ≤ 1099511627776) (w : World) :
    Calls Try.prog 31 #[wtv s v, .int .i64 start, .int .i64 mark] w fun e w' => e = .returned (.bool (lateW s start mark)) ∧ Ext w w' := by
  obtain ⟨z, l, m, d, o⟩ := s
  simp only at h
  have hx0 := Ext.alloc w (.cells #[.int .i64 z, .int .i64 l, .int .i64 m, .int .i64 d, v] 31)
  unfold lateW
  simp only
  have h1 : -9223372036854775808 ≤ start + z ∧ start + z ≤ 9223372036854775807 := by omega
  have h2 : -9223372036854775808 ≤ start + z + l ∧ start + z + l ≤ 9223372036854775807 := by omega
  have e1 : wrap64 (start + z) = start + z := by unfold wrap64; omega
  have e2 : wrap64 (start + z + l) = start + z + l := by unfold wrap64; omega
  clear h
  by_cases hl : start + z + l ≤ mark
  · rw [decide_eq_true hl]
    go_enter Try.func31, Try.ntmps31
    go_wp2_with fail
    go_ret
    exact ⟨rfl, hx0⟩
  · rw [decide_eq_false hl]
    go_enter Try.func31, Try.ntmps31
    go_wp2_with fail
    go_ret
    exact ⟨rfl, hx0⟩
theorem lateC_any (g k : Nat) (s : Wt) (v : Value) (mark : Int) (x : Sm) (w : World) (h : 0 ≤ s.size ∧ s.size ≤ 1048576 ∧ 0 ≤ s.late ∧ s.late ≤ 1048576 ∧ 0 ≤ x.start ∧ x.start ≤ 1099511627776)
    (ho : ObjAt w g 31 [.int .i64 s.size, .int .i64 s.late, .int .i64 s.mark, .int .i64 s.drops, v]) (hk : ObjAt w k 3 [.int .i64 mark]) :
    Calls Try.prog 34 #[smv x, .pointer (some ⟨g, 0, none⟩), .pointer (some ⟨k, 0, none⟩)] w fun e w' => e = .returned (.bool (!lateW s x.start mark)) ∧ Ext w w' := by
  have O1 := fun W => late_any s v x.start mark h W
  have hx0 := Ext.alloc w (.cells #[.int .i64 x.start, .string ⟨x.key.toArray⟩, .int .i64 x.count, .int .i64 x.total, .int .i64 x.least, .int .i64 x.most] 64)
  have o1 := ho.ext hx0
  have c0 := o1.cell (j := 0) rfl
  have c1 := o1.cell (j := 1) rfl
  have c2 := o1.cell (j := 2) rfl
  have c3 := o1.cell (j := 3) rfl
  have c4 := o1.cell (j := 4) rfl
  have c5 := (hk.ext hx0).cell (j := 0) rfl
  clear h
  generalize lateW s x.start mark = B at *
  go_enter Try.func34, Try.ntmps34
  go_wp2_with (go_at_call 31; refine (O1 _).mono ?_; rintro e w' ⟨rfl, hx1⟩)
  go_ret
  exact ⟨rfl, hx0.trans hx1⟩
set_option maxHeartbeats 1000000 in
theorem idxMay_any (g : Nat) (p : Sm → Bool) (v : Value) (t : List Sm) (w : World) (h : SmV w v t)
    (hcl : ∀ (s : Sm) (W : World), s ∈ t → Ext w W → Calls Try.prog 41 #[smv s, .pointer (some ⟨g, 0, none⟩)] W fun e w' => e = .returned (.bool (p s)) ∧ Ext W w') :
    Calls Try.prog 33 #[v, .func (.func 41) #[] #[.pointer (some ⟨g, 0, none⟩)]] w fun e w' => e = .returned (.int .i64 (placeF p t)) ∧ Ext w w' := by
  obtain ⟨q, c, rfl, hn, hc⟩ := h.slice
  unfold maxLen at hc
  go_enter Try.func33, Try.ntmps33
  go_wp2_with fail
  go_loopg [8] (t.length) (fun k s8 wr => ∃ j : Nat, s8 = .int .i64 j ∧ j ≤ t.length ∧ k = t.length - j ∧ Hid (∀ i x, i < j → t[i]? = some x → p x = false) ∧ Ext w wr)
  case atStart => exact ⟨0, rfl, Nat.zero_le _, rfl, fun i x hi => by omega, Ext.refl _⟩
  case round =>
    obtain ⟨j, rfl, hj, hk, HA, hx⟩ := hrel
    by_cases hlt : j < t.length
    case pos =>
      have hi : (j : Int) < (t.length : Int) := by omega
      obtain ⟨b, o, rfl, ⟨m0, m1, m2, m3, m4, m5⟩⟩ := sm_at (h.ext hx) hlt
      have C1 := hcl t[j] wr (List.getElem_mem hlt) hx
      have hget : t[j]? = some t[j] := List.getElem?_eq_getElem hlt
      have HGET := Lib.hid hget
      generalize t[j] = en at *
      obtain ⟨e0, e1, e2, e3, e4, e5⟩ := en
      simp only at *
      clear hget
      cases hb : p ⟨e0, e1, e2, e3, e4, e5⟩ with
      | true =>
        rw [hb] at C1
        have HB := Lib.hid hb
        clear hb
        go_wp2_with (go_at_call 41; refine C1.mono ?_; rintro e w' ⟨rfl, hx2⟩)
        go_ret
        refine ⟨?_, hx.trans hx2⟩
        have hje : t[j] = ⟨e0, e1, e2, e3, e4, e5⟩ := by have := HGET.out; rw [List.getElem?_eq_getElem hlt] at this; exact Option.some.inj this
        unfold placeF
        rw [find_found hlt (by rw [hje]; exact HB.out) fun i x hi hx => HA.out i x hi hx]
        rfl
      | false =>
        rw [hb] at C1
        have HB := Lib.hid hb
        clear hb
        go_wp2_with (go_at_call 41; refine C1.mono ?_; rintro e w' ⟨rfl, hx2⟩)
        go_roundg (t.length - (j + 1))
        case measure => omega
        case rel =>
          refine ⟨j + 1, by go_num, hlt, rfl, fun i x hi hxx => ?_, hx.trans hx2⟩
          by_cases hij : i = j
          · subst hij
            have := HGET.out
            rw [hxx] at this
            cases this
            exact HB.out
          · exact HA.out i x (by omega) hxx
    case neg =>
      have hje : j = t.length := by omega
      subst hje
      have hi : ¬ (t.length : Int) < (t.length : Int) := by omega
      clear hlt
      go_wp2_with fail
      go_ret
      refine ⟨?_, hx⟩
      unfold placeF
      rw [find_none fun i x hxx => HA.out i x (List.getElem?_eq_some_iff.1 hxx).1 hxx]
      rfl
set_option maxHeartbeats 1000000 in
theorem idxLate_any (g k : Nat) (p : Sm → Bool) (v : Value) (t : List Sm) (w : World) (h : SmV w v t)
    (hcl : ∀ (s : Sm) (W : World), s ∈ t → Ext w W → Calls Try.prog 34 #[smv s, .pointer (some ⟨g, 0, none⟩), .pointer (some ⟨k, 0, none⟩)] W fun e w' => e = .returned (.bool (p s)) ∧ Ext W w') :
    Calls Try.prog 33 #[v, .func (.func 34) #[] #[.pointer (some ⟨g, 0, none⟩), .pointer (some ⟨k, 0, none⟩)]] w fun e w' => e = .returned (.int .i64 (placeF p t)) ∧ Ext w w' := by
  obtain ⟨q, c, rfl, hn, hc⟩ := h.slice
  unfold maxLen at hc
  go_enter Try.func33, Try.ntmps33
  go_wp2_with fail
  go_loopg [8] (t.length) (fun k s8 wr => ∃ j : Nat, s8 = .int .i64 j ∧ j ≤ t.length ∧ k = t.length - j ∧ Hid (∀ i x, i < j → t[i]? = some x → p x = false) ∧ Ext w wr)
  case atStart => exact ⟨0, rfl, Nat.zero_le _, rfl, fun i x hi => by omega, Ext.refl _⟩
  case round =>
    obtain ⟨j, rfl, hj, hk, HA, hx⟩ := hrel
    by_cases hlt : j < t.length
    case pos =>
      have hi : (j : Int) < (t.length : Int) := by omega
      obtain ⟨b, o, rfl, ⟨m0, m1, m2, m3, m4, m5⟩⟩ := sm_at (h.ext hx) hlt
      have C1 := hcl t[j] wr (List.getElem_mem hlt) hx
      have hget : t[j]? = some t[j] := List.getElem?_eq_getElem hlt
      have HGET := Lib.hid hget
      generalize t[j] = en at *
      obtain ⟨e0, e1, e2, e3, e4, e5⟩ := en
      simp only at *
      clear hget
      cases hb : p ⟨e0, e1, e2, e3, e4, e5⟩ with
      | true =>
        rw [hb] at C1
        have HB := Lib.hid hb
        clear hb
        go_wp2_with (go_at_call 34; refine C1.mono ?_; rintro e w' ⟨rfl, hx2⟩)
        go_ret
        refine ⟨?_, hx.trans hx2⟩
        have hje : t[j] = ⟨e0, e1, e2, e3, e4, e5⟩ := by have := HGET.out; rw [List.getElem?_eq_getElem hlt] at this; exact Option.some.inj this
        unfold placeF
        rw [find_found hlt (by rw [hje]; exact HB.out) fun i x hi hx => HA.out i x hi hx]
        rfl
      | false =>
        rw [hb] at C1
        have HB := Lib.hid hb
        clear hb
        go_wp2_with (go_at_call 34; refine C1.mono ?_; rintro e w' ⟨rfl, hx2⟩)
        go_roundg (t.length - (j + 1))
        case measure => omega
        case rel =>
          refine ⟨j + 1, by go_num, hlt, rfl, fun i x hi hxx => ?_, hx.trans hx2⟩
          by_cases hij : i = j
          · subst hij
            have := HGET.out
            rw [hxx] at this
            cases this
            exact HB.out
          · exact HA.out i x (by omega) hxx
    case neg =>
      have hje : j = t.length := by omega
      subst hje
      have hi : ¬ (t.length : Int) < (t.length : Int) := by omega
      clear hlt
      go_wp2_with fail
      go_ret
      refine ⟨?_, hx⟩
      unfold placeF
      rw [find_none fun i x hxx => HA.out i x (List.getElem?_eq_some_iff.1 hxx).1 hxx]
      rfl
theorem placeF_any {p : Sm → Bool} {t : List Sm} : (decide (0 ≤ placeF p t)) = t.any p := by
  unfold placeF
  cases h : t.findIdx? p with
  | none =>
    rw [List.findIdx?_eq_none_iff] at h
    have : t.any p = false := by rw [List.any_eq_false]; intro x hx; rw [h x hx]; simp
    rw [this]; rfl
  | some i =>
    obtain ⟨hi, hp, _⟩ := find_some h
    have : t.any p = true := List.any_eq_true.2 ⟨t[i], List.getElem_mem hi, hp⟩
    rw [this]
    exact decide_eq_true (by simp only; omega)
theorem any_all (p : Sm → Bool) : ∀ t : List Sm, (t.any fun x => !p x) = !t.all p
  | [] => rfl
  | a :: r => by rw [List.any_cons, List.all_cons, any_all p r, Bool.not_and]
set_option maxHeartbeats 1000000 in
theorem contains_any (g : Nat) (s : Wt) (u v : Value) (t : List Sm) (w : World) (hs : 1 ≤ s.size) (h : SmV w v t) (ho : ObjAt w g 31 [.int .i64 s.size, .int .i64 s.late, .int .i64 s.mark, .int .i64 s.drops, u]) :
    Calls Try.prog 40 #[v, .func (.func 41) #[] #[.pointer (some ⟨g, 0, none⟩)]] w fun e w' => e = .returned (.bool (!t.all (mayS s.size))) ∧ Ext w w' := by
  have I1 := idxMay_any g (fun x => !mayS s.size x) v t w h (fun x W _ hW => mayC_any g s u x W hs (ho.ext hW))
  have hp := placeF_any (p := fun x => !mayS s.size x) (t := t)
  have he := any_all (mayS s.size) t
  rw [he] at hp
  obtain ⟨q, c, rfl, hn, hc⟩ := h.slice
  clear ho he
  generalize placeF (fun x => !mayS s.size x) t = k at *
  rw [← hp]
  clear hp
  go_enter Try.func40, Try.ntmps40
  go_wp2_with (go_at_call 33; refine I1.mono ?_; rintro e w' ⟨rfl, hx2⟩)
  go_ret
  exact ⟨rfl, hx2⟩
end Go.Proofs.Ytpejdompanhieaa
