/- What the small functions of layer 34 compute: records and items that are one, which of two comes ahead. -/
import Derived.Test.YtmoljicchgcnfaaRec
namespace Go.Proofs.Ytmoljicchgcnfaa
open Go.RowKit

abbrev recv (r : Rec) : Value := .agg #[.int .i64 r.delta, .int .i64 r.time, .bool r.keyed, .string ⟨r.key.toArray⟩, .bool r.dead, .string ⟨r.value.toArray⟩]
abbrev itmv (x : Itm) : Value := .agg #[.int .i64 x.list, .int .i64 x.off, .int .i64 x.time, .int .i64 x.rcd.delta, .int .i64 x.rcd.time, .bool x.rcd.keyed, .string ⟨x.rcd.key.toArray⟩, .bool x.rcd.dead, .string ⟨x.rcd.value.toArray⟩]
def lightR (r : Rec) : Bool := decide (r.key.length ≤ 200) && decide (r.value.length ≤ 700)
def sameR (a b : Rec) : Bool := (a.delta == b.delta) && ((a.time == b.time) && ((a.keyed == b.keyed) && ((a.key == b.key) && ((a.dead == b.dead) && (a.value == b.value)))))
def sameI (a b : Itm) : Bool := (a.list == b.list) && ((a.off == b.off) && ((a.time == b.time) && sameR a.rcd b.rcd))
theorem sameR_refl (a : Rec) : sameR a a = true := by unfold sameR; simp
theorem sameI_refl (a : Itm) : sameI a a = true := by unfold sameI; simp [sameR_refl]

set_option maxHeartbeats 400000 in
theorem rlight_any (r : Rec) (w : World) :
    Calls Try.prog 28 #[recv r] w fun e w' => e = .returned (.bool (lightR r)) ∧ Ext w w' := by
  obtain ⟨d, t, k, y, z, v⟩ := r
  have hx0 := Ext.alloc w (.cells #[.int .i64 d, .int .i64 t, .bool k, .string ⟨y.toArray⟩, .bool z, .string ⟨v.toArray⟩] 24)
  have hs1 : (ByteArray.mk y.toArray).size = y.length := text_size _
  have hs2 : (ByteArray.mk v.toArray).size = v.length := text_size _
  unfold lightR
  simp only
  by_cases h1 : y.length ≤ 200
  · have h1' : (y.length : Int) ≤ 200 := by omega
    rw [decide_eq_true h1]
    by_cases h2 : v.length ≤ 700
    · have h2' : (v.length : Int) ≤ 700 := by omega
      rw [decide_eq_true h2]
      clear h1 h2
      go_enter Try.func28, Try.ntmps28
      go_wp2_with fail
      go_ret
      exact ⟨rfl, hx0⟩
    · have h2' : ¬ (v.length : Int) ≤ 700 := by omega
      rw [decide_eq_false h2]
      clear h1 h2
      go_enter Try.func28, Try.ntmps28
      go_wp2_with fail
      go_ret
      exact ⟨rfl, hx0⟩
  · have h1' : ¬ (y.length : Int) ≤ 200 := by omega
    rw [decide_eq_false h1]
    clear h1
    go_enter Try.func28, Try.ntmps28
    go_wp2_with fail
    go_ret
    exact ⟨rfl, hx0⟩

set_option maxHeartbeats 2000000 in
theorem rsame_any (a b : Rec) (w : World) :
    Calls Try.prog 21 #[recv a, recv b] w fun e w' => e = .returned (.bool (sameR a b)) ∧ Ext w w' := by
  obtain ⟨d1, t1, k1, y1, z1, v1⟩ := a
  obtain ⟨d2, t2, k2, y2, z2, v2⟩ := b
  have hx0 := (Ext.alloc w (.cells #[.int .i64 d1, .int .i64 t1, .bool k1, .string ⟨y1.toArray⟩, .bool z1, .string ⟨v1.toArray⟩] 24)).trans (Ext.alloc _ (.cells #[.int .i64 d2, .int .i64 t2, .bool k2, .string ⟨y2.toArray⟩, .bool z2, .string ⟨v2.toArray⟩] 24))
  obtain ⟨S, hS⟩ : ∃ S, sameR ⟨d1, t1, k1, y1, z1, v1⟩ ⟨d2, t2, k2, y2, z2, v2⟩ = S := ⟨_, rfl⟩
  rw [hS]
  unfold sameR at hS
  simp only at hS
  cases h1 : (d1 == d2)
  case' true => cases h2 : (t1 == t2)
  case' true.true => cases h3 : (k1 == k2)
  case' true.true.true => cases h4 : (y1 == y2)
  case' true.true.true.true => cases h5 : (z1 == z2)
  case' true.true.true.true.true => cases h6 : (v1 == v2)
  all_goals
    simp only [*, Bool.false_and, Bool.true_and] at hS
    subst hS
    go_enter Try.func21, Try.ntmps21
    go_wp2_with fail
    go_ret
    exact ⟨rfl, hx0⟩

set_option maxHeartbeats 2000000 in
theorem isame_any (a b : Itm) (w : World) :
    Calls Try.prog 10 #[itmv a, itmv b] w fun e w' => e = .returned (.bool (sameI a b)) ∧ Ext w w' := by
  obtain ⟨n1, o1, m1, d1, t1, k1, y1, z1, v1⟩ := a
  obtain ⟨n2, o2, m2, d2, t2, k2, y2, z2, v2⟩ := b
  have hx0 := (Ext.alloc w (.cells #[.int .i64 n1, .int .i64 o1, .int .i64 m1, .int .i64 d1, .int .i64 t1, .bool k1, .string ⟨y1.toArray⟩, .bool z1, .string ⟨v1.toArray⟩] 26)).trans (Ext.alloc _ (.cells #[.int .i64 n2, .int .i64 o2, .int .i64 m2, .int .i64 d2, .int .i64 t2, .bool k2, .string ⟨y2.toArray⟩, .bool z2, .string ⟨v2.toArray⟩] 26))
  have R1 := fun w => rsame_any ⟨d1, t1, k1, y1, z1, v1⟩ ⟨d2, t2, k2, y2, z2, v2⟩ w
  obtain ⟨S, hS⟩ : ∃ S, sameI ⟨n1, o1, m1, ⟨d1, t1, k1, y1, z1, v1⟩⟩ ⟨n2, o2, m2, ⟨d2, t2, k2, y2, z2, v2⟩⟩ = S := ⟨_, rfl⟩
  rw [hS]
  unfold sameI at hS
  simp only at hS R1
  generalize sameR ⟨d1, t1, k1, y1, z1, v1⟩ ⟨d2, t2, k2, y2, z2, v2⟩ = T at *
  cases h1 : (n1 == n2)
  case' true => cases h2 : (o1 == o2)
  case' true.true => cases h3 : (m1 == m2)
  case' true.true.true => cases T
  all_goals
    simp only [*, Bool.false_and, Bool.true_and] at hS
    subst hS
    go_enter Try.func10, Try.ntmps10
    go_wp2_with (go_at_call 21; refine (R1 _).mono ?_; rintro e w1 ⟨rfl, hx1⟩)
    go_ret
    first | exact ⟨rfl, hx0⟩ | exact ⟨rfl, hx0.trans hx1⟩

/-! ### Which comes ahead -/
set_option maxHeartbeats 1000000 in
theorem rless_any (a b : Itm) (w : World) :
    Calls Try.prog 12 #[itmv a, itmv b] w fun e w' => e = .returned (.bool (lessI a b)) ∧ Ext w w' := by
  obtain ⟨n1, o1, m1, d1, t1, k1, y1, z1, v1⟩ := a
  obtain ⟨n2, o2, m2, d2, t2, k2, y2, z2, v2⟩ := b
  have hx0 := (Ext.alloc w (.cells #[.int .i64 n1, .int .i64 o1, .int .i64 m1, .int .i64 d1, .int .i64 t1, .bool k1, .string ⟨y1.toArray⟩, .bool z1, .string ⟨v1.toArray⟩] 26)).trans (Ext.alloc _ (.cells #[.int .i64 n2, .int .i64 o2, .int .i64 m2, .int .i64 d2, .int .i64 t2, .bool k2, .string ⟨y2.toArray⟩, .bool z2, .string ⟨v2.toArray⟩] 26))
  obtain ⟨S, hS⟩ : ∃ S, lessI ⟨n1, o1, m1, ⟨d1, t1, k1, y1, z1, v1⟩⟩ ⟨n2, o2, m2, ⟨d2, t2, k2, y2, z2, v2⟩⟩ = S := ⟨_, rfl⟩
  rw [hS]
  unfold lessI at hS
  simp only at hS
  by_cases e1 : m1 = m2
  · subst e1
    rw [if_neg (Int.lt_irrefl _), if_neg (Int.lt_irrefl _)] at hS
    have q1 : (m1 == m1) = true := by simp
    by_cases e2 : n1 = n2
    · subst e2
      rw [if_neg (Int.lt_irrefl _), if_neg (Int.lt_irrefl _)] at hS
      have q2 : (n1 == n1) = true := by simp
      subst hS
      by_cases e3 : o1 < o2
      · rw [decide_eq_true e3]
        go_enter Try.func12, Try.ntmps12
        go_wp2_with fail
        go_ret
        exact ⟨rfl, hx0⟩
      · rw [decide_eq_false e3]
        go_enter Try.func12, Try.ntmps12
        go_wp2_with fail
        go_ret
        exact ⟨rfl, hx0⟩
    · have q2 : (n1 == n2) = false := beq_eq_false_iff_ne.2 e2
      have hS' : decide (n1 < n2) = S := by
        rw [← hS]
        by_cases h : n1 < n2
        · rw [if_pos h, decide_eq_true h]
        · rw [if_neg h, decide_eq_false h, if_pos (by omega)]
      clear hS e2
      subst hS'
      by_cases e3 : n1 < n2
      · rw [decide_eq_true e3]
        go_enter Try.func12, Try.ntmps12
        go_wp2_with fail
        go_ret
        exact ⟨rfl, hx0⟩
      · rw [decide_eq_false e3]
        go_enter Try.func12, Try.ntmps12
        go_wp2_with fail
        go_ret
        exact ⟨rfl, hx0⟩
  · have q1 : (m1 == m2) = false := beq_eq_false_iff_ne.2 e1
    have hS' : decide (m1 < m2) = S := by
      rw [← hS]
      by_cases h : m1 < m2
      · rw [if_pos h, decide_eq_true h]
      · rw [if_neg h, decide_eq_false h, if_pos (by omega)]
    clear hS e1
    subst hS'
    by_cases e3 : m1 < m2
    · rw [decide_eq_true e3]
      go_enter Try.func12, Try.ntmps12
      go_wp2_with fail
      go_ret
      exact ⟨rfl, hx0⟩
    · rw [decide_eq_false e3]
      go_enter Try.func12, Try.ntmps12
      go_wp2_with fail
      go_ret
      exact ⟨rfl, hx0⟩
end Go.Proofs.Ytmoljicchgcnfaa
