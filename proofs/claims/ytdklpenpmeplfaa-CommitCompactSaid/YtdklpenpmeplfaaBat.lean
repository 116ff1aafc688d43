/- Records and batches: whether they are light (what XMgW and XMgL say of them, for seats without a merger). -/
import Derived.Test.YtdklpenpmeplfaaRec
import Derived.Test.YtdklpenpmeplfaaObj3
import Derived.Deep.LoopGhost
namespace Go.Proofs.Ytdklpenpmeplfaa
open Go.RowKit

abbrev recv (r : Rec) : Value := .agg #[.int .i64 r.delta, .int .i64 r.time, .bool r.keyed, .string ⟨r.key.toArray⟩, .bool r.dead, .string ⟨r.value.toArray⟩]
def lightR (r : Rec) : Bool := decide (r.key.length ≤ 200) && decide (r.value.length ≤ 700)
set_option maxHeartbeats 400000 in
theorem rlight_any (r : Rec) (w : World) :
    Calls Try.prog 8 #[recv r] w fun e w' => e = .returned (.bool (lightR r)) ∧ Ext w w' := by
  obtain ⟨d, t, k, y, z, v⟩ := r
  have hx0 := Ext.alloc w (.cells #[.int .i64 d, .int .i64 t, .bool k, .string ⟨y.toArray⟩, .bool z, .string ⟨v.toArray⟩] 25)
  have hs1 : (ByteArray.mk y.toArray).size = y.length := text_size _
  have hs2 : (ByteArray.mk v.toArray).size = v.length := text_size _
  unfold lightR
  simp only
  by_cases h1 : y.length ≤ 200
  · have h1' : (y.length : Int) ≤ 200 := by omega
    rw [decide_eq_true h1]
    by_cases h2 : v.length ≤ 700
    · have h2' : (v.length : Int) ≤ 700 := by omega
      rw [decide_eq_true h2]
      clear h1 h2
      go_enter Try.func8, Try.ntmps8
      go_wp2_with fail
      go_ret
      exact ⟨rfl, hx0⟩
    · have h2' : ¬ (v.length : Int) ≤ 700 := by omega
      rw [decide_eq_false h2]
      clear h1 h2
      go_enter Try.func8, Try.ntmps8
      go_wp2_with fail
      go_ret
      exact ⟨rfl, hx0⟩
  · have h1' : ¬ (y.length : Int) ≤ 200 := by omega
    rw [decide_eq_false h1]
    clear h1
    go_enter Try.func8, Try.ntmps8
    go_wp2_with fail
    go_ret
    exact ⟨rfl, hx0⟩
def lightB (b : Bat) : Bool := decide (b.recs.length ≤ 40) && b.recs.all lightR
def lightA (l : List Bat) (most : Nat) : Bool := decide (l.length ≤ most) && l.all lightB
abbrev batv (b : Bat) (v : Value) : Value := .agg #[.int .i64 b.base, .int .i64 b.count, .int .i64 b.prod, .int .i64 b.epoch, .int .i64 b.seq, v]
/-- The cells of a record of a row. -/
structure RecCells (w : World) (b o j : Nat) (x : Rec) : Prop where
  c0 : w.cell? ⟨b, o + j * 6, none⟩ = some (.int .i64 x.delta)
  c1 : w.cell? ⟨b, o + j * 6 + 1, none⟩ = some (.int .i64 x.time)
  c2 : w.cell? ⟨b, o + j * 6 + 2, none⟩ = some (.bool x.keyed)
  c3 : w.cell? ⟨b, o + j * 6 + 3, none⟩ = some (.string ⟨x.key.toArray⟩)
  c4 : w.cell? ⟨b, o + j * 6 + 4, none⟩ = some (.bool x.dead)
  c5 : w.cell? ⟨b, o + j * 6 + 5, none⟩ = some (.string ⟨x.value.toArray⟩)
theorem rec_at {S : Nat → Prop} {w : World} {p : Option Addr} {n c : Nat} {xs : List Rec} (h : SRow 6 RRec S w (.slice p n c) xs) {j : Nat} (hj : j < xs.length) :
    ∃ b o, p = some ⟨b, o, none⟩ ∧ RecCells w b o j xs[j] ∧ xs[j].key.length ≤ maxLen ∧ xs[j].value.length ≤ maxLen := by
  obtain ⟨b, o, cs, e, _, hc, hu⟩ := h.cells (by decide) hj
  obtain ⟨e2, h1, h2⟩ := hu.now
  subst e2
  exact ⟨b, o, e, ⟨hc 0 _ rfl, hc 1 _ rfl, hc 2 _ rfl, hc 3 _ rfl, hc 4 _ rfl, hc 5 _ rfl⟩, h1, h2⟩
/-- The cells of a batch of a row. -/
structure BatCells (w : World) (b o j : Nat) (x : Bat) (v : Value) : Prop where
  c0 : w.cell? ⟨b, o + j * 6, none⟩ = some (.int .i64 x.base)
  c1 : w.cell? ⟨b, o + j * 6 + 1, none⟩ = some (.int .i64 x.count)
  c2 : w.cell? ⟨b, o + j * 6 + 2, none⟩ = some (.int .i64 x.prod)
  c3 : w.cell? ⟨b, o + j * 6 + 3, none⟩ = some (.int .i64 x.epoch)
  c4 : w.cell? ⟨b, o + j * 6 + 4, none⟩ = some (.int .i64 x.seq)
  c5 : w.cell? ⟨b, o + j * 6 + 5, none⟩ = some v
theorem bat_at {S : Nat → Prop} {w : World} {p : Option Addr} {n c : Nat} {xs : List Bat} (h : SRow 6 RBat S w (.slice p n c) xs) {j : Nat} (hj : j < xs.length) :
    ∃ b o q d, p = some ⟨b, o, none⟩ ∧ BatCells w b o j xs[j] (.slice q xs[j].recs.length d) ∧ RecV w (.slice q xs[j].recs.length d) xs[j].recs := by
  obtain ⟨b, o, cs, e, _, hc, hu⟩ := h.cells (by decide) hj
  obtain ⟨v, e2, h1⟩ := hu.now
  obtain ⟨q, d, rfl, _⟩ := h1.slice
  subst e2
  exact ⟨b, o, q, d, e, ⟨hc 0 _ rfl, hc 1 _ rfl, hc 2 _ rfl, hc 3 _ rfl, hc 4 _ rfl, hc 5 _ rfl⟩, h1⟩
theorem bats_at {S : Nat → Prop} {w : World} {p : Option Addr} {n c : Nat} {xs : List (List Bat)} (h : SRow 1 RBats S w (.slice p n c) xs) {j : Nat} (hj : j < xs.length) :
    ∃ b o q d, p = some ⟨b, o, none⟩ ∧ w.cell? ⟨b, o + j, none⟩ = some (.slice q xs[j].length d) ∧ BatV w (.slice q xs[j].length d) xs[j] := by
  obtain ⟨b, o, cs, e, _, hc, hu⟩ := h.cells (by decide) hj
  obtain ⟨v, e2, h1⟩ := hu.now
  obtain ⟨q, d, rfl, _⟩ := h1.slice
  subst e2
  exact ⟨b, o, q, d, e, by simpa using hc 0 _ rfl, h1⟩
theorem all_drop {α : Type} {f : α → Bool} {xs : List α} {j : Nat} (h : j < xs.length) : (xs.drop j).all f = (f xs[j] && (xs.drop (j + 1)).all f) := by
  rw [List.drop_eq_getElem_cons h, List.all_cons]

set_option maxHeartbeats 1000000 in
theorem rlightB_any (b : Bat) (v : Value) (w : World) (h : RecV w v b.recs) :
    Calls Try.prog 19 #[batv b v] w fun e w' => e = .returned (.bool (lightB b)) ∧ Ext w w' := by
  obtain ⟨b0, b1, b2, b3, b4, l⟩ := b
  obtain ⟨p, c, rfl, _, hcm⟩ := h.slice
  unfold maxLen at hcm
  simp only at *
  have hx0 := Ext.alloc w (.cells #[.int .i64 b0, .int .i64 b1, .int .i64 b2, .int .i64 b3, .int .i64 b4, .slice p l.length c] 46)
  have ob : ObjAt (w.alloc (.cells #[.int .i64 b0, .int .i64 b1, .int .i64 b2, .int .i64 b3, .int .i64 b4, .slice p l.length c] 46)) w.heap.size 46 [.int .i64 b0, .int .i64 b1, .int .i64 b2, .int .i64 b3, .int .i64 b4, .slice p l.length c] := heap_alloc_new w _
  have c5 := ob.cell (j := 5) rfl
  have h0 := h.ext hx0
  unfold lightB
  simp only
  by_cases hl : l.length ≤ 40
  case neg =>
    have hl2 : (40 : Int) < (l.length : Int) := by omega
    rw [decide_eq_false hl]
    clear hl
    go_enter Try.func19, Try.ntmps19
    go_wp2_with fail
    go_ret
    exact ⟨rfl, hx0⟩
  have hl2 : ¬ (40 : Int) < (l.length : Int) := by omega
  rw [decide_eq_true hl, Bool.true_and]
  obtain ⟨T, hT⟩ : ∃ T, l.all lightR = T := ⟨_, rfl⟩
  rw [hT]
  have HT := Lib.hid hT
  clear hT
  clear ob
  go_enter Try.func19, Try.ntmps19
  go_wp2_with fail
  go_loopg [3] (l.length) (fun k s3 wr => ∃ j : Nat, s3 = .int .i64 j ∧ j ≤ l.length ∧ k = l.length - j ∧ Hid ((l.drop j).all lightR = T) ∧ Ext (w.alloc (.cells #[.int .i64 b0, .int .i64 b1, .int .i64 b2, .int .i64 b3, .int .i64 b4, .slice p l.length c] 46)) wr)
  case atStart => exact ⟨0, rfl, Nat.zero_le _, rfl, HT, Ext.refl _⟩
  case round =>
    obtain ⟨j, rfl, hj, hk, HD, hx⟩ := hrel
    have c5' := hx.cell c5
    by_cases hlt : j < l.length
    case pos =>
      have hi : (j : Int) < (l.length : Int) := by omega
      obtain ⟨b, o, rfl, ⟨m0, m1, m2, m3, m4, m5⟩, _, _⟩ := rec_at (h0.ext hx) hlt
      have hd := HD.out
      rw [all_drop hlt] at hd
      have R1 := fun W => rlight_any l[j] W
      generalize l[j] = r at *
      cases hr : lightR r with
      | false =>
        rw [hr] at R1 hd
        rw [Bool.false_and] at hd
        subst hd
        go_wp2_with (go_at_call 8; refine (R1 _).mono ?_; rintro e w1 ⟨rfl, hx1⟩)
        go_ret
        exact ⟨rfl, (hx0.trans hx).trans hx1⟩
      | true =>
        rw [hr] at R1 hd
        rw [Bool.true_and] at hd
        have HD2 := Lib.hid hd
        clear hd hr
        go_wp2_with (go_at_call 8; refine (R1 _).mono ?_; rintro e w1 ⟨rfl, hx1⟩)
        go_roundg (l.length - (j + 1))
        case measure => omega
        case rel => exact ⟨j + 1, by go_num, hlt, rfl, HD2, hx.trans hx1⟩
    case neg =>
      have hje : j = l.length := by omega
      subst hje
      have hi : ¬ (l.length : Int) < (l.length : Int) := by omega
      have hd := HD.out
      rw [List.drop_length] at hd
      have hd2 : T = true := hd.symm
      subst hd2
      clear hlt hd
      go_wp2_with fail
      go_ret
      exact ⟨rfl, hx0.trans hx⟩
set_option maxHeartbeats 1000000 in
theorem rlightA_any (v : Value) (l : List Bat) (most : Nat) (w : World) (h : BatV w v l) (hm : most ≤ 1000) :
    Calls Try.prog 29 #[v, .int .i64 (most : Int)] w fun e w' => e = .returned (.bool (lightA l most)) ∧ Ext w w' := by
  obtain ⟨p, c, rfl, _, hcm⟩ := h.slice
  unfold maxLen at hcm
  unfold lightA
  by_cases hl : l.length ≤ most
  case neg =>
    have hl2 : (most : Int) < (l.length : Int) := by omega
    rw [decide_eq_false hl]
    clear hl
    go_enter Try.func29, Try.ntmps29
    go_wp2_with fail
    go_ret
    exact ⟨rfl, Ext.refl _⟩
  have hl2 : ¬ (most : Int) < (l.length : Int) := by omega
  rw [decide_eq_true hl, Bool.true_and]
  obtain ⟨T, hT⟩ : ∃ T, l.all lightB = T := ⟨_, rfl⟩
  rw [hT]
  have HT := Lib.hid hT
  clear hT
  go_enter Try.func29, Try.ntmps29
  go_wp2_with fail
  go_loopg [5] (l.length) (fun k s3 wr => ∃ j : Nat, s3 = .int .i64 j ∧ j ≤ l.length ∧ k = l.length - j ∧ Hid ((l.drop j).all lightB = T) ∧ Ext w wr)
  case atStart => exact ⟨0, rfl, Nat.zero_le _, rfl, HT, Ext.refl _⟩
  case round =>
    obtain ⟨j, rfl, hj, hk, HD, hx⟩ := hrel
    by_cases hlt : j < l.length
    case pos =>
      have hi : (j : Int) < (l.length : Int) := by omega
      obtain ⟨b, o, q, d, rfl, ⟨m0, m1, m2, m3, m4, m5⟩, hrv⟩ := bat_at (h.ext hx) hlt
      have hd := HD.out
      rw [all_drop hlt] at hd
      have R1 := rlightB_any l[j] _ wr hrv
      generalize l[j] = r at *
      cases hr : lightB r with
      | false =>
        rw [hr] at R1 hd
        rw [Bool.false_and] at hd
        subst hd
        go_wp2_with (go_at_call 19; refine R1.mono ?_; rintro e w1 ⟨rfl, hx1⟩)
        go_ret
        exact ⟨rfl, hx.trans hx1⟩
      | true =>
        rw [hr] at R1 hd
        rw [Bool.true_and] at hd
        have HD2 := Lib.hid hd
        clear hd hr
        go_wp2_with (go_at_call 19; refine R1.mono ?_; rintro e w1 ⟨rfl, hx1⟩)
        go_roundg (l.length - (j + 1))
        case measure => omega
        case rel => exact ⟨j + 1, by go_num, hlt, rfl, HD2, hx.trans hx1⟩
    case neg =>
      have hje : j = l.length := by omega
      subst hje
      have hi : ¬ (l.length : Int) < (l.length : Int) := by omega
      have hd := HD.out
      rw [List.drop_length] at hd
      have hd2 : T = true := hd.symm
      subst hd2
      clear hlt hd
      go_wp2_with fail
      go_ret
      exact ⟨rfl, hx⟩
end Go.Proofs.Ytdklpenpmeplfaa
