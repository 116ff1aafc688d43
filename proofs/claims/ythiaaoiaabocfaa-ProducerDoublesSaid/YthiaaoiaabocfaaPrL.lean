/- What the document's Light of layer 13 computes. -/
import Derived.Test.YthiaaoiaabocfaaPrX
namespace Go.Proofs.Ythiaaoiaabocfaa
open Go.RowKit

set_option maxRecDepth 20000 in
set_option maxHeartbeats 8000000 in
theorem rlight13_any (v : Value) (t : List Ent) (w : World) (h : TabV w v t) :
    Calls Try.prog 7 #[.agg #[v]] w fun e w' => e = .returned (.bool (lightT t)) ∧ Ext w w' := by
  obtain ⟨q, c, rfl, hn, hc⟩ := h.slice
  unfold maxLen at hc
  have hx0 := Ext.alloc w (.cells #[.slice q t.length c] 24)
  have o1 : ObjAt (w.alloc (.cells #[.slice q t.length c] 24)) w.heap.size 24 [.slice q t.length c] := heap_alloc_new w _
  have c1 := o1.cell (j := 0) rfl
  unfold lightT
  by_cases hl : t.length ≤ 20
  case neg =>
    have hl2 : (20 : Int) < (t.length : Int) := by omega
    rw [decide_eq_false hl]
    clear hl
    go_enter Try.func7, Try.ntmps7
    go_wp2_with fail
    go_ret
    exact ⟨rfl, hx0⟩
  have hl2 : ¬ (20 : Int) < (t.length : Int) := by omega
  rw [decide_eq_true hl, Bool.true_and]
  obtain ⟨T, hT⟩ : ∃ T, t.all lightE = T := ⟨_, rfl⟩
  rw [hT]
  have HT := Lib.hid hT
  clear hT o1
  go_enter Try.func7, Try.ntmps7
  go_wp2_with fail
  go_loopg [3] (t.length) (fun k s3 wr => ∃ j : Nat, s3 = .int .i64 j ∧ j ≤ t.length ∧ k = t.length - j ∧ Hid ((t.drop j).all lightE = T) ∧ Ext (w.alloc (.cells #[.slice q t.length c] 24)) wr)
  case atStart => exact ⟨0, rfl, Nat.zero_le _, rfl, HT, Ext.refl _⟩
  case round =>
    obtain ⟨j, rfl, hj, hk, HD, hx⟩ := hrel
    obtain ⟨wo, hwo⟩ : ∃ wo, wo = wr := ⟨_, rfl⟩
    subst hwo
    have c2 := hx.cell c1
    by_cases hlt : j < t.length
    case pos =>
      have hi : (j : Int) < (t.length : Int) := by omega
      obtain ⟨b, o, q2, d, rfl, ⟨m0, m1, m2⟩, hsn, hnd, hdm⟩ := ent_at (h.ext (hx0.trans hx)) hlt
      have hge : t[j] = t[j] := rfl
      generalize hen : t[j] = en at *
      obtain ⟨e0, e1, l⟩ := en
      simp only at m0 m1 m2 hsn hnd hdm
      have HGE := Lib.hid hen
      unfold maxLen at hdm
      have hxe := Ext.alloc wo (.cells #[.int .i64 e0, .int .i64 e1, .slice q2 l.length d] 48)
      have oe : ObjAt (wo.alloc (.cells #[.int .i64 e0, .int .i64 e1, .slice q2 l.length d] 48)) wo.heap.size 48 [.int .i64 e0, .int .i64 e1, .slice q2 l.length d] := heap_alloc_new wo _
      have y2 := oe.cell (j := 2) rfl
      have hse := hsn.ext hxe
      clear hen oe hge hsn c1
      by_cases h20 : l.length ≤ 20
      case neg =>
        have h21 : (20 : Int) < (l.length : Int) := by omega
        go_wp2_with fail
        go_ret
        refine ⟨?_, (hx0.trans hx).trans hxe⟩
        have h2 : T = false := by have := HD.out; rw [all_drop hlt, HGE.out] at this; unfold lightE at this; simp only at this; rw [decide_eq_false h20, Bool.false_and, Bool.false_and] at this; exact this.symm
        rw [h2]
        rfl
      have h21 : ¬ (20 : Int) < (l.length : Int) := by omega
      obtain ⟨U, hU⟩ : ∃ U, l.all lightS = U := ⟨_, rfl⟩
      have HUU := Lib.hid hU
      have H20 := Lib.hid h20
      clear hU h20
      go_wp2_with fail
      go_loopg [5] (l.length) (fun k s5 wi => ∃ k' : Nat, s5 = .int .i64 k' ∧ k' ≤ l.length ∧ k = l.length - k' ∧ Hid ((l.drop k').all lightS = U) ∧ Ext (wo.alloc (.cells #[.int .i64 e0, .int .i64 e1, .slice q2 l.length d] 48)) wi)
      case atStart => exact ⟨0, rfl, Nat.zero_le _, rfl, HUU, Ext.refl _⟩
      case round =>
        obtain ⟨k, rfl, hk1, hk2, HU, hxi⟩ := hrel
        obtain ⟨wi, hwi⟩ : ∃ wi, wi = wr := ⟨_, rfl⟩
        subst hwi
        have z2 := hxi.cell y2
        by_cases hlt2 : k < l.length
        case pos =>
          have hi2 : (k : Int) < (l.length : Int) := by omega
          obtain ⟨b7, o7, rfl, ⟨r0, r1, r2⟩⟩ := sn_at (hse.ext hxi) hlt2
          generalize hgx : l[k] = x at *
          obtain ⟨x0, x1, x2⟩ := x
          simp only at r0 r1 r2
          have HGET := Lib.hid hgx
          have hxs := Ext.alloc wi (.cells #[.int .i64 x0, .int .i64 x1, .int .i64 x2] 68)
          clear hgx hse
          by_cases hc0 : x0 < 0
          · have HS : Hid (lightS ⟨x0, x1, x2⟩ = false) := Lib.hid (by unfold lightS; simp only; cases hq : (decide (0 ≤ x0) && decide (x0 ≤ 1099511627776) && decide (0 ≤ x1) && decide (x1 ≤ 1099511627776) && decide (0 ≤ x2) && decide (x2 ≤ 2305843009213693952)) with
              | false => rfl
              | true => simp only [Bool.and_eq_true, decide_eq_true_iff] at hq; omega)
            go_wp2_with fail
            go_ret
            refine ⟨?_, (hx0.trans hx).trans (hxe.trans (hxi.trans hxs))⟩
            have h1 : U = false := by have := HU.out; rw [all_drop hlt2, HGET.out, HS.out, Bool.false_and] at this; exact this.symm
            have h2 : T = false := by have := HD.out; rw [all_drop hlt, HGE.out] at this; unfold lightE at this; simp only at this; rw [HUU.out, h1, Bool.and_false, Bool.false_and] at this; exact this.symm
            rw [h2]
            rfl
          · have hn0 : 0 ≤ x0 := by omega
            by_cases hc1 : 1099511627776 < x0
            · have HS : Hid (lightS ⟨x0, x1, x2⟩ = false) := Lib.hid (by unfold lightS; simp only; cases hq : (decide (0 ≤ x0) && decide (x0 ≤ 1099511627776) && decide (0 ≤ x1) && decide (x1 ≤ 1099511627776) && decide (0 ≤ x2) && decide (x2 ≤ 2305843009213693952)) with
                | false => rfl
                | true => simp only [Bool.and_eq_true, decide_eq_true_iff] at hq; omega)
              go_wp2_with fail
              go_ret
              refine ⟨?_, (hx0.trans hx).trans (hxe.trans (hxi.trans hxs))⟩
              have h1 : U = false := by have := HU.out; rw [all_drop hlt2, HGET.out, HS.out, Bool.false_and] at this; exact this.symm
              have h2 : T = false := by have := HD.out; rw [all_drop hlt, HGE.out] at this; unfold lightE at this; simp only at this; rw [HUU.out, h1, Bool.and_false, Bool.false_and] at this; exact this.symm
              rw [h2]
              rfl
            · have hn1 : x0 ≤ 1099511627776 := by omega
              by_cases hc2 : x1 < 0
              · have HS : Hid (lightS ⟨x0, x1, x2⟩ = false) := Lib.hid (by unfold lightS; simp only; cases hq : (decide (0 ≤ x0) && decide (x0 ≤ 1099511627776) && decide (0 ≤ x1) && decide (x1 ≤ 1099511627776) && decide (0 ≤ x2) && decide (x2 ≤ 2305843009213693952)) with
                  | false => rfl
                  | true => simp only [Bool.and_eq_true, decide_eq_true_iff] at hq; omega)
                go_wp2_with fail
                go_ret
                refine ⟨?_, (hx0.trans hx).trans (hxe.trans (hxi.trans hxs))⟩
                have h1 : U = false := by have := HU.out; rw [all_drop hlt2, HGET.out, HS.out, Bool.false_and] at this; exact this.symm
                have h2 : T = false := by have := HD.out; rw [all_drop hlt, HGE.out] at this; unfold lightE at this; simp only at this; rw [HUU.out, h1, Bool.and_false, Bool.false_and] at this; exact this.symm
                rw [h2]
                rfl
              · have hn2 : 0 ≤ x1 := by omega
                by_cases hc3 : 1099511627776 < x1
                · have HS : Hid (lightS ⟨x0, x1, x2⟩ = false) := Lib.hid (by unfold lightS; simp only; cases hq : (decide (0 ≤ x0) && decide (x0 ≤ 1099511627776) && decide (0 ≤ x1) && decide (x1 ≤ 1099511627776) && decide (0 ≤ x2) && decide (x2 ≤ 2305843009213693952)) with
                    | false => rfl
                    | true => simp only [Bool.and_eq_true, decide_eq_true_iff] at hq; omega)
                  go_wp2_with fail
                  go_ret
                  refine ⟨?_, (hx0.trans hx).trans (hxe.trans (hxi.trans hxs))⟩
                  have h1 : U = false := by have := HU.out; rw [all_drop hlt2, HGET.out, HS.out, Bool.false_and] at this; exact this.symm
                  have h2 : T = false := by have := HD.out; rw [all_drop hlt, HGE.out] at this; unfold lightE at this; simp only at this; rw [HUU.out, h1, Bool.and_false, Bool.false_and] at this; exact this.symm
                  rw [h2]
                  rfl
                · have hn3 : x1 ≤ 1099511627776 := by omega
                  by_cases hc4 : x2 < 0
                  · have HS : Hid (lightS ⟨x0, x1, x2⟩ = false) := Lib.hid (by unfold lightS; simp only; cases hq : (decide (0 ≤ x0) && decide (x0 ≤ 1099511627776) && decide (0 ≤ x1) && decide (x1 ≤ 1099511627776) && decide (0 ≤ x2) && decide (x2 ≤ 2305843009213693952)) with
                      | false => rfl
                      | true => simp only [Bool.and_eq_true, decide_eq_true_iff] at hq; omega)
                    go_wp2_with fail
                    go_ret
                    refine ⟨?_, (hx0.trans hx).trans (hxe.trans (hxi.trans hxs))⟩
                    have h1 : U = false := by have := HU.out; rw [all_drop hlt2, HGET.out, HS.out, Bool.false_and] at this; exact this.symm
                    have h2 : T = false := by have := HD.out; rw [all_drop hlt, HGE.out] at this; unfold lightE at this; simp only at this; rw [HUU.out, h1, Bool.and_false, Bool.false_and] at this; exact this.symm
                    rw [h2]
                    rfl
                  · have hn4 : 0 ≤ x2 := by omega
                    by_cases hc5 : 2305843009213693952 < x2
                    · have HS : Hid (lightS ⟨x0, x1, x2⟩ = false) := Lib.hid (by unfold lightS; simp only; cases hq : (decide (0 ≤ x0) && decide (x0 ≤ 1099511627776) && decide (0 ≤ x1) && decide (x1 ≤ 1099511627776) && decide (0 ≤ x2) && decide (x2 ≤ 2305843009213693952)) with
                        | false => rfl
                        | true => simp only [Bool.and_eq_true, decide_eq_true_iff] at hq; omega)
                      go_wp2_with fail
                      go_ret
                      refine ⟨?_, (hx0.trans hx).trans (hxe.trans (hxi.trans hxs))⟩
                      have h1 : U = false := by have := HU.out; rw [all_drop hlt2, HGET.out, HS.out, Bool.false_and] at this; exact this.symm
                      have h2 : T = false := by have := HD.out; rw [all_drop hlt, HGE.out] at this; unfold lightE at this; simp only at this; rw [HUU.out, h1, Bool.and_false, Bool.false_and] at this; exact this.symm
                      rw [h2]
                      rfl
                    · have hn5 : x2 ≤ 2305843009213693952 := by omega
                      have HS : Hid (lightS ⟨x0, x1, x2⟩ = true) := Lib.hid (by unfold lightS; simp only; simp only [Bool.and_eq_true, decide_eq_true_iff]; omega)
                      go_wp2_with fail
                      go_roundg (l.length - (k + 1))
                      case measure => omega
                      case rel => exact ⟨k + 1, by go_num, hlt2, rfl, Lib.hid (by have := HU.out; rw [all_drop hlt2, HGET.out, HS.out, Bool.true_and] at this; exact this), hxi.trans hxs⟩
        case neg =>
          have hke : k = l.length := by omega
          subst hke
          have hi2 : ¬ (l.length : Int) < (l.length : Int) := by omega
          have h1 : U = true := by have := HU.out; rw [List.drop_length] at this; exact this.symm
          have HN : Hid ((t.drop (j + 1)).all lightE = T) := Lib.hid (by have := HD.out; rw [all_drop hlt, HGE.out] at this; unfold lightE at this; simp only at this; rw [HUU.out, h1, decide_eq_true H20.out, Bool.true_and, Bool.true_and] at this; exact this)
          clear h1 hlt2
          go_wp2_with fail
          go_roundg (t.length - (j + 1))
          case measure => omega
          case rel => exact ⟨j + 1, by go_num, hlt, rfl, HN, hx.trans (hxe.trans hxi)⟩
    case neg =>
      have hje : j = t.length := by omega
      subst hje
      have hi : ¬ (t.length : Int) < (t.length : Int) := by omega
      have hd2 : T = true := by have := HD.out; rw [List.drop_length] at this; exact this.symm
      subst hd2
      clear hlt
      go_wp2_with fail
      go_ret
      exact ⟨rfl, hx0.trans hx⟩
end Go.Proofs.Ythiaaoiaabocfaa
