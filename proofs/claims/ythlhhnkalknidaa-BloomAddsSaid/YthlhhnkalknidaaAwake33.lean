/- 'awake' of layer 33's statements answers true. -/
import Derived.Test.YthlhhnkalknidaaBmL
namespace Go.Proofs.Ythlhhnkalknidaa
open Go.RowKit

theorem BV.slice {w : World} {v : Value} {l : List UInt8} (h : BV w v l) : ∃ p c, v = .slice p l.length c := by obtain ⟨p, c, e, _⟩ := h; exact ⟨p, c, e⟩
/-- A fresh box with a set. -/
abbrev boxS (w : World) (v : Value) (e n : Int) : World := w.alloc (.cells #[v, .int .i64 e, .int .i64 n] 27)
theorem boxS_at (w : World) (v : Value) (e n : Int) : ObjAt (boxS w v e n) w.heap.size 27 [v, .int .i64 e, .int .i64 n] := heap_alloc_new w _
/-- Four sets in their boxes. -/
structure Four (w : World) (g1 g2 g4 g5 : Nat) (v1 v2 v4 v5 : Value) (z bt : List UInt8) : Prop where
  os : ObjAt w g1 27 [v1, .int .i64 3, .int .i64 0]
  ot : ObjAt w g2 27 [v2, .int .i64 3, .int .i64 1]
  ou : ObjAt w g4 27 [v4, .int .i64 3, .int .i64 1]
  oj : ObjAt w g5 27 [v5, .int .i64 3, .int .i64 1]
  bs : BV w v1 z
  bT : BV w v2 bt
  bu : BV w v4 bt
  bj : BV w v5 bt
theorem Four.ext {w w' : World} {g1 g2 g4 g5 : Nat} {v1 v2 v4 v5 : Value} {z bt : List UInt8} (h : Four w g1 g2 g4 g5 v1 v2 v4 v5 z bt) (hx : Ext w w') : Four w' g1 g2 g4 g5 v1 v2 v4 v5 z bt :=
  ⟨h.os.ext hx, h.ot.ext hx, h.ou.ext hx, h.oj.ext hx, h.bs.ext hx, h.bT.ext hx, h.bu.ext hx, h.bj.ext hx⟩
set_option maxRecDepth 20000 in
set_option maxHeartbeats 4000000 in
theorem awake_any (w : World) :
    Calls Try.prog 9 #[] w fun e w' => e = .returned (.bool true) ∧ Ext w w' := by
  obtain ⟨z, bt, pl, F, lz, lt, lp, f1, f2, f3, f4, f5, f6, f7, f8, f9, f10, f11, f12, f13, f14⟩ := awake_facts
  have N1 := newset_any 8 3 w
  rw [f1] at N1
  have A1 := fun v w h => add_any v z 3 0 [107] w h (by simp [maxLen]) (by omega)
  rw [f2] at A1
  have P1 := fun v w h => putset_any v bt 3 1 w h (by omega) (by omega) (by omega) (by omega) (by omega)
  rw [f3] at P1
  have G1 := fun v w h => getset_any v pl w h (by omega)
  rw [f4] at G1
  have J1 := fun v1 v2 w h1 h2 => join_any v1 z 3 0 v2 bt 3 1 w h1 h2 (by omega) (by omega)
  rw [f5] at J1
  have H1 := fun v w h => has_any v bt 3 1 [107] w h (by simp [maxLen])
  rw [f6] at H1
  have H0 := fun v w h => has_any v z 3 0 [107] w h (by simp [maxLen])
  rw [f7] at H0
  have S1 := fun v1 v2 w h1 h2 => same_any v1 bt 3 1 v2 bt 3 1 w h1 h2
  rw [f8] at S1
  have S0 := fun v1 v2 w h1 h2 => same_any v1 z 3 0 v2 bt 3 1 w h1 h2
  rw [f9] at S0
  have Q1 := fun v w h => places_any v z 3 0 [107] w h (by simp [maxLen])
  have hq : (ni (placesB ⟨z, 3, 0⟩ [107])).length = 3 := by rw [ni_length, f10]
  generalize ni (placesB ⟨z, 3, 0⟩ [107]) = qs at *
  have F0 := fun v w h => full_any v z 3 0 w h (by omega)
  rw [f11] at F0
  have F1 := fun v w h => full_any v bt 3 1 w h (by omega)
  rw [f12] at F1
  have C1 := fun v w h => check_any v bt 3 1 w h
  rw [f14] at C1
  have hF : (0 : Int) < (F : Int) := by omega
  have HQ := Lib.hid hq
  simp only at N1 A1 P1 G1 J1
  clear f1 f2 f3 f4 f5 f6 f7 f8 f9 f10 f11 f12 f14 lz lt lp hq f13
  go_enter Try.func9, Try.ntmps9
  go_wp2_with (first
    | (go_at_call 19; refine N1.mono ?_; rintro e w1 ⟨v1, rfl, hb1, hx1⟩
       obtain ⟨p1, c1, e1⟩ := hb1.slice
       subst e1
       have hxa := hx1.trans (Ext.alloc w1 (.cells #[.slice p1 z.length c1, .int .i64 3, .int .i64 0] 27))
       have bs := hb1.ext (Ext.alloc w1 (.cells #[.slice p1 z.length c1, .int .i64 3, .int .i64 0] 27))
       have os := boxS_at w1 (.slice p1 z.length c1) 3 0)
    | (go_at_call 12; refine (A1 _ _ bs).mono ?_; rintro e w2 ⟨v2, rfl, hb2, hx2⟩
       obtain ⟨p2, c2, e2⟩ := hb2.slice
       subst e2
       have hx2a := hx2.trans (Ext.alloc w2 (.cells #[.slice p2 bt.length c2, .int .i64 3, .int .i64 1] 27))
       have hxb := hxa.trans hx2a
       have bt2 := hb2.ext (Ext.alloc w2 (.cells #[.slice p2 bt.length c2, .int .i64 3, .int .i64 1] 27))
       have bs2 := bs.ext hx2a
       have os2 := os.ext hx2a
       have ot2 := boxS_at w2 (.slice p2 bt.length c2) 3 1)
    | (go_at_call 26; refine (P1 _ _ bt2).mono ?_; rintro e w3 ⟨v3, rfl, hf3, hx3⟩)
    | (go_at_call 28; refine (G1 _ _ hf3.view).mono ?_; rintro e w4 ⟨v4, rfl, hb4, hx4⟩
       obtain ⟨p4, c4, e4⟩ := hb4.slice
       subst e4
       have hx4a := hx3.trans (hx4.trans (Ext.alloc w4 (.cells #[.slice p4 bt.length c4, .int .i64 3, .int .i64 1] 27)))
       have hxc := hxb.trans hx4a
       have bu := hb4.ext (Ext.alloc w4 (.cells #[.slice p4 bt.length c4, .int .i64 3, .int .i64 1] 27))
       have bs4 := bs2.ext hx4a
       have bt4 := bt2.ext hx4a
       have os4 := os2.ext hx4a
       have ot4 := ot2.ext hx4a
       have ou4 := boxS_at w4 (.slice p4 bt.length c4) 3 1
       obtain ⟨ms0, ms1, ms2⟩ := os4.cells3
       obtain ⟨mt0, mt1, mt2⟩ := ot4.cells3)
    | (go_at_call 21; refine (J1 _ _ _ bs4 bt4).mono ?_; rintro e w5 ⟨v5, rfl, hb5, hx5⟩
       obtain ⟨p5, c5, e5⟩ := hb5.slice
       subst e5
       clear ms0 ms1 ms2 mt0 mt1 mt2
       have hx5a := hx5.trans (Ext.alloc w5 (.cells #[.slice p5 bt.length c5, .int .i64 3, .int .i64 1] 27))
       have hxd := hxc.trans hx5a
       have bj := hb5.ext (Ext.alloc w5 (.cells #[.slice p5 bt.length c5, .int .i64 3, .int .i64 1] 27))
       have bs5 := bs4.ext hx5a
       have bt5 := bt4.ext hx5a
       have bu5 := bu.ext hx5a
       have os5 := os4.ext hx5a
       have ot5 := ot4.ext hx5a
       have ou5 := ou4.ext hx5a
       have oj5 := boxS_at w5 (.slice p5 bt.length c5) 3 1
       have K5 : Four _ _ _ _ _ _ _ _ _ _ _ := ⟨os5, ot5, ou5, oj5, bs5, bt5, bu5, bj⟩
       have hxx5 := hxd
       clear os5 ot5 ou5 oj5 bs5 bt5 bu5 bj os4 ot4 ou4 bs4 bt4 bu os2 ot2 bs2 bt2 os bs
       obtain ⟨ms0, ms1, ms2⟩ := K5.os.cells3
       obtain ⟨mt0, mt1, mt2⟩ := K5.ot.cells3
       obtain ⟨mu0, mu1, mu2⟩ := K5.ou.cells3
       obtain ⟨mj0, mj1, mj2⟩ := K5.oj.cells3)
    | (go_at_call 15; have hq := K9; refine (H1 _ _ K9.bj).mono ?_; rintro e w10 ⟨rfl, hx10⟩
       clear ms0 ms1 ms2 mt0 mt1 mt2 mu0 mu1 mu2 mj0 mj1 mj2
       have K10 := K9.ext hx10
       have hxx10 := hxx9.trans hx10
       obtain ⟨ms0, ms1, ms2⟩ := K10.os.cells3
       obtain ⟨mt0, mt1, mt2⟩ := K10.ot.cells3
       obtain ⟨mu0, mu1, mu2⟩ := K10.ou.cells3
       obtain ⟨mj0, mj1, mj2⟩ := K10.oj.cells3)
    | (go_at_call 15; have hq := K6; refine (H0 _ _ K6.bs).mono ?_; rintro e w7 ⟨rfl, hx7⟩
       clear ms0 ms1 ms2 mt0 mt1 mt2 mu0 mu1 mu2 mj0 mj1 mj2
       have K7 := K6.ext hx7
       have hxx7 := hxx6.trans hx7
       obtain ⟨ms0, ms1, ms2⟩ := K7.os.cells3
       obtain ⟨mt0, mt1, mt2⟩ := K7.ot.cells3
       obtain ⟨mu0, mu1, mu2⟩ := K7.ou.cells3
       obtain ⟨mj0, mj1, mj2⟩ := K7.oj.cells3)
    | (go_at_call 15; have hq := K5; refine (H1 _ _ K5.bT).mono ?_; rintro e w6 ⟨rfl, hx6⟩
       clear ms0 ms1 ms2 mt0 mt1 mt2 mu0 mu1 mu2 mj0 mj1 mj2
       have K6 := K5.ext hx6
       have hxx6 := hxx5.trans hx6
       obtain ⟨ms0, ms1, ms2⟩ := K6.os.cells3
       obtain ⟨mt0, mt1, mt2⟩ := K6.ot.cells3
       obtain ⟨mu0, mu1, mu2⟩ := K6.ou.cells3
       obtain ⟨mj0, mj1, mj2⟩ := K6.oj.cells3)
    | (go_at_call 25; have hq := K8; refine (S0 _ _ _ K8.bs K8.bT).mono ?_; rintro e w9 ⟨rfl, hx9⟩
       clear ms0 ms1 ms2 mt0 mt1 mt2 mu0 mu1 mu2 mj0 mj1 mj2
       have K9 := K8.ext hx9
       have hxx9 := hxx8.trans hx9
       obtain ⟨ms0, ms1, ms2⟩ := K9.os.cells3
       obtain ⟨mt0, mt1, mt2⟩ := K9.ot.cells3
       obtain ⟨mu0, mu1, mu2⟩ := K9.ou.cells3
       obtain ⟨mj0, mj1, mj2⟩ := K9.oj.cells3)
    | (go_at_call 25; have hq := K7; refine (S1 _ _ _ K7.bT K7.bu).mono ?_; rintro e w8 ⟨rfl, hx8⟩
       clear ms0 ms1 ms2 mt0 mt1 mt2 mu0 mu1 mu2 mj0 mj1 mj2
       have K8 := K7.ext hx8
       have hxx8 := hxx7.trans hx8
       obtain ⟨ms0, ms1, ms2⟩ := K8.os.cells3
       obtain ⟨mt0, mt1, mt2⟩ := K8.ot.cells3
       obtain ⟨mu0, mu1, mu2⟩ := K8.ou.cells3
       obtain ⟨mj0, mj1, mj2⟩ := K8.oj.cells3)
    | (go_at_call 10; refine (Q1 _ _ K10.bs).mono ?_; rintro e w11 ⟨v11, rfl, hr11, hx11⟩
       obtain ⟨p11, c11, e11, _, _⟩ := (IO.view hr11).slice
       rw [HQ.out] at e11
       subst e11
       clear ms0 ms1 ms2 mt0 mt1 mt2 mu0 mu1 mu2 mj0 mj1 mj2
       have K11 := K10.ext hx11
       have hxx11 := hxx10.trans hx11
       obtain ⟨ms0, ms1, ms2⟩ := K11.os.cells3
       obtain ⟨mt0, mt1, mt2⟩ := K11.ot.cells3
       obtain ⟨mu0, mu1, mu2⟩ := K11.ou.cells3
       obtain ⟨mj0, mj1, mj2⟩ := K11.oj.cells3)
    | (go_at_call 23; have hq := K12; refine (F1 _ _ K12.bT).mono ?_; rintro e w13 ⟨rfl, hx13⟩
       clear ms0 ms1 ms2 mt0 mt1 mt2 mu0 mu1 mu2 mj0 mj1 mj2
       have K13 := K12.ext hx13
       have hxx13 := hxx12.trans hx13
       obtain ⟨ms0, ms1, ms2⟩ := K13.os.cells3
       obtain ⟨mt0, mt1, mt2⟩ := K13.ot.cells3
       obtain ⟨mu0, mu1, mu2⟩ := K13.ou.cells3
       obtain ⟨mj0, mj1, mj2⟩ := K13.oj.cells3)
    | (go_at_call 23; have hq := K11; refine (F0 _ _ K11.bs).mono ?_; rintro e w12 ⟨rfl, hx12⟩
       clear ms0 ms1 ms2 mt0 mt1 mt2 mu0 mu1 mu2 mj0 mj1 mj2
       have K12 := K11.ext hx12
       have hxx12 := hxx11.trans hx12
       obtain ⟨ms0, ms1, ms2⟩ := K12.os.cells3
       obtain ⟨mt0, mt1, mt2⟩ := K12.ot.cells3
       obtain ⟨mu0, mu1, mu2⟩ := K12.ou.cells3
       obtain ⟨mj0, mj1, mj2⟩ := K12.oj.cells3)
    | (go_at_call 17; refine (C1 _ _ K13.bT).mono ?_; rintro e w14 ⟨rfl, hx14⟩
       have hxx14 := hxx13.trans hx14))
  go_ret
  exact ⟨rfl, hxx14⟩
end Go.Proofs.Ythlhhnkalknidaa
