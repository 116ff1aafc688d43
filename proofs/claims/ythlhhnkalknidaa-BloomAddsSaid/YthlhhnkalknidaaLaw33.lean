/- The statement BloomPuts of layer 33: the walk of the law. -/
import Derived.Test.YthlhhnkalknidaaAwake33
import Derived.Test.YthlhhnkalknidaaBmT
import Derived.Test.YthlhhnkalknidaaBmS
namespace Go.Proofs.Ythlhhnkalknidaa
open Go.RowKit

set_option maxHeartbeats 400000 in
theorem light_any (v : Value) (l : List UInt8) (each n : Int) (w : World) (h : BV w v l) :
    Calls Try.prog 8 #[stv v each n] w fun e w' => e = .returned (.bool (decide (l.length ≤ 200))) ∧ Ext w w' := by
  obtain ⟨p, c, rfl, _, _, _⟩ := id h
  by_cases hl : l.length ≤ 200
  · rw [decide_eq_true hl]
    have h1 : (l.length : Int) ≤ 200 := by omega
    clear hl
    go_enter Try.func8, Try.ntmps8
    go_wp2_with fail
    go_ret
    exact ⟨rfl, Ext.alloc _ _⟩
  · rw [decide_eq_false hl]
    have h1 : ¬ (l.length : Int) ≤ 200 := by omega
    clear hl
    go_enter Try.func8, Try.ntmps8
    go_wp2_with fail
    go_ret
    exact ⟨rfl, Ext.alloc _ _⟩

abbrev boxR (w : World) (v : Value) (e n : Int) : World := w.alloc (.cells #[v, .int .i64 e, .int .i64 n] 24)
theorem boxR_at (w : World) (v : Value) (e n : Int) : ObjAt (boxR w v e n) w.heap.size 24 [v, .int .i64 e, .int .i64 n] := heap_alloc_new w _

set_option maxHeartbeats 4000000 in
theorem bloomPuts_walk (s : Value) (x : List UInt8 × Int × Int) (v : Value) (b : List UInt8) (w : World) (hs : BV w s x.1) (he : -9223372036854775808 ≤ x.2.1 ∧ x.2.1 ≤ 9223372036854775807) (hn : -9223372036854775808 ≤ x.2.2 ∧ x.2.2 ≤ 9223372036854775807) (h : BV w v b) :
    Calls Try.prog 5 #[stv s x.2.1 x.2.2, v] w fun e w' => e = .returned (.bool true) ∧ Ext w w' := by
  obtain ⟨l, each, n⟩ := x
  simp only at *
  obtain ⟨p, c, rfl⟩ := hs.slice
  obtain ⟨q, d, rfl⟩ := h.slice
  have hx0 := Ext.alloc w (.cells #[.slice p l.length c, .int .i64 each, .int .i64 n] 24)
  have o0 := boxR_at w (.slice p l.length c) each n
  have L1 := light_any (.slice p l.length c) l each n _ (hs.ext hx0)
  have HE := Lib.hid he
  have HN := Lib.hid hn
  clear he hn
  by_cases hl : l.length ≤ 200
  case neg =>
    rw [decide_eq_false hl] at L1
    clear hl
    go_enter Try.func5, Try.ntmps5
    go_wp2_with (first
      | (go_at_call 8; refine L1.mono ?_; rintro e w1 ⟨rfl, hx1⟩)
      | (go_at_call 9; refine (awake_any _).mono ?_; rintro e w2 ⟨rfl, hx2⟩))
    go_ret
    exact ⟨rfl, (hx0.trans hx1).trans hx2⟩
  rw [decide_eq_true hl] at L1
  by_cases hb : b.length ≤ 300
  case neg =>
    have hb2 : (300 : Int) < (b.length : Int) := by omega
    clear hl hb
    go_enter Try.func5, Try.ntmps5
    go_wp2_with (first
      | (go_at_call 8; refine L1.mono ?_; rintro e w1 ⟨rfl, hx1⟩)
      | (go_at_call 9; refine (awake_any _).mono ?_; rintro e w2 ⟨rfl, hx2⟩))
    go_ret
    exact ⟨rfl, (hx0.trans hx1).trans hx2⟩
  have hb2 : ¬ (300 : Int) < (b.length : Int) := by omega
  have P1 := fun w h => putset_any (.slice p l.length c) l each n w h (by omega) HE.out.1 HE.out.2 HN.out.1 HN.out.2
  have P2 := fun w h => rputset_any (.slice p l.length c) l each n w h (by omega) HE.out.1 HE.out.2 HN.out.1 HN.out.2
  have G1 := fun w h => getset_any (.slice q b.length d) b w h (by omega)
  have G2 := fun w h => rgetset_any (.slice q b.length d) b w h (by omega)
  generalize putS ⟨l, each, n⟩ = PS at *
  obtain ⟨pl, pe⟩ := PS
  generalize getS b = GS at *
  obtain ⟨⟨gl, ge, gn⟩, gerr⟩ := GS
  simp only at *
  have S1 := fun v1 v2 w h1 h2 => rsame_any v1 gl ge gn v2 gl ge gn w h1 h2
  rw [same_refl] at S1
  have hz1 : (pl == pl) = true := by simp
  have hz2 : (pe == pe) = true := by simp
  have hz3 : (gerr == gerr) = true := by simp
  clear hl hb
  go_enter Try.func5, Try.ntmps5
  go_wp2_with (first
    | (go_at_call 8; refine L1.mono ?_; rintro e w1 ⟨rfl, hx1⟩
       have hxa := hx0.trans hx1
       obtain ⟨ma0, ma1, ma2⟩ := (o0.ext hx1).cells3)
    | (go_at_call 26; refine (P1 _ (hs.ext hxa)).mono ?_; rintro e w2 ⟨v2, rfl, hf2, hx2⟩
       have hxb := hxa.trans hx2
       obtain ⟨mb0, mb1, mb2⟩ := ((o0.ext hx1).ext hx2).cells3)
    | (go_at_call 27; refine (P2 _ (hs.ext hxb)).mono ?_; rintro e w3 ⟨v3, rfl, hf3, hx3⟩
       have hxc := hxb.trans hx3)
    | (go_at_call 28; refine (G1 _ (h.ext hxc)).mono ?_; rintro e w4 ⟨v4, rfl, hb4, hx4⟩
       obtain ⟨p4, c4, e4⟩ := hb4.slice
       subst e4
       have hx4a := hx4.trans (Ext.alloc w4 (.cells #[.slice p4 gl.length c4, .int .i64 ge, .int .i64 gn] 27))
       have bu := hb4.ext (Ext.alloc w4 (.cells #[.slice p4 gl.length c4, .int .i64 ge, .int .i64 gn] 27))
       have ou := boxS_at w4 (.slice p4 gl.length c4) ge gn
       have hxd := hxc.trans hx4a)
    | (go_at_call 29; refine (G2 _ (h.ext hxd)).mono ?_; rintro e w5 ⟨v5, rfl, hb5, hx5⟩
       obtain ⟨p5, c5, e5⟩ := hb5.slice
       subst e5
       have hx5a := hx5.trans (Ext.alloc w5 (.cells #[.slice p5 gl.length c5, .int .i64 ge, .int .i64 gn] 24))
       have bj := hb5.ext (Ext.alloc w5 (.cells #[.slice p5 gl.length c5, .int .i64 ge, .int .i64 gn] 24))
       have bu5 := bu.ext hx5a
       obtain ⟨mu0, mu1, mu2⟩ := (ou.ext hx5a).cells3
       obtain ⟨mj0, mj1, mj2⟩ := (boxR_at w5 (.slice p5 gl.length c5) ge gn).cells3
       have hxe := hxd.trans hx5a
       have k2 := (hf2.view.ext hx3).ext (hx4a.trans hx5a)
       have k3 := hf3.view.ext (hx4a.trans hx5a))
    | ((with_reducible show wpList _ _ _ (Oper.mk _ (Op.convert _ _ _) _ _ _ _ :: _) _ _); refine st_string T.bytes T.u8 T.str k2 ?_)
    | ((with_reducible show wpList _ _ _ (Oper.mk _ (Op.convert _ _ _) _ _ _ _ :: _) _ _); refine st_string T.bytes T.u8 T.str k3 ?_)
    | (go_at_call 13; refine (S1 _ _ _ bu5 bj).mono ?_; rintro e w6 ⟨rfl, hx6⟩)
    | (go_at_call 9; refine (awake_any _).mono ?_; rintro e w7 ⟨rfl, hx7⟩))
  go_ret
  exact ⟨rfl, (hxe.trans hx6).trans hx7⟩
end Go.Proofs.Ythlhhnkalknidaa
