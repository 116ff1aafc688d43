/- What the document's functions of layer 33 compute: Get. -/
import Derived.Test.YthlhhnkalknidaaBmR
namespace Go.Proofs.Ythlhhnkalknidaa
open Go.RowKit

set_option maxHeartbeats 1000000 in
theorem rgetset_any (v : Value) (b : List UInt8) (w : World) (h : BV w v b) (_ : b.length ≤ 100000) :
    Calls Try.prog 29 #[v] w fun e w' => ∃ v', e = .returned (.tuple #[stv v' (getS b).1.each (getS b).1.n, .int .i64 (getS b).2]) ∧ BV w' v' (getS b).1.bits ∧ Ext w w' := by
  obtain ⟨p, c, rfl, hn, hc, hs⟩ := id h
  have oa : ObjAt ((w.alloc (.cells #[.slice none 0 0, .int .i64 0, .int .i64 0] 24)).alloc (.cells #[.slice none 0 0, .int .i64 0, .int .i64 0] 24)) w.heap.size 24 nilS := heap_alloc2_old w _ _
  have ob : ObjAt ((w.alloc (.cells #[.slice none 0 0, .int .i64 0, .int .i64 0] 24)).alloc (.cells #[.slice none 0 0, .int .i64 0, .int .i64 0] 24)) (w.heap.size + 1) 24 nilS := heap_alloc2_new w _ _
  have hx0 : Ext w ((w.alloc (.cells #[.slice none 0 0, .int .i64 0, .int .i64 0] 24)).alloc (.cells #[.slice none 0 0, .int .i64 0, .int .i64 0] 24)) := (Ext.alloc _ _).trans (Ext.alloc _ _)
  have hsz : ((w.alloc (.cells #[.slice none 0 0, .int .i64 0, .int .i64 0] 24)).alloc (.cells #[.slice none 0 0, .int .i64 0, .int .i64 0] 24)).heap.size = w.heap.size + 2 := by simp
  obtain ⟨J, hJ⟩ : ∃ J, getS b = J := ⟨_, rfl⟩
  rw [hJ]
  unfold getS getRaw at hJ
  have N1 := rnum_any (.slice p b.length c) ⟨b, 0⟩ w _ h hx0
  have N2 := fun v w' hv hx => rnum_any v (numR ⟨b, 0⟩) w w' hv hx
  have N3 := fun v w' hv hx => rtextr_any v (numR (numR ⟨b, 0⟩)) 4096 w w' hv hx
  have b1 := numN_bounds ⟨b, 0⟩
  have b2 := numN_bounds (numR ⟨b, 0⟩)
  have b3 := textL_length 4096 (numR (numR ⟨b, 0⟩))
  generalize numN ⟨b, 0⟩ = x at *
  generalize numN (numR ⟨b, 0⟩) = n at *
  generalize textL 4096 (numR (numR ⟨b, 0⟩)) = t at *
  generalize textR 4096 (numR (numR ⟨b, 0⟩)) = r3 at *
  generalize numR (numR ⟨b, 0⟩) = r2 at *
  generalize numR ⟨b, 0⟩ = r1 at *
  have b4 : t.length ≤ 4096 := by have : max (0 : Int) 4096 = 4096 := rfl; omega
  have P1 := fun v w h => rputset_any v t x n w h (by omega) b1.1 b1.2 b2.1 b2.2
  have HB1 := Lib.hid b1
  have HB2 := Lib.hid b2
  have HSZ := Lib.hid hsz
  clear b1 b2 b3 hsz
  generalize putS ⟨t, x, n⟩ = PS at *
  obtain ⟨pl, pe⟩ := PS
  simp only at *
  by_cases he : pe = 0
  case neg =>
    have hz : (pe != 0) = true := by rw [bne_iff_ne]; exact he
    rw [if_neg (fun h => he h.1)] at hJ
    subst hJ
    clear he
    go_enter Try.func29, Try.ntmps29
    go_wp2_with (first
      | (go_at_call 45; have hq := hb1; refine (N2 _ _ hb1 hxc).mono ?_; rintro e w4 ⟨v2, rfl, hb2, hx4⟩
         obtain ⟨p2, c2, rfl, _, _, _⟩ := id hb2
         obtain ⟨⟨hg0, hk0, hg1, hk1⟩, oR5⟩ := (oR3.ext hx4).stored2 (.slice p2 r2.b.length c2) (.int .i64 r2.e)
         have oB5 := ((oB3.ext hx4).far (p := ⟨w1.heap.size, 0, none⟩) hBR.out (.slice p2 r2.b.length c2)).far (p := ⟨w1.heap.size, 1, none⟩) hBR.out (.int .i64 r2.e)
         have oA5 := ((oA3.ext hx4).far (p := ⟨w1.heap.size, 0, none⟩) hAR.out (.slice p2 r2.b.length c2)).far (p := ⟨w1.heap.size, 1, none⟩) hAR.out (.int .i64 r2.e)
         have hc52 := oB5.cell (j := 2) (u := .int .i64 0) rfl
         have hf52 := oB5.free 2
         have oB6 := oB5.store 2 (.int .i64 n)
         have oA6 := oA5.far (p := ⟨w.heap.size + 1, 2, none⟩) (by simp) (.int .i64 n)
         have oR6 := oR5.far (p := ⟨w.heap.size + 1, 2, none⟩) (Ne.symm hBR.out) (.int .i64 n)
         have hc60 := oR6.cell (j := 0) (u := .slice p2 r2.b.length c2) rfl
         have hc61 := oR6.cell (j := 1) (u := .int .i64 r2.e) rfl
         have hxd := (((hxc.trans hx4).store (p := ⟨w1.heap.size, 0, none⟩) hwR.out (.slice p2 r2.b.length c2)).store (p := ⟨w1.heap.size, 1, none⟩) hwR.out (.int .i64 r2.e)).store (p := ⟨w.heap.size + 1, 2, none⟩) (by simp) (.int .i64 n))
      | (go_at_call 45; refine N1.mono ?_; rintro e w1 ⟨v1, rfl, hb1, hx1⟩
         obtain ⟨p1, c1, rfl, _, _, _⟩ := id hb1
         have hs1 := hx1.size
         rw [HSZ.out] at hs1
         have HS1 := Lib.hid hs1
         clear hs1
         have oR2 : ObjAt (w1.alloc (.cells #[.slice p1 r1.b.length c1, .int .i64 r1.e] 75)) w1.heap.size 75 [.slice p1 r1.b.length c1, .int .i64 r1.e] := heap_alloc_new w1 _
         have hx2 := hx1.trans (Ext.alloc w1 (.cells #[.slice p1 r1.b.length c1, .int .i64 r1.e] 75))
         have oB2 := ob.ext hx2
         have oA2 := oa.ext hx2
         have hBR : Hid (w.heap.size + 1 ≠ w1.heap.size) := by have := HS1.out; show _ ≠ _; omega
         have hAR : Hid (w.heap.size ≠ w1.heap.size) := by have := HS1.out; show _ ≠ _; omega
         have hwR : Hid (w.heap.size ≤ w1.heap.size) := by have := HS1.out; show _ ≤ _; omega
         have hc21 := oB2.cell (j := 1) (u := .int .i64 0) rfl
         have hf21 := oB2.free 1
         have oB3 := oB2.store 1 (.int .i64 x)
         have oA3 := oA2.far (p := ⟨w.heap.size + 1, 1, none⟩) (by simp) (.int .i64 x)
         have oR3 := oR2.far (p := ⟨w.heap.size + 1, 1, none⟩) (Ne.symm hBR.out) (.int .i64 x)
         have hc30 := oR3.cell (j := 0) (u := .slice p1 r1.b.length c1) rfl
         have hc31 := oR3.cell (j := 1) (u := .int .i64 r1.e) rfl
         have hxc := (hx0.trans hx2).store (p := ⟨w.heap.size + 1, 1, none⟩) (by simp) (.int .i64 x))
      | (go_at_call 46; refine (N3 _ _ hb2 hxd).mono ?_; rintro e w7 ⟨v3, rfl, hb3, hx7⟩
         obtain ⟨p3, c3, rfl, _, _, _⟩ := id hb3
         have hx8 := hx7.trans (Ext.alloc w7 (.cells #[.slice p3 r3.b.length c3, .int .i64 r3.e] 75))
         have oB8 := oB6.ext hx8
         have oA8 := oA6.ext hx8
         have hc80 := oB8.cell (j := 0) (u := .slice none 0 0) rfl
         have hxe := hxd.trans hx8)
      | (at_builtin; refine st_append_str T.bytes T.str (FB.nil _ (w7.alloc (.cells #[.slice p3 r3.b.length c3, .int .i64 r3.e] 75)).heap.size) (m := t) ?_ (by simp; omega) (Nat.le_refl _); intro v9 w9 hf9 hg9
         obtain ⟨p9, c9, e9, _, _, _⟩ := hf9.slice
         rw [List.nil_append] at e9 hf9
         subst e9
         have hx9 := (Ext.refl _).append (FB.nil _ _) hg9
         have oB9 := oB8.ext hx9
         have hf90 := oB9.free 0
         have hc90 := oB9.cell (j := 0) (u := .slice none 0 0) rfl
         have oB10 := oB9.store 0 (.slice p9 t.length c9)
         obtain ⟨hm0, hm1, hm2⟩ := oB10.cells3
         have oA10 := (oA8.ext hx9).far (p := ⟨w.heap.size + 1, 0, none⟩) (by simp) (.slice p9 t.length c9)
         have hlt8 := Lib.hid oB8.lt
         have hb9 : (Value.slice p9 t.length c9).ownBlock ≠ some (w.heap.size + 1) := fun e => by have h5 := (hf9.lt (w.heap.size + 1) e).1; have h6 := hlt8.out; omega
         have hv10 := (hf9.far (p := ⟨w.heap.size + 1, 0, none⟩) hb9 (.slice p9 t.length c9)).view
         have hxf := (hxe.trans hx9).store (p := ⟨w.heap.size + 1, 0, none⟩) (by simp) (.slice p9 t.length c9))
      | (go_at_call 27; refine (P1 _ _ hv10).mono ?_; rintro e w11 ⟨v11, rfl, hf11, hx11⟩
         obtain ⟨hh0, hh1, hh2⟩ := (oB10.ext hx11).cells3
         have hxg := hxf.trans hx11
         obtain ⟨⟨hi0, hj0, hi1, hj1, hi2, hj2⟩, ho6⟩ := (oA10.ext hx11).stored3 (.slice none 0 0) (.int .i64 0) (.int .i64 0)))
    refine bodyPost_ret (rst_results2 rfl _ _ (w.heap.size) _ _ _ rfl ho6) rfl ?_
    exact ⟨_, rfl, BV.nil _, hxg.set3 (Nat.le_refl _) _ _ _⟩
  subst he
  by_cases heq : pl = b
  · rw [if_pos ⟨rfl, heq⟩] at hJ
    subst hJ
    have hz : (pl == b) = true := by simp [heq]
    clear heq
    go_enter Try.func29, Try.ntmps29
    go_wp2_with (first
      | (go_at_call 45; have hq := hb1; refine (N2 _ _ hb1 hxc).mono ?_; rintro e w4 ⟨v2, rfl, hb2, hx4⟩
         obtain ⟨p2, c2, rfl, _, _, _⟩ := id hb2
         obtain ⟨⟨hg0, hk0, hg1, hk1⟩, oR5⟩ := (oR3.ext hx4).stored2 (.slice p2 r2.b.length c2) (.int .i64 r2.e)
         have oB5 := ((oB3.ext hx4).far (p := ⟨w1.heap.size, 0, none⟩) hBR.out (.slice p2 r2.b.length c2)).far (p := ⟨w1.heap.size, 1, none⟩) hBR.out (.int .i64 r2.e)
         have oA5 := ((oA3.ext hx4).far (p := ⟨w1.heap.size, 0, none⟩) hAR.out (.slice p2 r2.b.length c2)).far (p := ⟨w1.heap.size, 1, none⟩) hAR.out (.int .i64 r2.e)
         have hc52 := oB5.cell (j := 2) (u := .int .i64 0) rfl
         have hf52 := oB5.free 2
         have oB6 := oB5.store 2 (.int .i64 n)
         have oA6 := oA5.far (p := ⟨w.heap.size + 1, 2, none⟩) (by simp) (.int .i64 n)
         have oR6 := oR5.far (p := ⟨w.heap.size + 1, 2, none⟩) (Ne.symm hBR.out) (.int .i64 n)
         have hc60 := oR6.cell (j := 0) (u := .slice p2 r2.b.length c2) rfl
         have hc61 := oR6.cell (j := 1) (u := .int .i64 r2.e) rfl
         have hxd := (((hxc.trans hx4).store (p := ⟨w1.heap.size, 0, none⟩) hwR.out (.slice p2 r2.b.length c2)).store (p := ⟨w1.heap.size, 1, none⟩) hwR.out (.int .i64 r2.e)).store (p := ⟨w.heap.size + 1, 2, none⟩) (by simp) (.int .i64 n))
      | (go_at_call 45; refine N1.mono ?_; rintro e w1 ⟨v1, rfl, hb1, hx1⟩
         obtain ⟨p1, c1, rfl, _, _, _⟩ := id hb1
         have hs1 := hx1.size
         rw [HSZ.out] at hs1
         have HS1 := Lib.hid hs1
         clear hs1
         have oR2 : ObjAt (w1.alloc (.cells #[.slice p1 r1.b.length c1, .int .i64 r1.e] 75)) w1.heap.size 75 [.slice p1 r1.b.length c1, .int .i64 r1.e] := heap_alloc_new w1 _
         have hx2 := hx1.trans (Ext.alloc w1 (.cells #[.slice p1 r1.b.length c1, .int .i64 r1.e] 75))
         have oB2 := ob.ext hx2
         have oA2 := oa.ext hx2
         have hBR : Hid (w.heap.size + 1 ≠ w1.heap.size) := by have := HS1.out; show _ ≠ _; omega
         have hAR : Hid (w.heap.size ≠ w1.heap.size) := by have := HS1.out; show _ ≠ _; omega
         have hwR : Hid (w.heap.size ≤ w1.heap.size) := by have := HS1.out; show _ ≤ _; omega
         have hc21 := oB2.cell (j := 1) (u := .int .i64 0) rfl
         have hf21 := oB2.free 1
         have oB3 := oB2.store 1 (.int .i64 x)
         have oA3 := oA2.far (p := ⟨w.heap.size + 1, 1, none⟩) (by simp) (.int .i64 x)
         have oR3 := oR2.far (p := ⟨w.heap.size + 1, 1, none⟩) (Ne.symm hBR.out) (.int .i64 x)
         have hc30 := oR3.cell (j := 0) (u := .slice p1 r1.b.length c1) rfl
         have hc31 := oR3.cell (j := 1) (u := .int .i64 r1.e) rfl
         have hxc := (hx0.trans hx2).store (p := ⟨w.heap.size + 1, 1, none⟩) (by simp) (.int .i64 x))
      | (go_at_call 46; refine (N3 _ _ hb2 hxd).mono ?_; rintro e w7 ⟨v3, rfl, hb3, hx7⟩
         obtain ⟨p3, c3, rfl, _, _, _⟩ := id hb3
         have hx8 := hx7.trans (Ext.alloc w7 (.cells #[.slice p3 r3.b.length c3, .int .i64 r3.e] 75))
         have oB8 := oB6.ext hx8
         have oA8 := oA6.ext hx8
         have hc80 := oB8.cell (j := 0) (u := .slice none 0 0) rfl
         have hxe := hxd.trans hx8)
      | (at_builtin; refine st_append_str T.bytes T.str (FB.nil _ (w7.alloc (.cells #[.slice p3 r3.b.length c3, .int .i64 r3.e] 75)).heap.size) (m := t) ?_ (by simp; omega) (Nat.le_refl _); intro v9 w9 hf9 hg9
         obtain ⟨p9, c9, e9, _, _, _⟩ := hf9.slice
         rw [List.nil_append] at e9 hf9
         subst e9
         have hx9 := (Ext.refl _).append (FB.nil _ _) hg9
         have oB9 := oB8.ext hx9
         have hf90 := oB9.free 0
         have hc90 := oB9.cell (j := 0) (u := .slice none 0 0) rfl
         have oB10 := oB9.store 0 (.slice p9 t.length c9)
         obtain ⟨hm0, hm1, hm2⟩ := oB10.cells3
         have oA10 := (oA8.ext hx9).far (p := ⟨w.heap.size + 1, 0, none⟩) (by simp) (.slice p9 t.length c9)
         have hlt8 := Lib.hid oB8.lt
         have hb9 : (Value.slice p9 t.length c9).ownBlock ≠ some (w.heap.size + 1) := fun e => by have h5 := (hf9.lt (w.heap.size + 1) e).1; have h6 := hlt8.out; omega
         have hv10 := (hf9.far (p := ⟨w.heap.size + 1, 0, none⟩) hb9 (.slice p9 t.length c9)).view
         have hxf := (hxe.trans hx9).store (p := ⟨w.heap.size + 1, 0, none⟩) (by simp) (.slice p9 t.length c9))
      | (go_at_call 27; refine (P1 _ _ hv10).mono ?_; rintro e w11 ⟨v11, rfl, hf11, hx11⟩
         obtain ⟨hh0, hh1, hh2⟩ := (oB10.ext hx11).cells3
         have hxg := hxf.trans hx11
         obtain ⟨⟨hi0, hj0, hi1, hj1, hi2, hj2⟩, ho6⟩ := (oA10.ext hx11).stored3 (.slice p9 t.length c9) (.int .i64 x) (.int .i64 n))
      | ((with_reducible show wpList _ _ _ (Oper.mk _ (Op.convert _ _ _) _ _ _ _ :: _) _ _); have hq := hxg; refine st_string T.bytes T.u8 T.str hf11.view ?_)
      | ((with_reducible show wpList _ _ _ (Oper.mk _ (Op.convert _ _ _) _ _ _ _ :: _) _ _); refine st_string T.bytes T.u8 T.str (h.ext hxg) ?_))
    refine bodyPost_ret (rst_results2 rfl _ _ (w.heap.size) _ _ _ rfl ho6) rfl ?_
    have hb10 : (Value.slice p9 t.length c9).ownBlock ≠ some (w.heap.size) := fun e => by have h5 := (hf9.lt (w.heap.size) e).1; have h6 := hlt8.out; omega
    have hf10 := hf9.far (p := ⟨w.heap.size + 1, 0, none⟩) hb9 (.slice p9 t.length c9)
    exact ⟨_, rfl, ((hf10.keep hx11).far3 hb10 _ _ _).view, hxg.set3 (Nat.le_refl _) _ _ _⟩
  · rw [if_neg (fun h => heq h.2)] at hJ
    subst hJ
    have hz : (pl == b) = false := by rw [beq_eq_false_iff_ne]; exact heq
    clear heq
    go_enter Try.func29, Try.ntmps29
    go_wp2_with (first
      | (go_at_call 45; have hq := hb1; refine (N2 _ _ hb1 hxc).mono ?_; rintro e w4 ⟨v2, rfl, hb2, hx4⟩
         obtain ⟨p2, c2, rfl, _, _, _⟩ := id hb2
         obtain ⟨⟨hg0, hk0, hg1, hk1⟩, oR5⟩ := (oR3.ext hx4).stored2 (.slice p2 r2.b.length c2) (.int .i64 r2.e)
         have oB5 := ((oB3.ext hx4).far (p := ⟨w1.heap.size, 0, none⟩) hBR.out (.slice p2 r2.b.length c2)).far (p := ⟨w1.heap.size, 1, none⟩) hBR.out (.int .i64 r2.e)
         have oA5 := ((oA3.ext hx4).far (p := ⟨w1.heap.size, 0, none⟩) hAR.out (.slice p2 r2.b.length c2)).far (p := ⟨w1.heap.size, 1, none⟩) hAR.out (.int .i64 r2.e)
         have hc52 := oB5.cell (j := 2) (u := .int .i64 0) rfl
         have hf52 := oB5.free 2
         have oB6 := oB5.store 2 (.int .i64 n)
         have oA6 := oA5.far (p := ⟨w.heap.size + 1, 2, none⟩) (by simp) (.int .i64 n)
         have oR6 := oR5.far (p := ⟨w.heap.size + 1, 2, none⟩) (Ne.symm hBR.out) (.int .i64 n)
         have hc60 := oR6.cell (j := 0) (u := .slice p2 r2.b.length c2) rfl
         have hc61 := oR6.cell (j := 1) (u := .int .i64 r2.e) rfl
         have hxd := (((hxc.trans hx4).store (p := ⟨w1.heap.size, 0, none⟩) hwR.out (.slice p2 r2.b.length c2)).store (p := ⟨w1.heap.size, 1, none⟩) hwR.out (.int .i64 r2.e)).store (p := ⟨w.heap.size + 1, 2, none⟩) (by simp) (.int .i64 n))
      | (go_at_call 45; refine N1.mono ?_; rintro e w1 ⟨v1, rfl, hb1, hx1⟩
         obtain ⟨p1, c1, rfl, _, _, _⟩ := id hb1
         have hs1 := hx1.size
         rw [HSZ.out] at hs1
         have HS1 := Lib.hid hs1
         clear hs1
         have oR2 : ObjAt (w1.alloc (.cells #[.slice p1 r1.b.length c1, .int .i64 r1.e] 75)) w1.heap.size 75 [.slice p1 r1.b.length c1, .int .i64 r1.e] := heap_alloc_new w1 _
         have hx2 := hx1.trans (Ext.alloc w1 (.cells #[.slice p1 r1.b.length c1, .int .i64 r1.e] 75))
         have oB2 := ob.ext hx2
         have oA2 := oa.ext hx2
         have hBR : Hid (w.heap.size + 1 ≠ w1.heap.size) := by have := HS1.out; show _ ≠ _; omega
         have hAR : Hid (w.heap.size ≠ w1.heap.size) := by have := HS1.out; show _ ≠ _; omega
         have hwR : Hid (w.heap.size ≤ w1.heap.size) := by have := HS1.out; show _ ≤ _; omega
         have hc21 := oB2.cell (j := 1) (u := .int .i64 0) rfl
         have hf21 := oB2.free 1
         have oB3 := oB2.store 1 (.int .i64 x)
         have oA3 := oA2.far (p := ⟨w.heap.size + 1, 1, none⟩) (by simp) (.int .i64 x)
         have oR3 := oR2.far (p := ⟨w.heap.size + 1, 1, none⟩) (Ne.symm hBR.out) (.int .i64 x)
         have hc30 := oR3.cell (j := 0) (u := .slice p1 r1.b.length c1) rfl
         have hc31 := oR3.cell (j := 1) (u := .int .i64 r1.e) rfl
         have hxc := (hx0.trans hx2).store (p := ⟨w.heap.size + 1, 1, none⟩) (by simp) (.int .i64 x))
      | (go_at_call 46; refine (N3 _ _ hb2 hxd).mono ?_; rintro e w7 ⟨v3, rfl, hb3, hx7⟩
         obtain ⟨p3, c3, rfl, _, _, _⟩ := id hb3
         have hx8 := hx7.trans (Ext.alloc w7 (.cells #[.slice p3 r3.b.length c3, .int .i64 r3.e] 75))
         have oB8 := oB6.ext hx8
         have oA8 := oA6.ext hx8
         have hc80 := oB8.cell (j := 0) (u := .slice none 0 0) rfl
         have hxe := hxd.trans hx8)
      | (at_builtin; refine st_append_str T.bytes T.str (FB.nil _ (w7.alloc (.cells #[.slice p3 r3.b.length c3, .int .i64 r3.e] 75)).heap.size) (m := t) ?_ (by simp; omega) (Nat.le_refl _); intro v9 w9 hf9 hg9
         obtain ⟨p9, c9, e9, _, _, _⟩ := hf9.slice
         rw [List.nil_append] at e9 hf9
         subst e9
         have hx9 := (Ext.refl _).append (FB.nil _ _) hg9
         have oB9 := oB8.ext hx9
         have hf90 := oB9.free 0
         have hc90 := oB9.cell (j := 0) (u := .slice none 0 0) rfl
         have oB10 := oB9.store 0 (.slice p9 t.length c9)
         obtain ⟨hm0, hm1, hm2⟩ := oB10.cells3
         have oA10 := (oA8.ext hx9).far (p := ⟨w.heap.size + 1, 0, none⟩) (by simp) (.slice p9 t.length c9)
         have hlt8 := Lib.hid oB8.lt
         have hb9 : (Value.slice p9 t.length c9).ownBlock ≠ some (w.heap.size + 1) := fun e => by have h5 := (hf9.lt (w.heap.size + 1) e).1; have h6 := hlt8.out; omega
         have hv10 := (hf9.far (p := ⟨w.heap.size + 1, 0, none⟩) hb9 (.slice p9 t.length c9)).view
         have hxf := (hxe.trans hx9).store (p := ⟨w.heap.size + 1, 0, none⟩) (by simp) (.slice p9 t.length c9))
      | (go_at_call 27; refine (P1 _ _ hv10).mono ?_; rintro e w11 ⟨v11, rfl, hf11, hx11⟩
         obtain ⟨hh0, hh1, hh2⟩ := (oB10.ext hx11).cells3
         have hxg := hxf.trans hx11
         obtain ⟨⟨hi0, hj0, hi1, hj1, hi2, hj2⟩, ho6⟩ := (oA10.ext hx11).stored3 (.slice none 0 0) (.int .i64 0) (.int .i64 0))
      | ((with_reducible show wpList _ _ _ (Oper.mk _ (Op.convert _ _ _) _ _ _ _ :: _) _ _); have hq := hxg; refine st_string T.bytes T.u8 T.str hf11.view ?_)
      | ((with_reducible show wpList _ _ _ (Oper.mk _ (Op.convert _ _ _) _ _ _ _ :: _) _ _); refine st_string T.bytes T.u8 T.str (h.ext hxg) ?_))
    refine bodyPost_ret (rst_results2 rfl _ _ (w.heap.size) _ _ _ rfl ho6) rfl ?_
    exact ⟨_, rfl, BV.nil _, hxg.set3 (Nat.le_refl _) _ _ _⟩
end Go.Proofs.Ythlhhnkalknidaa
