/- What commit.Get computes: of a record that is not dead; of any. -/
import Derived.Test.YtdklpenpmeplfaaCmH
namespace Go.Proofs.Ytdklpenpmeplfaa
open Go.RowKit

set_option maxRecDepth 20000 in
set_option maxHeartbeats 1000000 in
theorem cgetP_any (d t : Int) (k : Bool) (key val : List UInt8) (w : World) (hl : key.length ≤ 1000) (hv : val.length ≤ 1000) :
    Calls Try.prog 14 #[recv ⟨d, t, k, key, false, val⟩] w fun e w' => e = .returned (.tuple #[cmv (getC ⟨d, t, k, key, false, val⟩).1, .int .i64 (getC ⟨d, t, k, key, false, val⟩).2]) ∧ Ext w w' := by
  have G1 := fun W => cput_any (readC ⟨d, t, k, key, false, val⟩) 0 W
  rw [getC_eq]
  simp only
  generalize hY : (layC (readC ⟨d, t, k, key, false, val⟩) 0 false).1 = Y at *
  generalize hE : (layC (readC ⟨d, t, k, key, false, val⟩) 0 false).2 = E at *
  clear hY hE
  unfold readC at *
  simp only [Bool.false_eq_true, if_false] at *
  have hfw := fixN_wrap (textR 32 (textR 20 ⟨key, 0⟩))
  obtain ⟨g, hg⟩ : ∃ g, textL 20 ⟨key, 0⟩ = g := ⟨_, rfl⟩
  obtain ⟨s, hs⟩ : ∃ s, textL 32 (textR 20 ⟨key, 0⟩) = s := ⟨_, rfl⟩
  obtain ⟨o, hO⟩ : ∃ o, numN ⟨val, 0⟩ = o := ⟨_, rfl⟩
  obtain ⟨i, hi⟩ : ∃ i, fixN (textR 32 (textR 20 ⟨key, 0⟩)) = i := ⟨_, rfl⟩
  have T1 := fun g1 W h => rtext_any g1 ⟨key, 0⟩ 20 W h
  have T2 := fun g1 W h => rtext_any g1 (textR 20 ⟨key, 0⟩) 32 W h
  have F1 := fun g1 W h => fixed1_any g1 (textR 32 (textR 20 ⟨key, 0⟩)) W h
  have N1 := fun g1 W h => num_any g1 ⟨val, 0⟩ W h
  rw [hO] at N1 G1
  rw [hg] at T1 G1
  rw [hs] at T2 G1
  rw [hi] at F1 G1 hfw
  rw [hg, hs, hi, hO]
  clear hg hs hi hO
  have HL := Lib.hid hl
  have HV := Lib.hid hv
  clear hl hv
  obtain ⟨oR, oZ, hx0, hsz⟩ := objs2 w 25 33 (recCells ⟨d, t, k, key, false, val⟩) (cmCells cm0)
  have HSZ := Lib.hid hsz
  clear hsz
  have b3 := oR.cell (j := 3) rfl
  by_cases hE : E = 0
  case neg =>
    have hb : (E != 0) = true := by rw [bne_iff_ne]; exact hE
    rw [getV'_bad hE]
    clear hE
    go_enter Try.func14, Try.ntmps14
    go_wp2_with (first
      | ((with_reducible show wpList _ _ _ (Oper.mk _ (Op.convert _ _ _) _ _ _ _ :: _) _ _); have hq := hr4; refine st_bytes2 T.bytes T.u8 T.str val (by have := HV.out; omega) ?_; intro c6 w6 hb6 hx6; simp only [World.size_alloc] at hb6)
      | ((with_reducible show wpList _ _ _ (Oper.mk _ (Op.convert _ _ _) _ _ _ _ :: _) _ _); refine st_bytes2 T.bytes T.u8 T.str key (by have := HL.out; omega) ?_; intro c1 w1 hb1 hx1; simp only [World.size_alloc] at hb1)
      | (go_at_call 34; have hq := hb6; refine (new_any _ val _ hb6 (by have := HV.out; omega)).mono ?_; rintro e w7 ⟨g2, rfl, hg7, hr7, hx7⟩; have HG2 := Lib.hid (Nat.le_trans hx6.size hg7); clear hg7)
      | (go_at_call 34; refine (new_any _ key _ hb1 (by have := HL.out; omega)).mono ?_; rintro e w2 ⟨g1, rfl, hg1, hr1, hx2⟩; have HG1 := Lib.hid (Nat.le_trans hx1.size hg1); clear hg1)
      | (go_at_call 35; have hq := hr2; refine (T2 g1 _ hr2).mono ?_; rintro e w4 ⟨rfl, hr3, hg3⟩)
      | (go_at_call 35; refine (T1 g1 _ hr1).mono ?_; rintro e w3 ⟨rfl, hr2, hg2⟩)
      | (go_at_call 36; refine (F1 g1 _ hr3).mono ?_; rintro e w5 ⟨rfl, hr4, hg4⟩
         have HXA := Lib.hid ((((hx1.trans hx2).grown hg2 HG1.out).grown hg3 HG1.out).grown hg4 HG1.out)
         have hxc := Ext.alloc w5 (.cells #[.string ⟨g.toArray⟩, .string ⟨s.toArray⟩, .int .i64 i, .int .i64 0] 33)
         have oC : ObjAt (w5.alloc (.cells #[.string ⟨g.toArray⟩, .string ⟨s.toArray⟩, .int .i64 i, .int .i64 0] 33)) w5.heap.size 33 (cmCells ⟨g, s, i, 0⟩) := heap_alloc_new w5 _
         have oR2 := (oR.ext HXA.out).ext hxc
         have oZ2 := (oZ.ext HXA.out).ext hxc
         have e4 := oR2.cell (j := 4) rfl
         have e5 := oR2.cell (j := 5) rfl
         have HXC := Lib.hid ((hx0.trans HXA.out).trans hxc)
         have HOC := Lib.hid oC.lt)
      | (go_at_call 37; refine (N1 g2 _ hr7).mono ?_; rintro e w8 ⟨rfl, hr8, hg8⟩
         have hx8 := (hx6.trans hx7).grown hg8 HG2.out
         have oC3 := oC.ext hx8
         have oR3 := oR2.ext hx8
         have oZ3 := oZ2.ext hx8
         have m3 := oC3.cell (j := 3) rfl
         have n3 := oC3.free 3
         have oC4 : ObjAt (w8.setCell ⟨w5.heap.size, 3, none⟩ (.int .i64 o)) w5.heap.size 33 (cmCells ⟨g, s, i, o⟩) := oC3.store 3 (.int .i64 o)
         have oR4 := oR3.far (p := ⟨w5.heap.size, 3, none⟩) (by have h1 := Nat.lt_of_lt_of_le oR.lt HXA.out.size; simp only [ne_eq]; omega) (.int .i64 o)
         have oZ4 := oZ3.far (p := ⟨w5.heap.size, 3, none⟩) (by have h1 := Nat.lt_of_lt_of_le oZ.lt HXA.out.size; simp only [ne_eq]; omega) (.int .i64 o)
         have q0 := oC4.cell (j := 0) rfl
         have q1 := oC4.cell (j := 1) rfl
         have q2 := oC4.cell (j := 2) rfl
         have q3 := oC4.cell (j := 3) rfl
         have HXE := Lib.hid ((HXC.out.trans hx8).grown (grown_set w8 ⟨w5.heap.size, 3, none⟩ (.int .i64 o)) (Nat.le_trans hx0.size HXA.out.size)))
      | (go_at_call 10; refine (G1 _).mono ?_; rintro e w9 ⟨rfl, hx9⟩
         obtain ⟨z0, f0, z1, f1, oR8, oY8, oC8, oZ8, gr8⟩ := gotF (oR4.ext hx9) (oZ4.ext hx9) (oC4.ext hx9) (by have h1 := Nat.lt_of_lt_of_le oR.lt HXA.out.size; omega) Y
         have r0 : _ = some (Value.int .i64 0) := oR8.cell (j := 0) rfl
         have r1 : _ = some (Value.int .i64 0) := oR8.cell (j := 1) rfl
         have r2 : _ = some (Value.bool k) := oR8.cell (j := 2) rfl
         have r3 : _ = some (Value.string ⟨key.toArray⟩) := oR8.cell (j := 3) rfl
         have r4 : _ = some (Value.bool false) := oR8.cell (j := 4) rfl
         have r5 : _ = some (Value.string ⟨val.toArray⟩) := oR8.cell (j := 5) rfl
         have y0 := oY8.cell (j := 0) rfl
         have y1 := oY8.cell (j := 1) rfl
         have y2 := oY8.cell (j := 2) rfl
         have y3 := oY8.cell (j := 3) rfl
         have y4 := oY8.cell (j := 4) rfl
         have y5 := oY8.cell (j := 5) rfl
         have c0 := oC8.cell (j := 0) rfl
         have c1 := oC8.cell (j := 1) rfl
         have c2 := oC8.cell (j := 2) rfl
         have c3 := oC8.cell (j := 3) rfl
         have HX8 := Lib.hid ((HXE.out.trans hx9).grown gr8 (Nat.le_refl _)))
      | ((with_reducible show wpList _ _ _ (Oper.mk _ (Op.binOp BinOp.neq 25 _ _ _) _ _ _ _ :: _) _ _); refine wpList_run rfl (run_neqRec rfl (c := Y) (d := ⟨0, 0, k, key, false, val⟩) rfl rfl _) ?_)
      | ((with_reducible show wpList _ _ _ (Oper.mk _ (Op.store _ _ _) _ _ _ _ :: _) _ _); refine st_put (vs := cmCells cm0) oZ8 T.cmSize rfl (cm_one _) ?_; intro wF oF hgF))

    refine bodyPost_ret (cm_results2 rfl _ _ (w.heap.size + 1) _ _ _ _ rfl oF) rfl ?_
    exact ⟨rfl, HX8.out.grown hgF (Nat.le_succ _)⟩
  have hb : (E != 0) = false := by rw [hE]; rfl
  cases hS : sameR Y ⟨0, 0, k, key, false, val⟩ with
  | false =>
    rw [getV'_off hS]
    clear hE
    go_enter Try.func14, Try.ntmps14
    go_wp2_with (first
      | ((with_reducible show wpList _ _ _ (Oper.mk _ (Op.convert _ _ _) _ _ _ _ :: _) _ _); have hq := hr4; refine st_bytes2 T.bytes T.u8 T.str val (by have := HV.out; omega) ?_; intro c6 w6 hb6 hx6; simp only [World.size_alloc] at hb6)
      | ((with_reducible show wpList _ _ _ (Oper.mk _ (Op.convert _ _ _) _ _ _ _ :: _) _ _); refine st_bytes2 T.bytes T.u8 T.str key (by have := HL.out; omega) ?_; intro c1 w1 hb1 hx1; simp only [World.size_alloc] at hb1)
      | (go_at_call 34; have hq := hb6; refine (new_any _ val _ hb6 (by have := HV.out; omega)).mono ?_; rintro e w7 ⟨g2, rfl, hg7, hr7, hx7⟩; have HG2 := Lib.hid (Nat.le_trans hx6.size hg7); clear hg7)
      | (go_at_call 34; refine (new_any _ key _ hb1 (by have := HL.out; omega)).mono ?_; rintro e w2 ⟨g1, rfl, hg1, hr1, hx2⟩; have HG1 := Lib.hid (Nat.le_trans hx1.size hg1); clear hg1)
      | (go_at_call 35; have hq := hr2; refine (T2 g1 _ hr2).mono ?_; rintro e w4 ⟨rfl, hr3, hg3⟩)
      | (go_at_call 35; refine (T1 g1 _ hr1).mono ?_; rintro e w3 ⟨rfl, hr2, hg2⟩)
      | (go_at_call 36; refine (F1 g1 _ hr3).mono ?_; rintro e w5 ⟨rfl, hr4, hg4⟩
         have HXA := Lib.hid ((((hx1.trans hx2).grown hg2 HG1.out).grown hg3 HG1.out).grown hg4 HG1.out)
         have hxc := Ext.alloc w5 (.cells #[.string ⟨g.toArray⟩, .string ⟨s.toArray⟩, .int .i64 i, .int .i64 0] 33)
         have oC : ObjAt (w5.alloc (.cells #[.string ⟨g.toArray⟩, .string ⟨s.toArray⟩, .int .i64 i, .int .i64 0] 33)) w5.heap.size 33 (cmCells ⟨g, s, i, 0⟩) := heap_alloc_new w5 _
         have oR2 := (oR.ext HXA.out).ext hxc
         have oZ2 := (oZ.ext HXA.out).ext hxc
         have e4 := oR2.cell (j := 4) rfl
         have e5 := oR2.cell (j := 5) rfl
         have HXC := Lib.hid ((hx0.trans HXA.out).trans hxc)
         have HOC := Lib.hid oC.lt)
      | (go_at_call 37; refine (N1 g2 _ hr7).mono ?_; rintro e w8 ⟨rfl, hr8, hg8⟩
         have hx8 := (hx6.trans hx7).grown hg8 HG2.out
         have oC3 := oC.ext hx8
         have oR3 := oR2.ext hx8
         have oZ3 := oZ2.ext hx8
         have m3 := oC3.cell (j := 3) rfl
         have n3 := oC3.free 3
         have oC4 : ObjAt (w8.setCell ⟨w5.heap.size, 3, none⟩ (.int .i64 o)) w5.heap.size 33 (cmCells ⟨g, s, i, o⟩) := oC3.store 3 (.int .i64 o)
         have oR4 := oR3.far (p := ⟨w5.heap.size, 3, none⟩) (by have h1 := Nat.lt_of_lt_of_le oR.lt HXA.out.size; simp only [ne_eq]; omega) (.int .i64 o)
         have oZ4 := oZ3.far (p := ⟨w5.heap.size, 3, none⟩) (by have h1 := Nat.lt_of_lt_of_le oZ.lt HXA.out.size; simp only [ne_eq]; omega) (.int .i64 o)
         have q0 := oC4.cell (j := 0) rfl
         have q1 := oC4.cell (j := 1) rfl
         have q2 := oC4.cell (j := 2) rfl
         have q3 := oC4.cell (j := 3) rfl
         have HXE := Lib.hid ((HXC.out.trans hx8).grown (grown_set w8 ⟨w5.heap.size, 3, none⟩ (.int .i64 o)) (Nat.le_trans hx0.size HXA.out.size)))
      | (go_at_call 10; refine (G1 _).mono ?_; rintro e w9 ⟨rfl, hx9⟩
         obtain ⟨z0, f0, z1, f1, oR8, oY8, oC8, oZ8, gr8⟩ := gotF (oR4.ext hx9) (oZ4.ext hx9) (oC4.ext hx9) (by have h1 := Nat.lt_of_lt_of_le oR.lt HXA.out.size; omega) Y
         have r0 : _ = some (Value.int .i64 0) := oR8.cell (j := 0) rfl
         have r1 : _ = some (Value.int .i64 0) := oR8.cell (j := 1) rfl
         have r2 : _ = some (Value.bool k) := oR8.cell (j := 2) rfl
         have r3 : _ = some (Value.string ⟨key.toArray⟩) := oR8.cell (j := 3) rfl
         have r4 : _ = some (Value.bool false) := oR8.cell (j := 4) rfl
         have r5 : _ = some (Value.string ⟨val.toArray⟩) := oR8.cell (j := 5) rfl
         have y0 := oY8.cell (j := 0) rfl
         have y1 := oY8.cell (j := 1) rfl
         have y2 := oY8.cell (j := 2) rfl
         have y3 := oY8.cell (j := 3) rfl
         have y4 := oY8.cell (j := 4) rfl
         have y5 := oY8.cell (j := 5) rfl
         have c0 := oC8.cell (j := 0) rfl
         have c1 := oC8.cell (j := 1) rfl
         have c2 := oC8.cell (j := 2) rfl
         have c3 := oC8.cell (j := 3) rfl
         have HX8 := Lib.hid ((HXE.out.trans hx9).grown gr8 (Nat.le_refl _)))
      | ((with_reducible show wpList _ _ _ (Oper.mk _ (Op.binOp BinOp.neq 25 _ _ _) _ _ _ _ :: _) _ _); refine wpList_run rfl (run_neqRec rfl (c := Y) (d := ⟨0, 0, k, key, false, val⟩) rfl rfl _) ?_)
      | ((with_reducible show wpList _ _ _ (Oper.mk _ (Op.store _ _ _) _ _ _ _ :: _) _ _); refine st_put (vs := cmCells cm0) oZ8 T.cmSize rfl (cm_one _) ?_; intro wF oF hgF))

    refine bodyPost_ret (cm_results2 rfl _ _ (w.heap.size + 1) _ _ _ _ rfl oF) rfl ?_
    exact ⟨rfl, HX8.out.grown hgF (Nat.le_succ _)⟩
  | true =>
    rw [getV'_ok hE hS]
    clear hE
    go_enter Try.func14, Try.ntmps14
    go_wp2_with (first
      | ((with_reducible show wpList _ _ _ (Oper.mk _ (Op.convert _ _ _) _ _ _ _ :: _) _ _); have hq := hr4; refine st_bytes2 T.bytes T.u8 T.str val (by have := HV.out; omega) ?_; intro c6 w6 hb6 hx6; simp only [World.size_alloc] at hb6)
      | ((with_reducible show wpList _ _ _ (Oper.mk _ (Op.convert _ _ _) _ _ _ _ :: _) _ _); refine st_bytes2 T.bytes T.u8 T.str key (by have := HL.out; omega) ?_; intro c1 w1 hb1 hx1; simp only [World.size_alloc] at hb1)
      | (go_at_call 34; have hq := hb6; refine (new_any _ val _ hb6 (by have := HV.out; omega)).mono ?_; rintro e w7 ⟨g2, rfl, hg7, hr7, hx7⟩; have HG2 := Lib.hid (Nat.le_trans hx6.size hg7); clear hg7)
      | (go_at_call 34; refine (new_any _ key _ hb1 (by have := HL.out; omega)).mono ?_; rintro e w2 ⟨g1, rfl, hg1, hr1, hx2⟩; have HG1 := Lib.hid (Nat.le_trans hx1.size hg1); clear hg1)
      | (go_at_call 35; have hq := hr2; refine (T2 g1 _ hr2).mono ?_; rintro e w4 ⟨rfl, hr3, hg3⟩)
      | (go_at_call 35; refine (T1 g1 _ hr1).mono ?_; rintro e w3 ⟨rfl, hr2, hg2⟩)
      | (go_at_call 36; refine (F1 g1 _ hr3).mono ?_; rintro e w5 ⟨rfl, hr4, hg4⟩
         have HXA := Lib.hid ((((hx1.trans hx2).grown hg2 HG1.out).grown hg3 HG1.out).grown hg4 HG1.out)
         have hxc := Ext.alloc w5 (.cells #[.string ⟨g.toArray⟩, .string ⟨s.toArray⟩, .int .i64 i, .int .i64 0] 33)
         have oC : ObjAt (w5.alloc (.cells #[.string ⟨g.toArray⟩, .string ⟨s.toArray⟩, .int .i64 i, .int .i64 0] 33)) w5.heap.size 33 (cmCells ⟨g, s, i, 0⟩) := heap_alloc_new w5 _
         have oR2 := (oR.ext HXA.out).ext hxc
         have oZ2 := (oZ.ext HXA.out).ext hxc
         have e4 := oR2.cell (j := 4) rfl
         have e5 := oR2.cell (j := 5) rfl
         have HXC := Lib.hid ((hx0.trans HXA.out).trans hxc)
         have HOC := Lib.hid oC.lt)
      | (go_at_call 37; refine (N1 g2 _ hr7).mono ?_; rintro e w8 ⟨rfl, hr8, hg8⟩
         have hx8 := (hx6.trans hx7).grown hg8 HG2.out
         have oC3 := oC.ext hx8
         have oR3 := oR2.ext hx8
         have oZ3 := oZ2.ext hx8
         have m3 := oC3.cell (j := 3) rfl
         have n3 := oC3.free 3
         have oC4 : ObjAt (w8.setCell ⟨w5.heap.size, 3, none⟩ (.int .i64 o)) w5.heap.size 33 (cmCells ⟨g, s, i, o⟩) := oC3.store 3 (.int .i64 o)
         have oR4 := oR3.far (p := ⟨w5.heap.size, 3, none⟩) (by have h1 := Nat.lt_of_lt_of_le oR.lt HXA.out.size; simp only [ne_eq]; omega) (.int .i64 o)
         have oZ4 := oZ3.far (p := ⟨w5.heap.size, 3, none⟩) (by have h1 := Nat.lt_of_lt_of_le oZ.lt HXA.out.size; simp only [ne_eq]; omega) (.int .i64 o)
         have q0 := oC4.cell (j := 0) rfl
         have q1 := oC4.cell (j := 1) rfl
         have q2 := oC4.cell (j := 2) rfl
         have q3 := oC4.cell (j := 3) rfl
         have HXE := Lib.hid ((HXC.out.trans hx8).grown (grown_set w8 ⟨w5.heap.size, 3, none⟩ (.int .i64 o)) (Nat.le_trans hx0.size HXA.out.size)))
      | (go_at_call 10; refine (G1 _).mono ?_; rintro e w9 ⟨rfl, hx9⟩
         obtain ⟨z0, f0, z1, f1, oR8, oY8, oC8, oZ8, gr8⟩ := gotF (oR4.ext hx9) (oZ4.ext hx9) (oC4.ext hx9) (by have h1 := Nat.lt_of_lt_of_le oR.lt HXA.out.size; omega) Y
         have r0 : _ = some (Value.int .i64 0) := oR8.cell (j := 0) rfl
         have r1 : _ = some (Value.int .i64 0) := oR8.cell (j := 1) rfl
         have r2 : _ = some (Value.bool k) := oR8.cell (j := 2) rfl
         have r3 : _ = some (Value.string ⟨key.toArray⟩) := oR8.cell (j := 3) rfl
         have r4 : _ = some (Value.bool false) := oR8.cell (j := 4) rfl
         have r5 : _ = some (Value.string ⟨val.toArray⟩) := oR8.cell (j := 5) rfl
         have y0 := oY8.cell (j := 0) rfl
         have y1 := oY8.cell (j := 1) rfl
         have y2 := oY8.cell (j := 2) rfl
         have y3 := oY8.cell (j := 3) rfl
         have y4 := oY8.cell (j := 4) rfl
         have y5 := oY8.cell (j := 5) rfl
         have c0 := oC8.cell (j := 0) rfl
         have c1 := oC8.cell (j := 1) rfl
         have c2 := oC8.cell (j := 2) rfl
         have c3 := oC8.cell (j := 3) rfl
         have HX8 := Lib.hid ((HXE.out.trans hx9).grown gr8 (Nat.le_refl _)))
      | ((with_reducible show wpList _ _ _ (Oper.mk _ (Op.binOp BinOp.neq 25 _ _ _) _ _ _ _ :: _) _ _); refine wpList_run rfl (run_neqRec rfl (c := Y) (d := ⟨0, 0, k, key, false, val⟩) rfl rfl _) ?_)
      | ((with_reducible show wpList _ _ _ (Oper.mk _ (Op.store _ _ _) _ _ _ _ :: _) _ _); refine st_put (vs := cmCells ⟨g, s, i, o⟩) oZ8 T.cmSize rfl (cm_one _) ?_; intro wF oF hgF))

    refine bodyPost_ret (cm_results2 rfl _ _ (w.heap.size + 1) _ _ _ _ rfl oF) rfl ?_
    exact ⟨rfl, HX8.out.grown hgF (Nat.le_succ _)⟩
theorem cget_any (r : Rec) (w : World) (hl : r.key.length ≤ 1000) (hv : r.value.length ≤ 1000) :
    Calls Try.prog 14 #[recv r] w fun e w' => e = .returned (.tuple #[cmv (getC r).1, .int .i64 (getC r).2]) ∧ Ext w w' := by
  obtain ⟨d, t, k, key, z, val⟩ := r
  cases z with
  | true => exact cgetD_any d t k key val w hl
  | false => exact cgetP_any d t k key val w hl hv
end Go.Proofs.Ytdklpenpmeplfaa
