/- CommitPuts: a commit's records, and what a record says, are as the document says. -/
import Derived.Test.YtdklpenpmeplfaaAwake21
namespace Go.Proofs.Ytdklpenpmeplfaa
open Go.RowKit

theorem run_reqlCm1 {o : Oper} {a : Act} {x y : Operand} {ty : TypeId} (ho : o.op = .binOp .eql 23 x y ty) {c : Cm} (hx : a.eval x = cmv c) (hy : a.eval y = cmv c) (W : World) :
    (execOp a.eval o).run Try.prog W = .ok (.value (.bool true)) W := by
  rw [run_reqlCm ho hx hy, eqC_refl]
theorem cm_lit1 (c : Cm) (t : TypeId) (w : World) : CmV (w.alloc (.cells #[.string ⟨c.group.toArray⟩, .string ⟨c.topic.toArray⟩, .int .i64 c.index, .int .i64 c.offset] t)) (.slice (some ⟨w.heap.size, 0, none⟩) 1 1) [c] :=
  SRow.lit1 (cs := cmCells c) rfl (cm_one c) (fun _ _ => rfl)
set_option maxRecDepth 20000 in
set_option maxHeartbeats 2000000 in
theorem commitPuts_walk (c : Cm) (time : Int) (x : Rec) (w : World) (_ : -9223372036854775808 ≤ time ∧ time ≤ 9223372036854775807) :
    Calls Try.prog 3 #[cmv c, .int .i64 time, recv x] w fun e w' => e = .returned (.bool true) ∧ Below w.heap.size w w' := by
  obtain ⟨oc, ox, hx0, hsz⟩ := objs2 w 23 25 (cmCells c) (recCells x)
  obtain ⟨w0, hw0⟩ : ∃ w0, w0 = (w.alloc (.cells (cmCells c).toArray 23)).alloc (.cells (recCells x).toArray 25) := ⟨_, rfl⟩
  have L0 := cm_lit1 c 23 w0
  have L1 := rlightC_any _ [c] _ L0
  have L2 := fun W => rlight_any x W
  have hxl := Ext.alloc w0 (.cells #[.string ⟨c.group.toArray⟩, .string ⟨c.topic.toArray⟩, .int .i64 c.index, .int .i64 c.offset] 23)
  have a0 := oc.cell (j := 0) rfl
  have a1 := oc.cell (j := 1) rfl
  have a2 := oc.cell (j := 2) rfl
  have a3 := oc.cell (j := 3) rfl
  have HX0 := Lib.hid hx0
  have HSZ := Lib.hid hsz
  have hsz2 : w0.heap.size = w.heap.size + 2 := by rw [hw0]; exact hsz
  rw [hsz2] at L1
  rw [hw0] at L1 hxl
  have HXL := Lib.hid hxl
  have HOX := Lib.hid (ox.ext hxl)
  have HOC := Lib.hid (oc.ext hxl)
  clear L0 hw0 hsz hsz2 hx0 oc ox hxl
  cases hl1 : lightC [c] with
  | false =>
    rw [hl1] at L1
    clear hl1
    go_enter Try.func3, Try.ntmps3
    go_wp2_with (first
      | (go_at_call 7; refine L1.mono ?_; rintro e w1 ⟨rfl, hx1⟩)
      | (go_at_call 9; refine (awake_any _).mono ?_; rintro e w3 ⟨rfl, hx3⟩))
    go_ret
    exact ⟨rfl, ((HX0.out.trans HXL.out).trans hx1).trans hx3⟩
  | true =>
    rw [hl1] at L1
    clear hl1
    cases hl2 : lightR x with
    | false =>
      rw [hl2] at L2
      clear hl2
      go_enter Try.func3, Try.ntmps3
      go_wp2_with (first
        | (go_at_call 7; refine L1.mono ?_; rintro e w1 ⟨rfl, hx1⟩
           have ox1 := HOX.out.ext hx1
           have b0 := ox1.cell (j := 0) rfl
           have b1 := ox1.cell (j := 1) rfl
           have b2 := ox1.cell (j := 2) rfl
           have b3 := ox1.cell (j := 3) rfl
           have b4 := ox1.cell (j := 4) rfl
           have b5 := ox1.cell (j := 5) rfl)
        | (go_at_call 8; refine (L2 _).mono ?_; rintro e w2 ⟨rfl, hx2⟩)
        | (go_at_call 9; refine (awake_any _).mono ?_; rintro e w3 ⟨rfl, hx3⟩))
      go_ret
      exact ⟨rfl, (((HX0.out.trans HXL.out).trans hx1).trans hx2).trans hx3⟩
    | true =>
      rw [hl2] at L2
      have hlr : x.key.length ≤ 200 ∧ x.value.length ≤ 700 := by
        unfold lightR at hl2
        simpa using hl2
      have P1 := fun W => cput_any c time W
      have P2 := fun W => rput21_any c time W
      have G1 := fun W => gone_any c time W
      have G2 := fun W => rgone_any c time W
      have K1 := fun W => cget_any x W (by omega) (by omega)
      have K2 := fun W => rgetC_any x W (by omega) (by omega)
      have C1 := fun W => check_any c W
      have C2 := fun W => rcheck_any c W
      generalize (layC c time false).1 = R1 at *
      generalize (layC c time false).2 = E1 at *
      generalize (layC c time true).1 = R2 at *
      generalize (layC c time true).2 = E2 at *
      generalize (getC x).1 = D at *
      generalize (getC x).2 = E3 at *
      generalize checkC c = Z at *
      have S1 := fun W => (by have := rsame_any R1 R1 W; rw [sameR_refl] at this; exact this : Calls Try.prog 16 #[recv R1, recv R1] W fun e w' => e = .returned (.bool true) ∧ Ext W w')
      have S2 := fun W => (by have := rsame_any R2 R2 W; rw [sameR_refl] at this; exact this : Calls Try.prog 16 #[recv R2, recv R2] W fun e w' => e = .returned (.bool true) ∧ Ext W w')
      clear hl2 hlr
      have k1 : (E1 == E1) = true := by simp
      have k2 : (E2 == E2) = true := by simp
      have k3 : (E3 == E3) = true := by simp
      have kz : (Z == Z) = true := by simp
      go_enter Try.func3, Try.ntmps3
      go_wp2_with (first
        | (go_at_call 7; refine L1.mono ?_; rintro e w1 ⟨rfl, hx1⟩
           have ox1 := HOX.out.ext hx1
           have oc1 := HOC.out.ext hx1
           have b0 := ox1.cell (j := 0) rfl
           have b1 := ox1.cell (j := 1) rfl
           have b2 := ox1.cell (j := 2) rfl
           have b3 := ox1.cell (j := 3) rfl
           have b4 := ox1.cell (j := 4) rfl
           have b5 := ox1.cell (j := 5) rfl)
        | (go_at_call 8; refine (L2 _).mono ?_; rintro e w2 ⟨rfl, hx2⟩
           have HX2 := Lib.hid (((HX0.out.trans HXL.out).trans hx1).trans hx2)
           have ox2 := ox1.ext hx2
           have oc2 := oc1.ext hx2
           have c0 := oc2.cell (j := 0) rfl
           have c1 := oc2.cell (j := 1) rfl
           have c2 := oc2.cell (j := 2) rfl
           have c3 := oc2.cell (j := 3) rfl)
        | (go_at_call 10; refine (P1 _).mono ?_; rintro e w3 ⟨rfl, hx3⟩
           have hxa3 := hx3.trans (Ext.alloc w3 (.cells #[.int .i64 R1.delta, .int .i64 R1.time, .bool R1.keyed, .string ⟨R1.key.toArray⟩, .bool R1.dead, .string ⟨R1.value.toArray⟩] 25))
           have o3 : ObjAt (w3.alloc (.cells #[.int .i64 R1.delta, .int .i64 R1.time, .bool R1.keyed, .string ⟨R1.key.toArray⟩, .bool R1.dead, .string ⟨R1.value.toArray⟩] 25)) w3.heap.size 25 (recCells R1) := heap_alloc_new w3 _
           have oc3 := oc2.ext hxa3
           have d0 := oc3.cell (j := 0) rfl
           have d1 := oc3.cell (j := 1) rfl
           have d2 := oc3.cell (j := 2) rfl
           have d3 := oc3.cell (j := 3) rfl)
        | (go_at_call 11; refine (P2 _).mono ?_; rintro e w4 ⟨rfl, hx4⟩
           have hxa4 := hx4.trans (Ext.alloc w4 (.cells #[.int .i64 R1.delta, .int .i64 R1.time, .bool R1.keyed, .string ⟨R1.key.toArray⟩, .bool R1.dead, .string ⟨R1.value.toArray⟩] 25))
           have o4 : ObjAt (w4.alloc (.cells #[.int .i64 R1.delta, .int .i64 R1.time, .bool R1.keyed, .string ⟨R1.key.toArray⟩, .bool R1.dead, .string ⟨R1.value.toArray⟩] 25)) w4.heap.size 25 (recCells R1) := heap_alloc_new w4 _
           have oc4 := oc3.ext hxa4
           have e0 := oc4.cell (j := 0) rfl
           have e1 := oc4.cell (j := 1) rfl
           have e2 := oc4.cell (j := 2) rfl
           have e3 := oc4.cell (j := 3) rfl)
        | (go_at_call 12; refine (G1 _).mono ?_; rintro e w5 ⟨rfl, hx5⟩
           have hxa5 := hx5.trans (Ext.alloc w5 (.cells #[.int .i64 R2.delta, .int .i64 R2.time, .bool R2.keyed, .string ⟨R2.key.toArray⟩, .bool R2.dead, .string ⟨R2.value.toArray⟩] 25))
           have o5 : ObjAt (w5.alloc (.cells #[.int .i64 R2.delta, .int .i64 R2.time, .bool R2.keyed, .string ⟨R2.key.toArray⟩, .bool R2.dead, .string ⟨R2.value.toArray⟩] 25)) w5.heap.size 25 (recCells R2) := heap_alloc_new w5 _
           have oc5 := oc4.ext hxa5
           have f0 := oc5.cell (j := 0) rfl
           have f1 := oc5.cell (j := 1) rfl
           have f2 := oc5.cell (j := 2) rfl
           have f3 := oc5.cell (j := 3) rfl)
        | (go_at_call 13; refine (G2 _).mono ?_; rintro e w6 ⟨rfl, hx6⟩
           have hxa6 := hx6.trans (Ext.alloc w6 (.cells #[.int .i64 R2.delta, .int .i64 R2.time, .bool R2.keyed, .string ⟨R2.key.toArray⟩, .bool R2.dead, .string ⟨R2.value.toArray⟩] 25))
           have o6 : ObjAt (w6.alloc (.cells #[.int .i64 R2.delta, .int .i64 R2.time, .bool R2.keyed, .string ⟨R2.key.toArray⟩, .bool R2.dead, .string ⟨R2.value.toArray⟩] 25)) w6.heap.size 25 (recCells R2) := heap_alloc_new w6 _
           have hx26 := ((hxa3.trans hxa4).trans hxa5).trans hxa6
           have ox6 := ox2.ext hx26
           have HX6 := Lib.hid (HX2.out.trans hx26)
           have HXS := Lib.hid hx26
           have g0 := ox6.cell (j := 0) rfl
           have g1 := ox6.cell (j := 1) rfl
           have g2 := ox6.cell (j := 2) rfl
           have g3 := ox6.cell (j := 3) rfl
           have g4 := ox6.cell (j := 4) rfl
           have g5 := ox6.cell (j := 5) rfl
           clear hx26)
        | (go_at_call 14; refine (K1 _).mono ?_; rintro e w7 ⟨rfl, hx7⟩
           have hxa7 := hx7.trans (Ext.alloc w7 (.cells #[.string ⟨D.group.toArray⟩, .string ⟨D.topic.toArray⟩, .int .i64 D.index, .int .i64 D.offset] 33))
           have o7 : ObjAt (w7.alloc (.cells #[.string ⟨D.group.toArray⟩, .string ⟨D.topic.toArray⟩, .int .i64 D.index, .int .i64 D.offset] 33)) w7.heap.size 33 (cmCells D) := heap_alloc_new w7 _
           have ox7 := ox6.ext hxa7
           have i0 := ox7.cell (j := 0) rfl
           have i1 := ox7.cell (j := 1) rfl
           have i2 := ox7.cell (j := 2) rfl
           have i3 := ox7.cell (j := 3) rfl
           have i4 := ox7.cell (j := 4) rfl
           have i5 := ox7.cell (j := 5) rfl)
        | (go_at_call 15; refine (K2 _).mono ?_; rintro e w8 ⟨rfl, hx8⟩
           have hxa8 := hx8.trans (Ext.alloc w8 (.cells #[.string ⟨D.group.toArray⟩, .string ⟨D.topic.toArray⟩, .int .i64 D.index, .int .i64 D.offset] 23))
           have o8 : ObjAt (w8.alloc (.cells #[.string ⟨D.group.toArray⟩, .string ⟨D.topic.toArray⟩, .int .i64 D.index, .int .i64 D.offset] 23)) w8.heap.size 23 (cmCells D) := heap_alloc_new w8 _))
      have h67 := hxa7.trans hxa8
      have h57 := hxa6.trans h67
      have h47 := hxa5.trans h57
      have h37 := hxa4.trans h47
      have q3 := o3.ext h37
      have q4 := o4.ext h47
      have q5 := o5.ext h57
      have q6 := o6.ext h67
      have q7 := o7.ext hxa8
      have qc := oc3.ext h37
      have HXF := Lib.hid ((HX6.out.trans hxa7).trans hxa8)
      clear h67 h57 h47 h37
      apply wp_region_dag (X := Ext) (by kernel_rfl) (by kernel_rfl) (fun _ _ _ => Ext.trans) (Ext.drew1 _)
      apply dag_val Ext.refl rfl (by intro W hW H; have t0 := hW.cell (q3.cell (j := 0) rfl); have t1 := hW.cell (q3.cell (j := 1) rfl); have t2 := hW.cell (q3.cell (j := 2) rfl); have t3 := hW.cell (q3.cell (j := 3) rfl); have t4 := hW.cell (q3.cell (j := 4) rfl); have t5 := hW.cell (q3.cell (j := 5) rfl); go_simp <;> rfl)
      simp only [Act.put, List.setIfInBounds_toArray, List.set_cons_zero, List.set_cons_succ]
      apply dag_val Ext.refl rfl (by intro W hW H; have t0 := hW.cell (q4.cell (j := 0) rfl); have t1 := hW.cell (q4.cell (j := 1) rfl); have t2 := hW.cell (q4.cell (j := 2) rfl); have t3 := hW.cell (q4.cell (j := 3) rfl); have t4 := hW.cell (q4.cell (j := 4) rfl); have t5 := hW.cell (q4.cell (j := 5) rfl); go_simp <;> rfl)
      simp only [Act.put, List.setIfInBounds_toArray, List.set_cons_zero, List.set_cons_succ]
      refine' dag_call (c := .bool true) (f := 16) (args := #[recv R1, recv R1]) rfl (by intro W; go_simp <;> rfl) (fun W hW H => S1 W) _
      rotate_left
      simp only [Act.put, List.setIfInBounds_toArray, List.set_cons_zero, List.set_cons_succ]
      apply dag_val Ext.refl rfl (by intro W hW H; go_simp <;> rfl)
      simp only [Act.put, List.setIfInBounds_toArray, List.set_cons_zero, List.set_cons_succ]
      apply dag_val Ext.refl rfl (by intro W hW H; go_simp <;> rfl)
      simp only [Act.put, List.setIfInBounds_toArray, List.set_cons_zero, List.set_cons_succ]
      apply dag_val Ext.refl rfl (by intro W hW H; go_simp <;> rfl)
      simp only [Act.put, List.setIfInBounds_toArray, List.set_cons_zero, List.set_cons_succ]
      apply dag_val Ext.refl rfl (by intro W hW H; go_simp <;> rfl)
      simp only [Act.put, List.setIfInBounds_toArray, List.set_cons_zero, List.set_cons_succ]
      apply dag_val Ext.refl rfl (by intro W hW H; go_simp <;> rfl)
      simp only [Act.put, List.setIfInBounds_toArray, List.set_cons_zero, List.set_cons_succ]
      apply dag_val Ext.refl rfl (by intro W hW H; go_simp <;> rfl)
      simp only [Act.put, List.setIfInBounds_toArray, List.set_cons_zero, List.set_cons_succ]
      apply dag_val Ext.refl rfl (by intro W hW H; have t0 := hW.cell (q5.cell (j := 0) rfl); have t1 := hW.cell (q5.cell (j := 1) rfl); have t2 := hW.cell (q5.cell (j := 2) rfl); have t3 := hW.cell (q5.cell (j := 3) rfl); have t4 := hW.cell (q5.cell (j := 4) rfl); have t5 := hW.cell (q5.cell (j := 5) rfl); go_simp <;> rfl)
      simp only [Act.put, List.setIfInBounds_toArray, List.set_cons_zero, List.set_cons_succ]
      apply dag_val Ext.refl rfl (by intro W hW H; have t0 := hW.cell (q6.cell (j := 0) rfl); have t1 := hW.cell (q6.cell (j := 1) rfl); have t2 := hW.cell (q6.cell (j := 2) rfl); have t3 := hW.cell (q6.cell (j := 3) rfl); have t4 := hW.cell (q6.cell (j := 4) rfl); have t5 := hW.cell (q6.cell (j := 5) rfl); go_simp <;> rfl)
      simp only [Act.put, List.setIfInBounds_toArray, List.set_cons_zero, List.set_cons_succ]
      refine' dag_call (c := .bool true) (f := 16) (args := #[recv R2, recv R2]) rfl (by intro W; go_simp <;> rfl) (fun W hW H => S2 W) _
      rotate_left
      simp only [Act.put, List.setIfInBounds_toArray, List.set_cons_zero, List.set_cons_succ]
      apply dag_val Ext.refl rfl (by intro W hW H; go_simp <;> rfl)
      simp only [Act.put, List.setIfInBounds_toArray, List.set_cons_zero, List.set_cons_succ]
      apply dag_val Ext.refl rfl (by intro W hW H; go_simp <;> rfl)
      simp only [Act.put, List.setIfInBounds_toArray, List.set_cons_zero, List.set_cons_succ]
      apply dag_val Ext.refl rfl (by intro W hW H; go_simp <;> rfl)
      simp only [Act.put, List.setIfInBounds_toArray, List.set_cons_zero, List.set_cons_succ]
      apply dag_val Ext.refl rfl (by intro W hW H; go_simp <;> rfl)
      simp only [Act.put, List.setIfInBounds_toArray, List.set_cons_zero, List.set_cons_succ]
      apply dag_val Ext.refl rfl (by intro W hW H; go_simp <;> rfl)
      simp only [Act.put, List.setIfInBounds_toArray, List.set_cons_zero, List.set_cons_succ]
      apply dag_val Ext.refl rfl (by intro W hW H; go_simp <;> rfl)
      simp only [Act.put, List.setIfInBounds_toArray, List.set_cons_zero, List.set_cons_succ]
      apply dag_val Ext.refl rfl (by intro W hW H; go_simp <;> rfl)
      simp only [Act.put, List.setIfInBounds_toArray, List.set_cons_zero, List.set_cons_succ]
      apply dag_val Ext.refl rfl (by intro W hW H; have t0 := hW.cell (q7.cell (j := 0) rfl); have t1 := hW.cell (q7.cell (j := 1) rfl); have t2 := hW.cell (q7.cell (j := 2) rfl); have t3 := hW.cell (q7.cell (j := 3) rfl); go_simp <;> rfl)
      simp only [Act.put, List.setIfInBounds_toArray, List.set_cons_zero, List.set_cons_succ]
      apply dag_val Ext.refl rfl (by intro W hW H; have t0 := hW.cell (o8.cell (j := 0) rfl); have t1 := hW.cell (o8.cell (j := 1) rfl); have t2 := hW.cell (o8.cell (j := 2) rfl); have t3 := hW.cell (o8.cell (j := 3) rfl); go_simp <;> rfl)
      simp only [Act.put, List.setIfInBounds_toArray, List.set_cons_zero, List.set_cons_succ]
      refine' dag_val Ext.refl rfl (fun W hW H => run_reqlCm1 rfl (c := D) rfl rfl W) _
      rotate_left
      simp only [Act.put, List.setIfInBounds_toArray, List.set_cons_zero, List.set_cons_succ]
      apply dag_val Ext.refl rfl (by intro W hW H; go_simp <;> rfl)
      simp only [Act.put, List.setIfInBounds_toArray, List.set_cons_zero, List.set_cons_succ]
      apply dag_val Ext.refl rfl (by intro W hW H; go_simp <;> rfl)
      simp only [Act.put, List.setIfInBounds_toArray, List.set_cons_zero, List.set_cons_succ]
      apply dag_val Ext.refl rfl (by intro W hW H; go_simp <;> rfl)
      simp only [Act.put, List.setIfInBounds_toArray, List.set_cons_zero, List.set_cons_succ]
      apply dag_val Ext.refl rfl (by intro W hW H; go_simp <;> rfl)
      simp only [Act.put, List.setIfInBounds_toArray, List.set_cons_zero, List.set_cons_succ]
      apply dag_val Ext.refl rfl (by intro W hW H; go_simp <;> rfl)
      simp only [Act.put, List.setIfInBounds_toArray, List.set_cons_zero, List.set_cons_succ]
      apply dag_val Ext.refl rfl (by intro W hW H; go_simp <;> rfl)
      simp only [Act.put, List.setIfInBounds_toArray, List.set_cons_zero, List.set_cons_succ]
      apply dag_val Ext.refl rfl (by intro W hW H; go_simp <;> rfl)
      simp only [Act.put, List.setIfInBounds_toArray, List.set_cons_zero, List.set_cons_succ]
      apply dag_val Ext.refl rfl (by intro W hW H; have t0 := hW.cell (qc.cell (j := 0) rfl); have t1 := hW.cell (qc.cell (j := 1) rfl); have t2 := hW.cell (qc.cell (j := 2) rfl); have t3 := hW.cell (qc.cell (j := 3) rfl); go_simp <;> rfl)
      simp only [Act.put, List.setIfInBounds_toArray, List.set_cons_zero, List.set_cons_succ]
      refine' dag_call (c := .int .i64 Z) (f := 17) (args := #[cmv c]) rfl (by intro W; go_simp <;> rfl) (fun W hW H => C1 W) _
      rotate_left
      simp only [Act.put, List.setIfInBounds_toArray, List.set_cons_zero, List.set_cons_succ]
      apply dag_val Ext.refl rfl (by intro W hW H; have t0 := hW.cell (qc.cell (j := 0) rfl); have t1 := hW.cell (qc.cell (j := 1) rfl); have t2 := hW.cell (qc.cell (j := 2) rfl); have t3 := hW.cell (qc.cell (j := 3) rfl); go_simp <;> rfl)
      simp only [Act.put, List.setIfInBounds_toArray, List.set_cons_zero, List.set_cons_succ]
      refine' dag_call (c := .int .i64 Z) (f := 18) (args := #[cmv c]) rfl (by intro W; go_simp <;> rfl) (fun W hW H => C2 W) _
      rotate_left
      simp only [Act.put, List.setIfInBounds_toArray, List.set_cons_zero, List.set_cons_succ]
      apply dag_val Ext.refl rfl (by intro W hW H; go_simp <;> rfl)
      simp only [Act.put, List.setIfInBounds_toArray, List.set_cons_zero, List.set_cons_succ]
      apply dag_val Ext.refl rfl (by intro W hW H; go_simp <;> rfl)
      simp only [Act.put, List.setIfInBounds_toArray, List.set_cons_zero, List.set_cons_succ]
      apply dag_val Ext.refl rfl (by intro W hW H; go_simp <;> rfl)
      simp only [Act.put, List.setIfInBounds_toArray, List.set_cons_zero, List.set_cons_succ]
      refine' dag_call (c := .bool true) (f := 9) (args := #[]) rfl (by intro W; go_simp <;> rfl) (fun W hW H => awake_any W) _
      rotate_left
      simp only [Act.put, List.setIfInBounds_toArray, List.set_cons_zero, List.set_cons_succ]
      apply dag_val Ext.refl rfl (by intro W hW H; go_simp <;> rfl)
      simp only [Act.put, List.setIfInBounds_toArray, List.set_cons_zero, List.set_cons_succ]
      apply dag_val Ext.refl rfl (by intro W hW H; go_simp <;> rfl)
      simp only [Act.put, List.setIfInBounds_toArray, List.set_cons_zero, List.set_cons_succ]
      refine dag_end fun W hW H => ?_
      clear H
      go_wp2_with fail
      go_ret
      exact ⟨rfl, HXF.out.trans hW⟩
end Go.Proofs.Ytdklpenpmeplfaa
