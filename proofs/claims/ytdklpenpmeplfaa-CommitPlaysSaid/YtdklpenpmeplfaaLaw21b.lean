/- CommitPlays: what a batch makes of commits is as the document says. -/
import Derived.Test.YtdklpenpmeplfaaAwake21
namespace Go.Proofs.Ytdklpenpmeplfaa
open Go.RowKit

theorem CmV.stab (t : List Cm) : ∀ v W W', Ext W W' → CmV W v t → CmV W' v t := fun _ _ _ hx h => h.ext hx
set_option maxRecDepth 20000 in
set_option maxHeartbeats 2000000 in
theorem commitPlays_walk (v : Value) (l : List Cm) (b : Bat) (bv : Value) (ask : Cm) (w : World) (h : CmV w v l) (hb : RecV w bv b.recs) :
    Calls Try.prog 4 #[v, batv b bv, cmv ask] w fun e w' => e = .returned (.bool true) ∧ Below w.heap.size w w' := by
  obtain ⟨p, c, rfl, hn, hc⟩ := h.slice
  unfold maxLen at hc
  obtain ⟨b0, b1, b2, b3, b4, rs⟩ := b
  simp only at hb
  obtain ⟨bp, bc, rfl, hbn, hbc⟩ := hb.slice
  unfold maxLen at hbc
  obtain ⟨ob, oa, hx0, hsz⟩ := objs2 w 46 23 [.int .i64 b0, .int .i64 b1, .int .i64 b2, .int .i64 b3, .int .i64 b4, .slice bp rs.length bc] (cmCells ask)
  have L1 := fun W h => rlightC_any (.slice p l.length c) l W h
  have L2 := fun W h => rlightB_any ⟨b0, b1, b2, b3, b4, rs⟩ (.slice bp rs.length bc) W h
  have HX0 := Lib.hid hx0
  have HSZ := Lib.hid hsz
  have HB := Lib.hid hb
  have HH := Lib.hid h
  have x0 := ob.cell (j := 0) rfl
  have x1 := ob.cell (j := 1) rfl
  have x2 := ob.cell (j := 2) rfl
  have x3 := ob.cell (j := 3) rfl
  have x4 := ob.cell (j := 4) rfl
  have x5 := ob.cell (j := 5) rfl
  have HOB := Lib.hid ob
  have HOA := Lib.hid oa
  have hs1 : (ByteArray.mk ask.group.toArray).size = ask.group.length := text_size _
  have hs2 : (ByteArray.mk ask.topic.toArray).size = ask.topic.length := text_size _
  clear hx0 hsz hb h ob oa hbn hn
  cases hl1 : lightC l with
  | false =>
    rw [hl1] at L1
    clear hl1
    go_enter Try.func4, Try.ntmps4
    go_wp2_with (first
      | (go_at_call 7; refine (L1 _ (HH.out.ext HX0.out)).mono ?_; rintro e w1 ⟨rfl, hx1⟩)
      | (go_at_call 9; refine (awake_any _).mono ?_; rintro e w3 ⟨rfl, hx3⟩))
    go_ret
    exact ⟨rfl, (HX0.out.trans hx1).trans hx3⟩
  | true =>
  rw [hl1] at L1
  cases hl2 : lightB ⟨b0, b1, b2, b3, b4, rs⟩ with
  | false =>
    rw [hl2] at L2
    clear hl1 hl2
    go_enter Try.func4, Try.ntmps4
    go_wp2_with (first
      | (go_at_call 7; refine (L1 _ (HH.out.ext HX0.out)).mono ?_; rintro e w1 ⟨rfl, hx1⟩
         have y0 := hx1.cell x0
         have y1 := hx1.cell x1
         have y2 := hx1.cell x2
         have y3 := hx1.cell x3
         have y4 := hx1.cell x4
         have y5 := hx1.cell x5)
      | (go_at_call 19; refine (L2 _ (HB.out.ext (HX0.out.trans hx1))).mono ?_; rintro e w2 ⟨rfl, hx2⟩)
      | (go_at_call 9; refine (awake_any _).mono ?_; rintro e w3 ⟨rfl, hx3⟩))
    go_ret
    exact ⟨rfl, ((HX0.out.trans hx1).trans hx2).trans hx3⟩
  | true =>
  rw [hl2] at L2
  by_cases hg : (60 : Int) < (ask.group.length : Int)
  · clear hl1 hl2
    go_enter Try.func4, Try.ntmps4
    go_wp2_with (first
      | (go_at_call 7; refine (L1 _ (HH.out.ext HX0.out)).mono ?_; rintro e w1 ⟨rfl, hx1⟩
         have y0 := hx1.cell x0
         have y1 := hx1.cell x1
         have y2 := hx1.cell x2
         have y3 := hx1.cell x3
         have y4 := hx1.cell x4
         have y5 := hx1.cell x5)
      | (go_at_call 19; refine (L2 _ (HB.out.ext (HX0.out.trans hx1))).mono ?_; rintro e w2 ⟨rfl, hx2⟩
         have z0 := (HOA.out.ext (hx1.trans hx2)).cell (j := 0) rfl)
      | (go_at_call 9; refine (awake_any _).mono ?_; rintro e w3 ⟨rfl, hx3⟩))
    go_ret
    exact ⟨rfl, ((HX0.out.trans hx1).trans hx2).trans hx3⟩
  by_cases ht : (60 : Int) < (ask.topic.length : Int)
  · clear hl1 hl2
    go_enter Try.func4, Try.ntmps4
    go_wp2_with (first
      | (go_at_call 7; refine (L1 _ (HH.out.ext HX0.out)).mono ?_; rintro e w1 ⟨rfl, hx1⟩
         have y0 := hx1.cell x0
         have y1 := hx1.cell x1
         have y2 := hx1.cell x2
         have y3 := hx1.cell x3
         have y4 := hx1.cell x4
         have y5 := hx1.cell x5)
      | (go_at_call 19; refine (L2 _ (HB.out.ext (HX0.out.trans hx1))).mono ?_; rintro e w2 ⟨rfl, hx2⟩
         have z0 := (HOA.out.ext (hx1.trans hx2)).cell (j := 0) rfl
         have z1 := (HOA.out.ext (hx1.trans hx2)).cell (j := 1) rfl)
      | (go_at_call 9; refine (awake_any _).mono ?_; rintro e w3 ⟨rfl, hx3⟩))
    go_ret
    exact ⟨rfl, ((HX0.out.trans hx1).trans hx2).trans hx3⟩
  have hll : l.length ≤ 30 := by unfold lightC at hl1; simp at hl1; exact hl1.1
  have hrs : rs.length ≤ 40 ∧ ∀ r ∈ rs, r.key.length ≤ 1000 ∧ r.value.length ≤ 1000 := by
    unfold lightB lightR at hl2
    simp at hl2
    exact ⟨hl2.1, fun r hr => by have := hl2.2 r hr; omega⟩
  have HLL := Lib.hid hll
  have HRS := Lib.hid hrs
  clear hl1 hl2 hll hrs
  have hpl := playB_length rs l
  obtain ⟨pl, hpe⟩ : ∃ pl, playB l rs = pl := ⟨_, rfl⟩
  have P1 := fun v W h hb => play_any v l ⟨b0, b1, b2, b3, b4, rs⟩ (.slice bp rs.length bc) W h hb (by show _ + rs.length ≤ 1000; have h1 := HLL.out; have h2 := HRS.out.1; omega) HRS.out.2
  have P2 := fun v W h hb => rplay_any v l ⟨b0, b1, b2, b3, b4, rs⟩ (.slice bp rs.length bc) W h hb (by show _ + rs.length ≤ 1000; have h1 := HLL.out; have h2 := HRS.out.1; omega) HRS.out.2
  simp only [hpe] at P1 P2
  rw [hpe] at hpl
  have HPL : Hid (pl.length ≤ 1000) := Lib.hid (by have h1 := HLL.out; have h2 := HRS.out.1; omega)
  clear hpl hpe
  obtain ⟨ag, at', ai, ao⟩ := ask
  simp only at hs1 hs2 hg ht
  have F1 := fun v W h => cfind_any v l ⟨ag, at', ai, 0⟩ W h rfl
  have F2 := fun v W h => rfind_any v l ⟨ag, at', ai, 0⟩ W h rfl
  simp only at F1 F2
  generalize (findC l ⟨ag, at', ai, 0⟩).1 = fn at *
  generalize (findC l ⟨ag, at', ai, 0⟩).2 = fb at *
  have SR := fun t v v' W h h' => (by have := rsameC_any v v' t t W h h'; rw [sameC_refl] at this; exact this : Calls Try.prog 24 #[v, v'] W fun e w' => e = .returned (.bool true) ∧ Ext W w')
  obtain ⟨T, hT⟩ : ∃ T, sameC l pl = T := ⟨_, rfl⟩
  have S1 := fun v v' W h h' => csame_any v v' l pl W h h'
  have S2 := fun v v' W h h' => rsameC_any v v' l pl W h h'
  simp only [hT] at S1 S2
  clear hT
  have kT : (T == T) = true := by simp
  have kn : (fn == fn) = true := by simp
  have kb : (fb == fb) = true := by simp
  go_enter Try.func4, Try.ntmps4
  go_wp2_with (first
    | (go_at_call 7; refine (L1 _ (HH.out.ext HX0.out)).mono ?_; rintro e w1 ⟨rfl, hx1⟩
       have y0 := hx1.cell x0
       have y1 := hx1.cell x1
       have y2 := hx1.cell x2
       have y3 := hx1.cell x3
       have y4 := hx1.cell x4
       have y5 := hx1.cell x5)
    | (go_at_call 19; refine (L2 _ (HB.out.ext (HX0.out.trans hx1))).mono ?_; rintro e w2 ⟨rfl, hx2⟩
       have HX2 := Lib.hid ((HX0.out.trans hx1).trans hx2)
       have oa2 := HOA.out.ext (hx1.trans hx2)
       have ob2 := HOB.out.ext (hx1.trans hx2)
       have z0 := oa2.cell (j := 0) rfl
       have z1 := oa2.cell (j := 1) rfl)
    | (go_at_call 20; refine (own_any _ l _ (HH.out.ext HX2.out) (by have := HLL.out; omega)).mono ?_; rintro e w3 ⟨v3, rfl, hv3, hx3⟩
       obtain ⟨p3, c3, e3, _, hc3⟩ := hv3.slice
       subst e3
       unfold maxLen at hc3
       have HX3 := Lib.hid (HX2.out.trans hx3)
       have HV3 := Lib.hid hv3
       have ob3 := ob2.ext hx3
       have t0 := ob3.cell (j := 0) rfl
       have t1 := ob3.cell (j := 1) rfl
       have t2 := ob3.cell (j := 2) rfl
       have t3 := ob3.cell (j := 3) rfl
       have t4 := ob3.cell (j := 4) rfl
       have t5 := ob3.cell (j := 5) rfl
       clear hv3)
    | (go_at_call 21; refine (P1 _ _ HV3.out (HB.out.ext HX3.out)).mono ?_; rintro e w4 ⟨v4, rfl, hv4, hx4⟩
       have hv4 := CmO.view hv4
       obtain ⟨p4, c4, e4, _, hc4⟩ := hv4.slice
       subst e4
       unfold maxLen at hc4
       have HX4 := Lib.hid (HX3.out.trans hx4)
       have HV4 := Lib.hid hv4
       have oa4 := oa2.ext (hx3.trans hx4)
       have a0 := oa4.cell (j := 0) rfl
       have a1 := oa4.cell (j := 1) rfl
       have a2 := oa4.cell (j := 2) rfl
       clear hv4)
    | (go_at_call 22; refine (F1 _ _ (HV3.out.ext hx4)).mono ?_; rintro e w5 ⟨rfl, hx5⟩
       have HX5 := Lib.hid (HX4.out.trans hx5)
       have oa5 := oa4.ext hx5
       have c0 := oa5.cell (j := 0) rfl
       have c1 := oa5.cell (j := 1) rfl
       have c2 := oa5.cell (j := 2) rfl)
    | (go_at_call 23; refine (F2 _ _ (HH.out.ext HX5.out)).mono ?_; rintro e w6 ⟨rfl, hx6⟩))
  have HX6 := Lib.hid (HX5.out.trans hx6)
  have ob6 := ob3.ext ((hx4.trans hx5).trans hx6)
  have u0 := ob6.cell (j := 0) rfl
  have u1 := ob6.cell (j := 1) rfl
  have u2 := ob6.cell (j := 2) rfl
  have u3 := ob6.cell (j := 3) rfl
  have u4 := ob6.cell (j := 4) rfl
  have u5 := ob6.cell (j := 5) rfl
  have HVX := Lib.hid (HV3.out.ext ((hx4.trans hx5).trans hx6))
  have HVY := Lib.hid (HV4.out.ext (hx5.trans hx6))
  have HVL := Lib.hid (HH.out.ext HX6.out)
  have HBL := Lib.hid (HB.out.ext HX6.out)
  clear L1 L2 F1 F2 P1
  apply wp_region_dag (X := Ext) (by kernel_rfl) (by kernel_rfl) (fun _ _ _ => Ext.trans) (Ext.drew1 _)
  apply dag_val Ext.refl rfl (by intro W hW H; go_simp <;> rfl)
  simp only [Act.put, List.setIfInBounds_toArray, List.set_cons_zero, List.set_cons_succ]
  refine' dag_calls (fun v W => CmV W v pl) (CmV.stab _) rfl (by intro W; go_simp <;> rfl) (fun W hW H => (as_any _ pl W (HVY.out.ext hW) HPL.out).mono (by rintro e w' ⟨v1, rfl, hf1, hx1⟩; exact ⟨_, rfl, hf1, hx1⟩)) (fun ua => _)
  rotate_left
  simp only [Act.put, List.setIfInBounds_toArray, List.set_cons_zero, List.set_cons_succ]
  apply dag_val Ext.refl rfl (by intro W hW H; go_simp <;> rfl)
  simp only [Act.put, List.setIfInBounds_toArray, List.set_cons_zero, List.set_cons_succ]
  apply dag_val Ext.refl rfl (by intro W hW H; have q0 := hW.cell u0; have q1 := hW.cell u1; have q2 := hW.cell u2; have q3 := hW.cell u3; have q4 := hW.cell u4; have q5 := hW.cell u5; go_simp <;> rfl)
  simp only [Act.put, List.setIfInBounds_toArray, List.set_cons_zero, List.set_cons_succ]
  refine' dag_calls (fun v W => CmV W v pl) (CmV.stab _) rfl (by intro W; go_simp <;> rfl) (fun W hW H => (P2 _ W (HVL.out.ext hW) (HBL.out.ext hW)).mono (by rintro e w' ⟨v1, rfl, hf1, hx1⟩; exact ⟨_, rfl, hf1, hx1⟩)) (fun ub => _)
  rotate_left
  simp only [Act.put, List.setIfInBounds_toArray, List.set_cons_zero, List.set_cons_succ]
  refine' dag_call (c := .bool true) (f := 24) (args := #[ua, ub]) rfl (by intro W; go_simp <;> rfl) (fun W hW H => SR pl ua ub W (H 1 (by kernel_rfl)) (H 4 (by kernel_rfl))) _
  rotate_left
  simp only [Act.put, List.setIfInBounds_toArray, List.set_cons_zero, List.set_cons_succ]
  apply dag_val Ext.refl rfl (by intro W hW H; go_simp <;> rfl)
  simp only [Act.put, List.setIfInBounds_toArray, List.set_cons_zero, List.set_cons_succ]
  apply dag_val Ext.refl rfl (by intro W hW H; go_simp <;> rfl)
  simp only [Act.put, List.setIfInBounds_toArray, List.set_cons_zero, List.set_cons_succ]
  refine' dag_calls (fun v W => CmV W v l) (CmV.stab _) rfl (by intro W; go_simp <;> rfl) (fun W hW H => (as_any _ l W (HVX.out.ext hW) (by have := HLL.out; omega)).mono (by rintro e w' ⟨v1, rfl, hf1, hx1⟩; exact ⟨_, rfl, hf1, hx1⟩)) (fun uc => _)
  rotate_left
  simp only [Act.put, List.setIfInBounds_toArray, List.set_cons_zero, List.set_cons_succ]
  apply dag_val Ext.refl rfl (by intro W hW H; go_simp <;> rfl)
  simp only [Act.put, List.setIfInBounds_toArray, List.set_cons_zero, List.set_cons_succ]
  refine' dag_call (c := .bool true) (f := 24) (args := #[uc, .slice p l.length c]) rfl (by intro W; go_simp <;> rfl) (fun W hW H => SR l uc _ W (H 8 (by kernel_rfl)) (HVL.out.ext hW)) _
  rotate_left
  simp only [Act.put, List.setIfInBounds_toArray, List.set_cons_zero, List.set_cons_succ]
  apply dag_val Ext.refl rfl (by intro W hW H; go_simp <;> rfl)
  simp only [Act.put, List.setIfInBounds_toArray, List.set_cons_zero, List.set_cons_succ]
  apply dag_val Ext.refl rfl (by intro W hW H; go_simp <;> rfl)
  simp only [Act.put, List.setIfInBounds_toArray, List.set_cons_zero, List.set_cons_succ]
  apply dag_val Ext.refl rfl (by intro W hW H; go_simp <;> rfl)
  simp only [Act.put, List.setIfInBounds_toArray, List.set_cons_zero, List.set_cons_succ]
  apply dag_val Ext.refl rfl (by intro W hW H; go_simp <;> rfl)
  simp only [Act.put, List.setIfInBounds_toArray, List.set_cons_zero, List.set_cons_succ]
  apply dag_val Ext.refl rfl (by intro W hW H; go_simp <;> rfl)
  simp only [Act.put, List.setIfInBounds_toArray, List.set_cons_zero, List.set_cons_succ]
  apply dag_val Ext.refl rfl (by intro W hW H; go_simp <;> rfl)
  simp only [Act.put, List.setIfInBounds_toArray, List.set_cons_zero, List.set_cons_succ]
  apply dag_val Ext.refl rfl (by intro W hW H; go_simp <;> rfl)
  simp only [Act.put, List.setIfInBounds_toArray, List.set_cons_zero, List.set_cons_succ]
  apply dag_val Ext.refl rfl (by intro W hW H; go_simp <;> rfl)
  simp only [Act.put, List.setIfInBounds_toArray, List.set_cons_zero, List.set_cons_succ]
  apply dag_val Ext.refl rfl (by intro W hW H; go_simp <;> rfl)
  simp only [Act.put, List.setIfInBounds_toArray, List.set_cons_zero, List.set_cons_succ]
  apply dag_val Ext.refl rfl (by intro W hW H; go_simp <;> rfl)
  simp only [Act.put, List.setIfInBounds_toArray, List.set_cons_zero, List.set_cons_succ]
  apply dag_val Ext.refl rfl (by intro W hW H; go_simp <;> rfl)
  simp only [Act.put, List.setIfInBounds_toArray, List.set_cons_zero, List.set_cons_succ]
  apply dag_val Ext.refl rfl (by intro W hW H; go_simp <;> rfl)
  simp only [Act.put, List.setIfInBounds_toArray, List.set_cons_zero, List.set_cons_succ]
  apply dag_val Ext.refl rfl (by intro W hW H; go_simp <;> rfl)
  simp only [Act.put, List.setIfInBounds_toArray, List.set_cons_zero, List.set_cons_succ]
  apply dag_val Ext.refl rfl (by intro W hW H; go_simp <;> rfl)
  simp only [Act.put, List.setIfInBounds_toArray, List.set_cons_zero, List.set_cons_succ]
  refine' dag_call (c := .bool T) (f := 27) (args := #[.slice p3 l.length c3, .slice p4 pl.length c4]) rfl (by intro W; go_simp <;> rfl) (fun W hW H => S1 _ _ W (HVX.out.ext hW) (HVY.out.ext hW)) _
  rotate_left
  simp only [Act.put, List.setIfInBounds_toArray, List.set_cons_zero, List.set_cons_succ]
  apply dag_val Ext.refl rfl (by intro W hW H; go_simp <;> rfl)
  simp only [Act.put, List.setIfInBounds_toArray, List.set_cons_zero, List.set_cons_succ]
  apply dag_val Ext.refl rfl (by intro W hW H; go_simp <;> rfl)
  simp only [Act.put, List.setIfInBounds_toArray, List.set_cons_zero, List.set_cons_succ]
  apply dag_val Ext.refl rfl (by intro W hW H; have q0 := hW.cell u0; have q1 := hW.cell u1; have q2 := hW.cell u2; have q3 := hW.cell u3; have q4 := hW.cell u4; have q5 := hW.cell u5; go_simp <;> rfl)
  simp only [Act.put, List.setIfInBounds_toArray, List.set_cons_zero, List.set_cons_succ]
  refine' dag_calls (fun v W => CmV W v pl) (CmV.stab _) rfl (by intro W; go_simp <;> rfl) (fun W hW H => (P2 _ W (HVL.out.ext hW) (HBL.out.ext hW)).mono (by rintro e w' ⟨v1, rfl, hf1, hx1⟩; exact ⟨_, rfl, hf1, hx1⟩)) (fun ud => _)
  rotate_left
  simp only [Act.put, List.setIfInBounds_toArray, List.set_cons_zero, List.set_cons_succ]
  refine' dag_call (c := .bool T) (f := 24) (args := #[.slice p l.length c, ud]) rfl (by intro W; go_simp <;> rfl) (fun W hW H => S2 _ ud W (HVL.out.ext hW) (H 29 (by kernel_rfl))) _
  rotate_left
  simp only [Act.put, List.setIfInBounds_toArray, List.set_cons_zero, List.set_cons_succ]
  apply dag_val Ext.refl rfl (by intro W hW H; go_simp <;> rfl)
  simp only [Act.put, List.setIfInBounds_toArray, List.set_cons_zero, List.set_cons_succ]
  apply dag_val Ext.refl rfl (by intro W hW H; go_simp <;> rfl)
  simp only [Act.put, List.setIfInBounds_toArray, List.set_cons_zero, List.set_cons_succ]
  apply dag_val Ext.refl rfl (by intro W hW H; go_simp <;> rfl)
  simp only [Act.put, List.setIfInBounds_toArray, List.set_cons_zero, List.set_cons_succ]
  refine' dag_call (c := .bool true) (f := 9) (args := #[]) rfl (by intro W; go_simp <;> rfl) (fun W hW H => awake_any W) _
  rotate_left
  simp only [Act.put, List.setIfInBounds_toArray, List.set_cons_zero, List.set_cons_succ]
  apply dag_val Ext.refl rfl (by intro W hW H; go_simp <;> rfl)
  simp only [Act.put, List.setIfInBounds_toArray, List.set_cons_zero, List.set_cons_succ]
  apply dag_val Ext.refl rfl (by intro W hW H; go_simp <;> rfl)
  simp only [Act.put, List.setIfInBounds_toArray, List.set_cons_zero, List.set_cons_succ]
  refine dag_end fun W hW H => ?_
  clear H
  go_wp2_with fail
  go_ret
  exact ⟨rfl, HX6.out.trans hW⟩
end Go.Proofs.Ytdklpenpmeplfaa
