/- WindowPuts of layer 35: the law answers true. -/
import Derived.Test.YtpejdompanhieaaLaw35
namespace Go.Proofs.Ytpejdompanhieaa
open Go.RowKit

theorem own_call {W : World} {s : Wt} {v : Value} (h : SmV W v s.opn) (hl : s.opn.length ≤ 1000) : Calls Try.prog 9 #[wtv s v] W fun e w' => ∃ r, e = .returned r ∧ (∃ u, r = wtv s u ∧ SmV w' u s.opn) ∧ Ext W w' := by
  refine (lown_any s v W h hl).mono ?_
  rintro e w' ⟨v', rfl, h1, h2⟩
  exact ⟨_, rfl, ⟨v', rfl, h1⟩, h2⟩
theorem same_fact {W : World} {s t : Wt} {v v' : Value} (h : ∃ u, v = wtv s u ∧ SmV W u s.opn) (h' : ∃ u, v' = wtv t u ∧ SmV W u t.opn) : Calls Try.prog 26 #[v, v'] W fun e w' => e = .returned (.bool (sameW s t)) ∧ Ext W w' := by
  obtain ⟨u, rfl, hu⟩ := h
  obtain ⟨u', rfl, hu'⟩ := h'
  exact equalSW_any u u' s t W hu hu'
theorem getW_len (b : List UInt8) : (getW b).1.opn.length ≤ 1000 := by
  unfold getW
  split
  · rename_i h
    exact Nat.le_trans (checkW_ok (okW_put h).1).2.2.2.2.2.2.2.2.1 (by decide)
  · exact Nat.zero_le _
set_option maxRecDepth 20000 in
set_option maxHeartbeats 4000000 in
theorem puts_core (s : Wt) (v : Value) (t : Wt) (v' vb : Value) (b : List UInt8) (w : World) (h : SmV w v s.opn) (h' : SmV w v' t.opn) (hb : BV w vb b) (hl : lightS s.opn = true) (hl' : lightS t.opn = true) (hk : b.length ≤ 1000) :
    Calls Try.prog 4 #[wtv s v, wtv t v', vb] w fun e w' => e = .returned (.bool true) ∧ Below w.heap.size w w' := by
  have hlen := lightS_len hl
  have hlen' := lightS_len hl'
  obtain ⟨oS, oT, hx0, hsz⟩ := objs2 w 24 24 (wtC s v) (wtC t v')
  obtain ⟨px, nx, cx, rfl⟩ := wt_slice h
  obtain ⟨py, ny, cy, rfl⟩ := wt_slice h'
  obtain ⟨pb, cb, rfl, _⟩ := id hb
  have L1 := rlightS_any (.slice px nx cx) s.opn _ (h.ext hx0)
  rw [hl] at L1
  have HL2 := Lib.hid fun W hW => rlightS_any (.slice py ny cy) t.opn W (h'.ext hW)
  rw [hl'] at HL2
  have HOW := Lib.hid fun W hW => lown_any s (.slice px nx cx) W (h.ext hW) (by omega)
  have HP1 := Lib.hid fun v W hW => wput_any s v W hW (by omega)
  have HP2 := Lib.hid fun W hW => rputw_any s (.slice px nx cx) W (h.ext hW)
  have HG1 := Lib.hid fun W hW => wget_any (.slice pb b.length cb) b W (hb.ext hW) (by omega)
  have HG2 := Lib.hid fun W hW => rgetw_any (.slice pb b.length cb) b W (hb.ext hW) (by omega)
  have hgl := getW_len b
  generalize getW b = GG at *
  obtain ⟨GT, GE⟩ := GG
  generalize putE s = PP at *
  obtain ⟨PB, PE⟩ := PP
  simp only at hgl
  have s4 := oS.cell (j := 4) rfl
  have t4 := oT.cell (j := 4) rfl
  have hi2 : decide ((1000 : Int) < (b.length : Int)) = false := by rw [decide_eq_false_iff_not]; omega
  have HX0 := Lib.hid hx0
  have HV := Lib.hid h
  have HV' := Lib.hid h'
  have HGL := Lib.hid hgl
  have HSL : Hid (s.opn.length ≤ 1000) := Lib.hid (by omega)
  have HTL : Hid (t.opn.length ≤ 1000) := Lib.hid (by omega)
  have HOS := Lib.hid oS
  have HOT := Lib.hid oT
  clear hx0 h h' hb hlen hlen' hk oS oT hsz hl hl' hgl
  go_enter Try.func4, Try.ntmps4
  go_wp2_with (first
    | (go_at_call 7; have hq := hx1; refine (HL2.out _ HX1.out).mono ?_; rintro e w2 ⟨rfl, hx2⟩
       have HX2 := Lib.hid (HX1.out.trans hx2)
       have oS2 := oS.ext hx2
       have oT2 := oT.ext hx2
       have s0 := oS2.cell (j := 0) rfl
       have s1 := oS2.cell (j := 1) rfl
       have s2 := oS2.cell (j := 2) rfl
       have s3 := oS2.cell (j := 3) rfl
       have s4 := oS2.cell (j := 4) rfl)
    | (go_at_call 7; refine L1.mono ?_; rintro e w1 ⟨rfl, hx1⟩
       have HX1 := Lib.hid (HX0.out.trans hx1)
       have oS := HOS.out.ext hx1
       have oT := HOT.out.ext hx1
       have t4 := oT.cell (j := 4) rfl)
    | (go_at_call 9; refine (HOW.out _ HX2.out).mono ?_; rintro e w3 ⟨vo, rfl, ho, hx3⟩
       have HX3 := Lib.hid (HX2.out.trans hx3))
    | (go_at_call 22; refine (HP1.out _ _ ho).mono ?_; rintro e w4 ⟨va, rfl, ha, hx4⟩
       obtain ⟨pa, ca, rfl, _⟩ := id ha
       have HX4 := Lib.hid (HX3.out.trans hx4)
       have oS4 := oS2.ext (hx3.trans hx4)
       have oT4 := oT2.ext (hx3.trans hx4)
       have HA := Lib.hid ha
       have s0 := oS4.cell (j := 0) rfl
       have s1 := oS4.cell (j := 1) rfl
       have s2 := oS4.cell (j := 2) rfl
       have s3 := oS4.cell (j := 3) rfl
       have s4 := oS4.cell (j := 4) rfl)
    | (go_at_call 23; refine (HP2.out _ HX4.out).mono ?_; rintro e w5 ⟨vc, rfl, hc, hx5⟩
       obtain ⟨pc, cc, rfl, _⟩ := id hc
       have HX5 := Lib.hid (HX4.out.trans hx5)
       have HC := Lib.hid hc
       have HA5 := Lib.hid (HA.out.ext hx5))
    | (go_at_call 24; refine (HG1.out _ HX5.out).mono ?_; rintro e w6 ⟨vz, rfl, hz, hx6⟩
       obtain ⟨pz, nz, cz, rfl⟩ := wt_slice hz
       have oZx := Ext.alloc w6 (.cells #[.int .i64 GT.size, .int .i64 GT.late, .int .i64 GT.mark, .int .i64 GT.drops, .slice pz nz cz] 31)
       have oZ : ObjAt (w6.alloc (.cells #[.int .i64 GT.size, .int .i64 GT.late, .int .i64 GT.mark, .int .i64 GT.drops, .slice pz nz cz] 31)) w6.heap.size 31 (wtC GT (.slice pz nz cz)) := heap_alloc_new w6 _
       have HE6 := Lib.hid (hx6.trans oZx)
       have HX6 := Lib.hid (HX5.out.trans HE6.out)
       have HZ := Lib.hid (hz.ext oZx))
    | (go_at_call 25; refine (HG2.out _ HX6.out).mono ?_; rintro e w7 ⟨vw, rfl, hw, hx7⟩
       obtain ⟨pw, nw, cw, rfl⟩ := wt_slice hw
       have oWx := Ext.alloc w7 (.cells #[.int .i64 GT.size, .int .i64 GT.late, .int .i64 GT.mark, .int .i64 GT.drops, .slice pw nw cw] 24)
       have oW : ObjAt (w7.alloc (.cells #[.int .i64 GT.size, .int .i64 GT.late, .int .i64 GT.mark, .int .i64 GT.drops, .slice pw nw cw] 24)) w7.heap.size 24 (wtC GT (.slice pw nw cw)) := heap_alloc_new w7 _
       have HE7 := Lib.hid (hx7.trans oWx)
       have HX7 := Lib.hid (HX6.out.trans HE7.out)
       have HW := Lib.hid (hw.ext oWx)))
  obtain ⟨W0, hW0⟩ : ∃ W, W = w7.alloc (.cells #[.int .i64 GT.size, .int .i64 GT.late, .int .i64 GT.mark, .int .i64 GT.drops, .slice pw nw cw] 24) := ⟨_, rfl⟩
  have h67 := HE6.out.trans HE7.out
  have h57 := hx5.trans h67
  have hS := oS4.ext h57
  have hT := oT4.ext h57
  have hZ := oZ.ext HE7.out
  have KA := HA5.out.ext h67
  have KC := HC.out.ext h67
  have KZ := HZ.out.ext HE7.out
  have KW := HW.out
  have HXW := HX7.out
  have KV := HV.out.ext HXW
  have KT := HV'.out.ext HXW
  rw [← hW0] at hS hT hZ oW KA KC KZ KW HXW KV KT ⊢
  clear hW0 HX0 HX1 HX2 HX3 HX4 HX5 HX6 HX7 HE6 HE7 h67 h57 oS2 oS4 oT2 oT4 oZ HA HA5 HC HZ HW HOS HOT HV HV' HOW HP1 HP2 HG1 HG2 HL2
  apply wp_region_dag_tail 35 (X := Ext) (by kernel_rfl) (by kernel_rfl) (by kernel_rfl) (by decide) (fun _ _ _ => Ext.trans) (Ext.drew1 _)
  simp only [List.take_succ_cons, List.take_zero, List.drop_succ_cons, List.drop_zero]
  apply dag_val Ext.refl rfl (by intro W hW H; go_simp <;> rfl)
  simp only [Act.put, List.setIfInBounds_toArray, List.set_cons_zero, List.set_cons_succ]
  refine' dag_val Ext.refl rfl (fun W hW H => run_op_bytes_string (v := .slice pa PB.length ca) (l := PB) T.bytes T.u8 T.str rfl rfl (KA.ext hW)) _
  rotate_left
  simp only [Act.put, List.setIfInBounds_toArray, List.set_cons_zero, List.set_cons_succ]
  apply dag_val Ext.refl rfl (by intro W hW H; go_simp <;> rfl)
  simp only [Act.put, List.setIfInBounds_toArray, List.set_cons_zero, List.set_cons_succ]
  refine' dag_val Ext.refl rfl (fun W hW H => run_op_bytes_string (v := .slice pc PB.length cc) (l := PB) T.bytes T.u8 T.str rfl rfl (KC.ext hW)) _
  rotate_left
  simp only [Act.put, List.setIfInBounds_toArray, List.set_cons_zero, List.set_cons_succ]
  apply dag_val Ext.refl rfl (by intro W hW H; go_simp <;> rfl)
  simp only [Act.put, List.setIfInBounds_toArray, List.set_cons_zero, List.set_cons_succ]
  apply dag_val Ext.refl rfl (by intro W hW H; go_simp <;> rfl)
  simp only [Act.put, List.setIfInBounds_toArray, List.set_cons_zero, List.set_cons_succ]
  apply dag_val Ext.refl rfl (by intro W hW H; go_simp <;> rfl)
  simp only [Act.put, List.setIfInBounds_toArray, List.set_cons_zero, List.set_cons_succ]
  apply dag_val Ext.refl rfl (by intro W hW H; go_simp <;> rfl)
  simp only [Act.put, List.setIfInBounds_toArray, List.set_cons_zero, List.set_cons_succ]
  apply dag_val Ext.refl rfl (by intro W hW H; go_simp <;> rfl)
  simp only [Act.put, List.setIfInBounds_toArray, List.set_cons_zero, List.set_cons_succ]
  apply dag_val Ext.refl rfl (by intro W hW H; go_simp <;> rfl)
  simp only [Act.put, List.setIfInBounds_toArray, List.set_cons_zero, List.set_cons_succ]
  apply dag_val Ext.refl rfl (by intro W hW H; go_simp <;> rfl)
  simp only [Act.put, List.setIfInBounds_toArray, List.set_cons_zero, List.set_cons_succ]
  apply dag_val Ext.refl rfl (by intro W hW H; have q0 := hW.cell (hZ.cell (j := 0) rfl); have q1 := hW.cell (hZ.cell (j := 1) rfl); have q2 := hW.cell (hZ.cell (j := 2) rfl); have q3 := hW.cell (hZ.cell (j := 3) rfl); have q4 := hW.cell (hZ.cell (j := 4) rfl); go_simp <;> rfl)
  simp only [Act.put, List.setIfInBounds_toArray, List.set_cons_zero, List.set_cons_succ]
  refine' dag_calls (fun v W => ∃ u, v = wtv GT u ∧ SmV W u GT.opn) (fun v W W' hx h => h.imp fun u hu => ⟨hu.1, hu.2.ext hx⟩) rfl (by intro W; go_simp <;> rfl) (fun W hW H => (back_call (KZ.ext hW) HGL.out).mono (by rintro e w' ⟨r, rfl, h1, h2⟩; exact ⟨r, rfl, h1, h2⟩)) (fun r1 => _)
  rotate_left
  simp only [Act.put, List.setIfInBounds_toArray, List.set_cons_zero, List.set_cons_succ]
  apply dag_val Ext.refl rfl (by intro W hW H; have q0 := hW.cell (oW.cell (j := 0) rfl); have q1 := hW.cell (oW.cell (j := 1) rfl); have q2 := hW.cell (oW.cell (j := 2) rfl); have q3 := hW.cell (oW.cell (j := 3) rfl); have q4 := hW.cell (oW.cell (j := 4) rfl); go_simp <;> rfl)
  simp only [Act.put, List.setIfInBounds_toArray, List.set_cons_zero, List.set_cons_succ]
  refine' dag_call (c := .bool true) (f := 16) (args := #[r1, wtv GT (.slice pw nw cw)]) rfl (by intro W; go_simp <;> rfl) (fun W hW H => back_fact (s := GT) (H 12 (by kernel_rfl)) (KW.ext hW)) _
  rotate_left
  simp only [Act.put, List.setIfInBounds_toArray, List.set_cons_zero, List.set_cons_succ]
  apply dag_val Ext.refl rfl (by intro W hW H; go_simp <;> rfl)
  simp only [Act.put, List.setIfInBounds_toArray, List.set_cons_zero, List.set_cons_succ]
  apply dag_val Ext.refl rfl (by intro W hW H; go_simp <;> rfl)
  simp only [Act.put, List.setIfInBounds_toArray, List.set_cons_zero, List.set_cons_succ]
  apply dag_val Ext.refl rfl (by intro W hW H; go_simp <;> rfl)
  simp only [Act.put, List.setIfInBounds_toArray, List.set_cons_zero, List.set_cons_succ]
  apply dag_val Ext.refl rfl (by intro W hW H; go_simp <;> rfl)
  simp only [Act.put, List.setIfInBounds_toArray, List.set_cons_zero, List.set_cons_succ]
  apply dag_val Ext.refl rfl (by intro W hW H; go_simp <;> rfl)
  simp only [Act.put, List.setIfInBounds_toArray, List.set_cons_zero, List.set_cons_succ]
  apply dag_val Ext.refl rfl (by intro W hW H; go_simp <;> rfl)
  simp only [Act.put, List.setIfInBounds_toArray, List.set_cons_zero, List.set_cons_succ]
  apply dag_val Ext.refl rfl (by intro W hW H; go_simp <;> rfl)
  simp only [Act.put, List.setIfInBounds_toArray, List.set_cons_zero, List.set_cons_succ]
  apply dag_val Ext.refl rfl (by intro W hW H; have q0 := hW.cell (hS.cell (j := 0) rfl); have q1 := hW.cell (hS.cell (j := 1) rfl); have q2 := hW.cell (hS.cell (j := 2) rfl); have q3 := hW.cell (hS.cell (j := 3) rfl); have q4 := hW.cell (hS.cell (j := 4) rfl); go_simp <;> rfl)
  simp only [Act.put, List.setIfInBounds_toArray, List.set_cons_zero, List.set_cons_succ]
  refine' dag_calls (fun v W => ∃ u, v = wtv s u ∧ SmV W u s.opn) (fun v W W' hx h => h.imp fun u hu => ⟨hu.1, hu.2.ext hx⟩) rfl (by intro W; go_simp <;> rfl) (fun W hW H => (own_call (KV.ext hW) HSL.out).mono (by rintro e w' ⟨r, rfl, h1, h2⟩; exact ⟨r, rfl, h1, h2⟩)) (fun r2 => _)
  rotate_left
  simp only [Act.put, List.setIfInBounds_toArray, List.set_cons_zero, List.set_cons_succ]
  apply dag_val Ext.refl rfl (by intro W hW H; have q0 := hW.cell (hT.cell (j := 0) rfl); have q1 := hW.cell (hT.cell (j := 1) rfl); have q2 := hW.cell (hT.cell (j := 2) rfl); have q3 := hW.cell (hT.cell (j := 3) rfl); have q4 := hW.cell (hT.cell (j := 4) rfl); go_simp <;> rfl)
  simp only [Act.put, List.setIfInBounds_toArray, List.set_cons_zero, List.set_cons_succ]
  refine' dag_calls (fun v W => ∃ u, v = wtv t u ∧ SmV W u t.opn) (fun v W W' hx h => h.imp fun u hu => ⟨hu.1, hu.2.ext hx⟩) rfl (by intro W; go_simp <;> rfl) (fun W hW H => (own_call (KT.ext hW) HTL.out).mono (by rintro e w' ⟨r, rfl, h1, h2⟩; exact ⟨r, rfl, h1, h2⟩)) (fun r3 => _)
  rotate_left
  simp only [Act.put, List.setIfInBounds_toArray, List.set_cons_zero, List.set_cons_succ]
  refine' dag_call (c := .bool (sameW s t)) (f := 26) (args := #[r2, r3]) rfl (by intro W; go_simp <;> rfl) (fun W hW H => same_fact (s := s) (t := t) (H 23 (by kernel_rfl)) (H 25 (by kernel_rfl))) _
  rotate_left
  simp only [Act.put, List.setIfInBounds_toArray, List.set_cons_zero, List.set_cons_succ]
  apply dag_val Ext.refl rfl (by intro W hW H; have q0 := hW.cell (hS.cell (j := 0) rfl); have q1 := hW.cell (hS.cell (j := 1) rfl); have q2 := hW.cell (hS.cell (j := 2) rfl); have q3 := hW.cell (hS.cell (j := 3) rfl); have q4 := hW.cell (hS.cell (j := 4) rfl); go_simp <;> rfl)
  simp only [Act.put, List.setIfInBounds_toArray, List.set_cons_zero, List.set_cons_succ]
  apply dag_val Ext.refl rfl (by intro W hW H; have q0 := hW.cell (hT.cell (j := 0) rfl); have q1 := hW.cell (hT.cell (j := 1) rfl); have q2 := hW.cell (hT.cell (j := 2) rfl); have q3 := hW.cell (hT.cell (j := 3) rfl); have q4 := hW.cell (hT.cell (j := 4) rfl); go_simp <;> rfl)
  simp only [Act.put, List.setIfInBounds_toArray, List.set_cons_zero, List.set_cons_succ]
  refine' dag_call (c := .bool (sameW s t)) (f := 16) (args := #[wtv s (.slice px nx cx), wtv t (.slice py ny cy)]) rfl (by intro W; go_simp <;> rfl) (fun W hW H => rsameSW_any (.slice px nx cx) (.slice py ny cy) s t W (KV.ext hW) (KT.ext hW)) _
  rotate_left
  simp only [Act.put, List.setIfInBounds_toArray, List.set_cons_zero, List.set_cons_succ]
  apply dag_val Ext.refl rfl (by intro W hW H; go_simp <;> rfl)
  simp only [Act.put, List.setIfInBounds_toArray, List.set_cons_zero, List.set_cons_succ]
  apply dag_val Ext.refl rfl (by intro W hW H; go_simp <;> rfl)
  simp only [Act.put, List.setIfInBounds_toArray, List.set_cons_zero, List.set_cons_succ]
  apply dag_val Ext.refl rfl (by intro W hW H; go_simp <;> rfl)
  simp only [Act.put, List.setIfInBounds_toArray, List.set_cons_zero, List.set_cons_succ]
  refine' dag_call (c := .bool true) (f := 8) (args := #[]) rfl (by intro W; go_simp <;> rfl) (fun W hW H => awake_any W) _
  rotate_left
  simp only [Act.put, List.setIfInBounds_toArray, List.set_cons_zero, List.set_cons_succ]
  apply dag_val Ext.refl rfl (by intro W hW H; go_simp <;> rfl)
  simp only [Act.put, List.setIfInBounds_toArray, List.set_cons_zero, List.set_cons_succ]
  refine dag_end fun W hW H => ?_
  clear H
  go_wp2_with fail
  go_ret
  exact ⟨rfl, HXW.trans hW⟩
set_option maxHeartbeats 1000000 in
theorem windowPuts_walk (s : Wt) (v : Value) (t : Wt) (v' vb : Value) (b : List UInt8) (w : World) (h : SmV w v s.opn) (h' : SmV w v' t.opn) (hb : BV w vb b) :
    Calls Try.prog 4 #[wtv s v, wtv t v', vb] w fun e w' => e = .returned (.bool true) ∧ Below w.heap.size w w' := by
  obtain ⟨oS, oT, hx0, hsz⟩ := objs2 w 24 24 (wtC s v) (wtC t v')
  obtain ⟨px, nx, cx, rfl⟩ := wt_slice h
  obtain ⟨py, ny, cy, rfl⟩ := wt_slice h'
  have L1 := rlightS_any (.slice px nx cx) s.opn _ (h.ext hx0)
  have HL2 := Lib.hid fun W hW => rlightS_any (.slice py ny cy) t.opn W (h'.ext hW)
  have s4 := oS.cell (j := 4) rfl
  have t4 := oT.cell (j := 4) rfl
  cases hl : lightS s.opn with
  | false =>
    rw [hl] at L1
    clear hl hsz h h' hb HL2 oS oT
    go_enter Try.func4, Try.ntmps4
    go_wp2_with (first
      | (go_at_call 7; refine L1.mono ?_; rintro e w1 ⟨rfl, hx1⟩)
      | (go_at_call 8; refine (awake_any _).mono ?_; rintro e w3 ⟨rfl, hx3⟩))
    go_ret
    exact ⟨rfl, (hx0.trans hx1).trans hx3⟩
  | true =>
    rw [hl] at L1
    cases hl' : lightS t.opn with
    | false =>
      rw [hl'] at HL2
      have HX0 := Lib.hid hx0
      clear hl hl' hsz h h' hb oS oT
      go_enter Try.func4, Try.ntmps4
      go_wp2_with (first
        | (go_at_call 7; have hq := hx1; refine (HL2.out _ (HX0.out.trans hx1)).mono ?_; rintro e w2 ⟨rfl, hx2⟩)
        | (go_at_call 7; refine L1.mono ?_; rintro e w1 ⟨rfl, hx1⟩
           have u4 := hx1.cell t4)
        | (go_at_call 8; refine (awake_any _).mono ?_; rintro e w3 ⟨rfl, hx3⟩))
      go_ret
      exact ⟨rfl, ((HX0.out.trans hx1).trans hx2).trans hx3⟩
    | true =>
      by_cases hk : b.length ≤ 1000
      · exact puts_core s _ t _ vb b w h h' hb hl hl' hk
      rw [hl'] at HL2
      have hi2 : decide ((1000 : Int) < (b.length : Int)) = true := by rw [decide_eq_true_eq]; omega
      obtain ⟨pb, cb, rfl, _⟩ := id hb
      have HX0 := Lib.hid hx0
      clear hl hl' hsz h h' hb oS oT hk
      go_enter Try.func4, Try.ntmps4
      go_wp2_with (first
        | (go_at_call 7; have hq := hx1; refine (HL2.out _ (HX0.out.trans hx1)).mono ?_; rintro e w2 ⟨rfl, hx2⟩)
        | (go_at_call 7; refine L1.mono ?_; rintro e w1 ⟨rfl, hx1⟩
           have u4 := hx1.cell t4)
        | (go_at_call 8; refine (awake_any _).mono ?_; rintro e w3 ⟨rfl, hx3⟩))
      go_ret
      exact ⟨rfl, ((HX0.out.trans hx1).trans hx2).trans hx3⟩
end Go.Proofs.Ytpejdompanhieaa
