/- The statements ProducerAsks and ProducerCuts of layer 13: the walks of the laws. -/
import Derived.Test.YthiaaoiaabocfaaAwake13
import Derived.Test.YthiaaoiaabocfaaPrY
namespace Go.Proofs.Ythiaaoiaabocfaa
open Go.RowKit

/-- A table. -/
def TabA (W : World) (n : Value) (t : List Ent) : Prop := ∃ u, n = .agg #[u] ∧ TabV W u t
theorem TabA.ext {W W' : World} {n : Value} {t : List Ent} (h : TabA W n t) (hx : Ext W W') : TabA W' n t := by obtain ⟨u, e, h⟩ := h; exact ⟨u, e, h.ext hx⟩
theorem TabA.stab (t : List Ent) : ∀ (v : Value) (W W' : World), Ext W W' → TabA W v t → TabA W' v t := fun _ _ _ hx h => h.ext hx
theorem rsameA (n m : Value) (a b : List Ent) (w : World) (h : TabA w n a) (h' : TabA w m b) :
    Calls Try.prog 16 #[n, m] w fun e w' => e = .returned (.bool (sameT a b)) ∧ Ext w w' := by
  obtain ⟨u, rfl, hu⟩ := h
  obtain ⟨u', rfl, hu'⟩ := h'
  exact rsame_any u u' a b w hu hu'
theorem sameA (n m : Value) (a b : List Ent) (w : World) (h : TabA w n a) (h' : TabA w m b) :
    Calls Try.prog 24 #[n, m] w fun e w' => e = .returned (.bool (sameT a b)) ∧ Ext w w' := by
  obtain ⟨u, rfl, hu⟩ := h
  obtain ⟨u', rfl, hu'⟩ := h'
  exact same_any u u' a b w hu hu'
theorem asA (n : Value) (t : List Ent) (w : World) (h : TabA w n t) (hl : t.length ≤ 1000) (hf : FewT 1000 t) :
    Calls Try.prog 17 #[n] w fun e w' => ∃ v, e = .returned v ∧ TabA w' v t ∧ Ext w w' := by
  obtain ⟨u, rfl, hu⟩ := h
  refine (as_any u t w hu hl hf).mono ?_
  rintro e w' ⟨v', rfl, h, hx⟩
  exact ⟨_, rfl, ⟨v', rfl, h⟩, hx⟩
theorem ownA (n : Value) (t : List Ent) (w : World) (h : TabA w n t) (hl : t.length ≤ 1000) (hf : FewT 1000 t) :
    Calls Try.prog 10 #[n] w fun e w' => ∃ v, e = .returned v ∧ TabA w' v t ∧ Ext w w' := by
  obtain ⟨u, rfl, hu⟩ := h
  refine (own_any u t w hu hl hf).mono ?_
  rintro e w' ⟨v', rfl, h, hx⟩
  exact ⟨_, rfl, ⟨v', rfl, h⟩, hx⟩
theorem rputA (n : Value) (t : List Ent) (b : Bat) (bp : Option Addr) (bn bc : Nat) (w : World) (h : TabA w n t) (hl : t.length ≤ 1000) (hf : FewT 1000 t) :
    Calls Try.prog 18 #[n, batv b (.slice bp bn bc)] w fun e w' => ∃ v, e = .returned v ∧ TabA w' v (putT t b) ∧ Ext w w' := by
  obtain ⟨u, rfl, hu⟩ := h
  refine (rput_any u t b bp bn bc w hu hl hf).mono ?_
  rintro e w' ⟨v', rfl, h, _, hx⟩
  exact ⟨_, rfl, ⟨v', rfl, TabV.any h⟩, hx⟩
theorem cutTA (n : Value) (t : List Ent) (next : Int) (w : World) (h : TabA w n t) (hl : t.length ≤ 1000) (hf : FewT 1000 t) :
    Calls Try.prog 21 #[n, .int .i64 next] w fun e w' => ∃ v, e = .returned v ∧ TabA w' v (cutT t next) ∧ Ext w w' := by
  obtain ⟨u, rfl, hu⟩ := h
  refine (cut_any u t next w hu hl hf).mono ?_
  rintro e w' ⟨v', rfl, h, hx⟩
  exact ⟨_, rfl, ⟨v', rfl, h⟩, hx⟩
theorem rcutA (n : Value) (t : List Ent) (next : Int) (w : World) (h : TabA w n t) (hl : t.length ≤ 1000) (hf : FewT 1000 t) :
    Calls Try.prog 22 #[n, .int .i64 next] w fun e w' => ∃ v, e = .returned v ∧ TabA w' v (cutT t next) ∧ Ext w w' := by
  obtain ⟨u, rfl, hu⟩ := h
  refine (rcut_any u t next w hu hl hf).mono ?_
  rintro e w' ⟨v', rfl, h, hx⟩
  exact ⟨_, rfl, ⟨v', rfl, h⟩, hx⟩
theorem rbuildA (v : Value) (l : List Bat) (w : World) (h : BatV w v l) (hl : l.length ≤ 900) :
    Calls Try.prog 23 #[v] w fun e w' => ∃ v, e = .returned v ∧ TabA w' v (buildT l) ∧ Ext w w' := by
  refine (rbuild_any v l w h hl).mono ?_
  rintro e w' ⟨v', rfl, h, hx⟩
  exact ⟨_, rfl, ⟨v', rfl, h⟩, hx⟩
theorem cutT_few {t : List Ent} {n : Nat} {next : Int} (h : FewT n t) : FewT n (cutT t next) := fun e he => by
  unfold cutT at he
  obtain ⟨x, hx, rfl⟩ := List.mem_map.1 ((List.mem_filter.1 he).1)
  exact Nat.le_trans (List.length_filter_le ..) (h x hx)

set_option maxRecDepth 20000 in
set_option maxHeartbeats 8000000 in
theorem producerAsks_walk (v : Value) (t : List Ent) (b : Bat) (vb : Value) (w : World) (h : TabV w v t) (hb : RecV w vb b.recs) :
    Calls Try.prog 3 #[.agg #[v], batv b vb] w fun e w' => e = .returned (.bool true) ∧ Ext w w' := by
  obtain ⟨p, c, rfl, hlc, hcm⟩ := h.slice
  obtain ⟨bp, bc, rfl, hbc, hbm⟩ := hb.slice
  generalize hbl : b.recs.length = bn at *
  obtain ⟨o1, o2, hx0, hsz⟩ := objs2 w 24 27 [.slice p t.length c] [.int .i64 b.base, .int .i64 b.count, .int .i64 b.prod, .int .i64 b.epoch, .int .i64 b.seq, .slice bp bn bc]
  have L1 := rlight13_any _ t _ (h.ext hx0)
  have L2 := fun W hW => rlightB_any b (.slice bp bn bc) W hW
  have t1 := o1.cell (j := 0) rfl
  have d0 := o2.cell (j := 0) rfl
  have d1 := o2.cell (j := 1) rfl
  have d2 := o2.cell (j := 2) rfl
  have d3 := o2.cell (j := 3) rfl
  have d4 := o2.cell (j := 4) rfl
  have d5 := o2.cell (j := 5) rfl
  clear o1 o2 hsz hlc hbc hbl
  have HB0 := Lib.hid (hb.ext hx0)
  have HT0 := Lib.hid (h.ext hx0)
  have HX0 := Lib.hid hx0
  clear h hb hx0
  cases hlt : lightT t with
  | false =>
    rw [hlt] at L1
    clear hlt
    go_enter Try.func3, Try.ntmps3
    go_wp2_with (first
      | (go_at_call 7; refine L1.mono ?_; rintro e w2 ⟨rfl, hx2⟩)
      | (go_at_call 9; refine (awake_any _).mono ?_; rintro e w3 ⟨rfl, hx3⟩))
    go_ret
    exact ⟨rfl, (HX0.out.trans hx2).trans hx3⟩
  | true =>
    rw [hlt] at L1
    obtain ⟨hl20, hfew⟩ := lightT_few hlt
    clear hlt
    cases hlb : lightB b with
    | false =>
      rw [hlb] at L2
      clear hlb
      go_enter Try.func3, Try.ntmps3
      go_wp2_with (first
        | (go_at_call 7; refine L1.mono ?_; rintro e w2 ⟨rfl, hx2⟩
           have d0 := hx2.cell d0
           have d1 := hx2.cell d1
           have d2 := hx2.cell d2
           have d3 := hx2.cell d3
           have d4 := hx2.cell d4
           have d5 := hx2.cell d5)
        | (go_at_call 8; refine (L2 _ (HB0.out.ext hx2)).mono ?_; rintro e w4 ⟨rfl, hx4⟩)
        | (go_at_call 9; refine (awake_any _).mono ?_; rintro e w3 ⟨rfl, hx3⟩))
      go_ret
      exact ⟨rfl, ((HX0.out.trans hx2).trans hx4).trans hx3⟩
    | true =>
      rw [hlb] at L2
      clear hlb
      have hf1000 : FewT 1000 t := hfew.mono (by omega)
      have hp1000 : FewT 1000 (putT t b) := putT_few (by omega) hf1000
      have hpl := putT_length t b
      have HF := Lib.hid hf1000
      have HPF := Lib.hid hp1000
      have HPL : Hid ((putT t b).length ≤ 1000) := Lib.hid (by omega)
      have HL : Hid (t.length ≤ 1000) := Lib.hid (by omega)
      have F1 := fun u W (hW : TabV W u t) => find_any u t b.prod W hW HL.out
      have F2 := fun u W (hW : TabV W u t) => rfind_any u t b.prod W hW
      have A1 := fun u W (hW : TabV W u t) => ask_any u t b bp bn bc W hW HL.out HF.out
      have A2 := fun u W (hW : TabV W u t) => rask_any u t b bp bn bc W hW HL.out HF.out
      generalize findE t b.prod = fe at *
      obtain ⟨⟨e0, e1, l⟩, is⟩ := fe
      generalize askT behS t b = ak at *
      obtain ⟨k0, k1, k2⟩ := ak
      have PU := fun u W (hW : TabV W u t) => put_any u t b bp bn bc W hW HL.out HF.out
      have PR := fun u W (hW : TabA W u t) => rputA u t b bp bn bc W hW HL.out HF.out
      have SQ := sameT_refl (putT t b)
      generalize putT t b = tp at *
      clear hfew hf1000 hp1000 hpl hl20
      go_enter Try.func3, Try.ntmps3
      go_wp2_with (first
        | (go_at_call 7; refine L1.mono ?_; rintro e w2 ⟨rfl, hx2⟩
           have d0' := hx2.cell d0
           have d1' := hx2.cell d1
           have d2' := hx2.cell d2
           have d3' := hx2.cell d3
           have d4' := hx2.cell d4
           have d5' := hx2.cell d5)
        | (go_at_call 8; refine (L2 _ (HB0.out.ext hx2)).mono ?_; rintro e w4 ⟨rfl, hx4⟩
           have t4 := (hx2.trans hx4).cell t1
           have O1 := own_any _ t w4 (HT0.out.ext (hx2.trans hx4)) HL.out HF.out)
        | (go_at_call 10; refine O1.mono ?_; rintro e w5 ⟨v5, rfl, hT5, hx5⟩
           obtain ⟨p5, c5, e5, _, _⟩ := hT5.slice
           subst e5
           have hxb := Ext.alloc w5 (.cells #[.slice p5 t.length c5] 33)
           have o5 : ObjAt (w5.alloc (.cells #[.slice p5 t.length c5] 33)) w5.heap.size 33 [.slice p5 t.length c5] := heap_alloc_new w5 _
           have x5 := o5.cell (j := 0) rfl
           have hxc := (hx2.trans hx4).trans (hx5.trans hxb)
           have HT5 := Lib.hid (hT5.ext hxb)
           have HXC := Lib.hid hxc
           have y1 := hxc.cell t1
           have y2 := hxc.cell d2
           have z0 := hxc.cell d0
           have z1 := hxc.cell d1
           have z3 := hxc.cell d3
           have z4 := hxc.cell d4
           have z5 := hxc.cell d5
           clear hT5 o5 hxb hxc)
        | (go_at_call 11; refine (A1 _ _ HT5.out).mono ?_; rintro e w6 ⟨rfl, hx6⟩
           have x6 := hx6.cell x5
           have y6 := hx6.cell y1
           have q0 := hx6.cell z0
           have q1 := hx6.cell z1
           have q2 := hx6.cell y2
           have q3 := hx6.cell z3
           have q4 := hx6.cell z4
           have q5 := hx6.cell z5)
        | (go_at_call 12; refine (A2 _ _ (HT0.out.ext (HXC.out.trans hx6))).mono ?_; rintro e w7 ⟨rfl, hx7⟩
           have x7 := hx7.cell x6
           have r0 := hx7.cell q0
           have r1 := hx7.cell q1
           have r2 := hx7.cell q2
           have r3 := hx7.cell q3
           have r4 := hx7.cell q4
           have r5 := hx7.cell q5)
        | (go_at_call 13; refine (PU _ _ (HT5.out.ext (hx6.trans hx7))).mono ?_; rintro e w8 ⟨v8, rfl, hT8, _, hx8⟩
           obtain ⟨p8, c8, e8, _, _⟩ := hT8.slice
           subst e8
           have hxb := Ext.alloc w8 (.cells #[.slice p8 tp.length c8] 33)
           have o8 : ObjAt (w8.alloc (.cells #[.slice p8 tp.length c8] 33)) w8.heap.size 33 [.slice p8 tp.length c8] := heap_alloc_new w8 _
           have g8 := o8.cell (j := 0) rfl
           have HT8 := Lib.hid ((TabV.any hT8).ext hxb)
           have hxd := hx8.trans hxb
           have x8 := hxd.cell x7
           have s2 := hxd.cell r2
           have HXD := Lib.hid ((hx6.trans hx7).trans hxd)
           clear hT8 o8 hxb hxd)
        | (go_at_call 14; refine (F1 _ _ (HT5.out.ext HXD.out)).mono ?_; rintro e w9 ⟨v9, rfl, hs9, hx9⟩
           obtain ⟨p9, c9, e9, _, hm9⟩ := hs9.slice
           subst e9
           unfold maxLen at hm9
           have hxb := Ext.alloc w9 (.cells #[.int .i64 e0, .int .i64 e1, .slice p9 l.length c9] 43)
           have o9 : ObjAt (w9.alloc (.cells #[.int .i64 e0, .int .i64 e1, .slice p9 l.length c9] 43)) w9.heap.size 43 [.int .i64 e0, .int .i64 e1, .slice p9 l.length c9] := heap_alloc_new w9 _
           have HX9 := Lib.hid (hx9.trans hxb)
           have y9 := (HXC.out.trans (HXD.out.trans HX9.out)).cell t1
           have s9 := HX9.out.cell s2
           clear hs9 hxb)
        | (go_at_call 15; refine (F2 _ _ (HT0.out.ext (HXC.out.trans (HXD.out.trans HX9.out)))).mono ?_; rintro e wa ⟨va, rfl, hsa, hxa⟩
           obtain ⟨pa, ca, ea, _, hma⟩ := hsa.slice
           subst ea
           unfold maxLen at hma
           have hxb := Ext.alloc wa (.cells #[.int .i64 e0, .int .i64 e1, .slice pa l.length ca] 48)
           have oa : ObjAt (wa.alloc (.cells #[.int .i64 e0, .int .i64 e1, .slice pa l.length ca] 48)) wa.heap.size 48 [.int .i64 e0, .int .i64 e1, .slice pa l.length ca] := heap_alloc_new wa _
           have HXA := Lib.hid (hxa.trans hxb)
           clear hsa hxb))
      have HXZ := Lib.hid (HXC.out.trans (HXD.out.trans (HX9.out.trans HXA.out)))
      have i0 := HXZ.out.cell t1
      have j0 := HXZ.out.cell d0
      have j1 := HXZ.out.cell d1
      have j2 := HXZ.out.cell d2
      have j3 := HXZ.out.cell d3
      have j4 := HXZ.out.cell d4
      have j5 := HXZ.out.cell d5
      have gy := (HX9.out.trans HXA.out).cell g8
      have gx := (HX9.out.trans HXA.out).cell x8
      have n0 := HXA.out.cell (o9.cell (j := 0) rfl)
      have n1 := HXA.out.cell (o9.cell (j := 1) rfl)
      have n2 := HXA.out.cell (o9.cell (j := 2) rfl)
      have m0 := oa.cell (j := 0) rfl
      have m1 := oa.cell (j := 1) rfl
      have m2 := oa.cell (j := 2) rfl
      have HTY := Lib.hid (HT8.out.ext (HX9.out.trans HXA.out))
      have HTX := Lib.hid (HT5.out.ext (HXD.out.trans (HX9.out.trans HXA.out)))
      have HTI := Lib.hid (HT0.out.ext HXZ.out)
      have SR := sameT_refl t
      clear t1 d0 d1 d2 d3 d4 d5 L1 L2 F1 F2 A1 A2 PU
      apply wp_region_dag (X := Ext) (by kernel_rfl) (by kernel_rfl) (fun _ _ _ => Ext.trans) (Ext.drew1 _)
      apply dag_val Ext.refl rfl (by intro W hW H; go_simp <;> rfl)
      simp only [Act.put, List.setIfInBounds_toArray, List.set_cons_zero, List.set_cons_succ]
      apply dag_val Ext.refl rfl (by intro W hW H; go_simp <;> rfl)
      simp only [Act.put, List.setIfInBounds_toArray, List.set_cons_zero, List.set_cons_succ]
      apply dag_val Ext.refl rfl (by intro W hW H; go_simp <;> rfl)
      simp only [Act.put, List.setIfInBounds_toArray, List.set_cons_zero, List.set_cons_succ]
      apply dag_val Ext.refl rfl (by intro W hW H; go_simp <;> rfl)
      simp only [Act.put, List.setIfInBounds_toArray, List.set_cons_zero, List.set_cons_succ]
      apply dag_val Ext.refl rfl (by intro W hW H; go_simp <;> rfl)
      simp only [Act.put, List.setIfInBounds_toArray, List.set_cons_zero, List.set_cons_succ]
      apply dag_val Ext.refl rfl (by intro W hW H; go_simp <;> rfl)
      simp only [Act.put, List.setIfInBounds_toArray, List.set_cons_zero, List.set_cons_succ]
      apply dag_val Ext.refl rfl (by intro W hW H; go_simp <;> rfl)
      simp only [Act.put, List.setIfInBounds_toArray, List.set_cons_zero, List.set_cons_succ]
      apply dag_val Ext.refl rfl (by intro W hW H; go_simp <;> rfl)
      simp only [Act.put, List.setIfInBounds_toArray, List.set_cons_zero, List.set_cons_succ]
      apply dag_val Ext.refl rfl (by intro W hW H; go_simp <;> rfl)
      simp only [Act.put, List.setIfInBounds_toArray, List.set_cons_zero, List.set_cons_succ]
      apply dag_val Ext.refl rfl (by intro W hW H; go_simp <;> rfl)
      simp only [Act.put, List.setIfInBounds_toArray, List.set_cons_zero, List.set_cons_succ]
      apply dag_val Ext.refl rfl (by intro W hW H; go_simp <;> rfl)
      simp only [Act.put, List.setIfInBounds_toArray, List.set_cons_zero, List.set_cons_succ]
      apply dag_val Ext.refl rfl (by intro W hW H; go_simp <;> rfl)
      simp only [Act.put, List.setIfInBounds_toArray, List.set_cons_zero, List.set_cons_succ]
      apply dag_val Ext.refl rfl (by intro W hW H; go_simp <;> rfl)
      simp only [Act.put, List.setIfInBounds_toArray, List.set_cons_zero, List.set_cons_succ]
      apply dag_val Ext.refl rfl (by intro W hW H; go_simp <;> rfl)
      simp only [Act.put, List.setIfInBounds_toArray, List.set_cons_zero, List.set_cons_succ]
      apply dag_val Ext.refl rfl (by intro W hW H; have q0 := hW.cell gy; go_simp <;> rfl)
      simp only [Act.put, List.setIfInBounds_toArray, List.set_cons_zero, List.set_cons_succ]
      refine' dag_calls (fun v W => TabA W v tp) (TabA.stab _) rfl (by intro W; go_simp <;> rfl) (fun W hW H => (asA _ tp W ⟨_, rfl, HTY.out.ext hW⟩ HPL.out HPF.out).mono (by rintro e w' ⟨v1, rfl, hf1, hx1⟩; exact ⟨_, rfl, hf1, hx1⟩)) (fun ua => _)
      rotate_left
      simp only [Act.put, List.setIfInBounds_toArray, List.set_cons_zero, List.set_cons_succ]
      apply dag_val Ext.refl rfl (by intro W hW H; have q0 := hW.cell i0; go_simp <;> rfl)
      simp only [Act.put, List.setIfInBounds_toArray, List.set_cons_zero, List.set_cons_succ]
      apply dag_val Ext.refl rfl (by intro W hW H; have q0 := hW.cell j0; have q1 := hW.cell j1; have q2 := hW.cell j2; have q3 := hW.cell j3; have q4 := hW.cell j4; have q5 := hW.cell j5; go_simp <;> rfl)
      simp only [Act.put, List.setIfInBounds_toArray, List.set_cons_zero, List.set_cons_succ]
      refine' dag_calls (fun v W => TabA W v tp) (TabA.stab _) rfl (by intro W; go_simp <;> rfl) (fun W hW H => (PR _ W ⟨_, rfl, HTI.out.ext hW⟩).mono (by rintro e w' ⟨v1, rfl, hf1, hx1⟩; exact ⟨_, rfl, hf1, hx1⟩)) (fun ub => _)
      rotate_left
      simp only [Act.put, List.setIfInBounds_toArray, List.set_cons_zero, List.set_cons_succ]
      refine' dag_call (c := .bool true) (f := 16) (args := #[ua, ub]) rfl (by intro W; go_simp <;> rfl) (fun W hW H => by have := rsameA ua ub tp tp W (H 15 (by kernel_rfl)) (H 18 (by kernel_rfl)); rw [SQ] at this; exact this) _
      rotate_left
      simp only [Act.put, List.setIfInBounds_toArray, List.set_cons_zero, List.set_cons_succ]
      apply dag_val Ext.refl rfl (by intro W hW H; go_simp <;> rfl)
      simp only [Act.put, List.setIfInBounds_toArray, List.set_cons_zero, List.set_cons_succ]
      apply dag_val Ext.refl rfl (by intro W hW H; go_simp <;> rfl)
      simp only [Act.put, List.setIfInBounds_toArray, List.set_cons_zero, List.set_cons_succ]
      apply dag_val Ext.refl rfl (by intro W hW H; have q0 := hW.cell gx; go_simp <;> rfl)
      simp only [Act.put, List.setIfInBounds_toArray, List.set_cons_zero, List.set_cons_succ]
      refine' dag_calls (fun v W => TabA W v t) (TabA.stab _) rfl (by intro W; go_simp <;> rfl) (fun W hW H => (asA _ t W ⟨_, rfl, HTX.out.ext hW⟩ HL.out HF.out).mono (by rintro e w' ⟨v1, rfl, hf1, hx1⟩; exact ⟨_, rfl, hf1, hx1⟩)) (fun uc => _)
      rotate_left
      simp only [Act.put, List.setIfInBounds_toArray, List.set_cons_zero, List.set_cons_succ]
      apply dag_val Ext.refl rfl (by intro W hW H; have q0 := hW.cell i0; go_simp <;> rfl)
      simp only [Act.put, List.setIfInBounds_toArray, List.set_cons_zero, List.set_cons_succ]
      refine' dag_call (c := .bool true) (f := 16) (args := #[uc, .agg #[.slice p t.length c]]) rfl (by intro W; go_simp <;> rfl) (fun W hW H => by have := rsameA uc (.agg #[.slice p t.length c]) t t W (H 23 (by kernel_rfl)) ⟨_, rfl, HTI.out.ext hW⟩; rw [SR] at this; exact this) _
      rotate_left
      simp only [Act.put, List.setIfInBounds_toArray, List.set_cons_zero, List.set_cons_succ]
      apply dag_val Ext.refl rfl (by intro W hW H; go_simp <;> rfl)
      simp only [Act.put, List.setIfInBounds_toArray, List.set_cons_zero, List.set_cons_succ]
      apply dag_val Ext.refl rfl (by intro W hW H; go_simp <;> rfl)
      simp only [Act.put, List.setIfInBounds_toArray, List.set_cons_zero, List.set_cons_succ]
      apply dag_val Ext.refl rfl (by intro W hW H; go_simp <;> rfl)
      simp only [Act.put, List.setIfInBounds_toArray, List.set_cons_zero, List.set_cons_succ]
      apply dag_val Ext.refl rfl (by intro W hW H; go_simp <;> rfl)
      simp only [Act.put, List.setIfInBounds_toArray, List.set_cons_zero, List.set_cons_succ]
      apply dag_val Ext.refl rfl (by intro W hW H; go_simp <;> rfl)
      simp only [Act.put, List.setIfInBounds_toArray, List.set_cons_zero, List.set_cons_succ]
      apply dag_val Ext.refl rfl (by intro W hW H; go_simp <;> rfl)
      simp only [Act.put, List.setIfInBounds_toArray, List.set_cons_zero, List.set_cons_succ]
      apply dag_val Ext.refl rfl (by intro W hW H; go_simp <;> rfl)
      simp only [Act.put, List.setIfInBounds_toArray, List.set_cons_zero, List.set_cons_succ]
      apply dag_val Ext.refl rfl (by intro W hW H; go_simp <;> rfl)
      simp only [Act.put, List.setIfInBounds_toArray, List.set_cons_zero, List.set_cons_succ]
      apply dag_val Ext.refl rfl (by intro W hW H; have q0 := hW.cell n0; go_simp <;> rfl)
      simp only [Act.put, List.setIfInBounds_toArray, List.set_cons_zero, List.set_cons_succ]
      apply dag_val Ext.refl rfl (by intro W hW H; go_simp <;> rfl)
      simp only [Act.put, List.setIfInBounds_toArray, List.set_cons_zero, List.set_cons_succ]
      apply dag_val Ext.refl rfl (by intro W hW H; have q0 := hW.cell m0; go_simp <;> rfl)
      simp only [Act.put, List.setIfInBounds_toArray, List.set_cons_zero, List.set_cons_succ]
      apply dag_val Ext.refl rfl (by intro W hW H; go_simp <;> rfl)
      simp only [Act.put, List.setIfInBounds_toArray, List.set_cons_zero, List.set_cons_succ]
      apply dag_val Ext.refl rfl (by intro W hW H; go_simp <;> rfl)
      simp only [Act.put, List.setIfInBounds_toArray, List.set_cons_zero, List.set_cons_succ]
      apply dag_val Ext.refl rfl (by intro W hW H; go_simp <;> rfl)
      simp only [Act.put, List.setIfInBounds_toArray, List.set_cons_zero, List.set_cons_succ]
      apply dag_val Ext.refl rfl (by intro W hW H; go_simp <;> rfl)
      simp only [Act.put, List.setIfInBounds_toArray, List.set_cons_zero, List.set_cons_succ]
      apply dag_val Ext.refl rfl (by intro W hW H; have q0 := hW.cell n1; go_simp <;> rfl)
      simp only [Act.put, List.setIfInBounds_toArray, List.set_cons_zero, List.set_cons_succ]
      apply dag_val Ext.refl rfl (by intro W hW H; go_simp <;> rfl)
      simp only [Act.put, List.setIfInBounds_toArray, List.set_cons_zero, List.set_cons_succ]
      apply dag_val Ext.refl rfl (by intro W hW H; have q0 := hW.cell m1; go_simp <;> rfl)
      simp only [Act.put, List.setIfInBounds_toArray, List.set_cons_zero, List.set_cons_succ]
      apply dag_val Ext.refl rfl (by intro W hW H; go_simp <;> rfl)
      simp only [Act.put, List.setIfInBounds_toArray, List.set_cons_zero, List.set_cons_succ]
      apply dag_val Ext.refl rfl (by intro W hW H; go_simp <;> rfl)
      simp only [Act.put, List.setIfInBounds_toArray, List.set_cons_zero, List.set_cons_succ]
      apply dag_val Ext.refl rfl (by intro W hW H; go_simp <;> rfl)
      simp only [Act.put, List.setIfInBounds_toArray, List.set_cons_zero, List.set_cons_succ]
      apply dag_val Ext.refl rfl (by intro W hW H; go_simp <;> rfl)
      simp only [Act.put, List.setIfInBounds_toArray, List.set_cons_zero, List.set_cons_succ]
      apply dag_val Ext.refl rfl (by intro W hW H; have q0 := hW.cell n2; go_simp <;> rfl)
      simp only [Act.put, List.setIfInBounds_toArray, List.set_cons_zero, List.set_cons_succ]
      apply dag_val Ext.refl rfl (by intro W hW H; go_simp <;> rfl)
      simp only [Act.put, List.setIfInBounds_toArray, List.set_cons_zero, List.set_cons_succ]
      apply dag_val Ext.refl rfl (by intro W hW H; go_simp <;> rfl)
      simp only [Act.put, List.setIfInBounds_toArray, List.set_cons_zero, List.set_cons_succ]
      apply dag_val Ext.refl rfl (by intro W hW H; have q0 := hW.cell m2; go_simp <;> rfl)
      simp only [Act.put, List.setIfInBounds_toArray, List.set_cons_zero, List.set_cons_succ]
      apply dag_val Ext.refl rfl (by intro W hW H; go_simp <;> rfl)
      simp only [Act.put, List.setIfInBounds_toArray, List.set_cons_zero, List.set_cons_succ]
      apply dag_val Ext.refl rfl (by intro W hW H; go_simp <;> rfl)
      simp only [Act.put, List.setIfInBounds_toArray, List.set_cons_zero, List.set_cons_succ]
      apply dag_val Ext.refl rfl (by intro W hW H; go_simp <;> rfl)
      simp only [Act.put, List.setIfInBounds_toArray, List.set_cons_zero, List.set_cons_succ]
      apply dag_val Ext.refl rfl (by intro W hW H; go_simp <;> rfl)
      simp only [Act.put, List.setIfInBounds_toArray, List.set_cons_zero, List.set_cons_succ]
      refine' dag_call (c := .bool true) (f := 9) (args := #[]) rfl (by intro W; go_simp <;> rfl) (fun W hW H => awake_any W) _
      rotate_left
      simp only [Act.put, List.setIfInBounds_toArray, List.set_cons_zero, List.set_cons_succ]
      apply dag_val Ext.refl rfl (by intro W hW H; go_simp <;> rfl)
      simp only [Act.put, List.setIfInBounds_toArray, List.set_cons_zero, List.set_cons_succ]
      apply dag_val Ext.refl rfl (by intro W hW H; go_simp <;> rfl)
      simp only [Act.put, List.setIfInBounds_toArray, List.set_cons_zero, List.set_cons_succ]
      refine dag_end fun W hW H => ?_
      clear H
      go_wp2_with fail
      go_ret
      exact ⟨rfl, (HX0.out.trans HXZ.out).trans hW⟩
end Go.Proofs.Ythiaaoiaabocfaa
