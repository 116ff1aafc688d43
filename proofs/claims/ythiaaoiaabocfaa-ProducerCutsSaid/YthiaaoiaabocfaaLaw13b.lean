/- The statement ProducerCuts of layer 13: the walk of the law. -/
import Derived.Test.YthiaaoiaabocfaaLaw13
namespace Go.Proofs.Ythiaaoiaabocfaa
open Go.RowKit

set_option maxRecDepth 20000 in
set_option maxHeartbeats 8000000 in
theorem producerCuts_walk (v : Value) (t : List Ent) (next : Int) (lv : Value) (l : List Bat) (w : World) (h : TabV w v t) (hi : -9223372036854775808 ≤ next ∧ next ≤ 9223372036854775807) (hb : BatV w lv l) :
    Calls Try.prog 6 #[.agg #[v], .int .i64 next, lv] w fun e w' => e = .returned (.bool true) ∧ Ext w w' := by
  obtain ⟨p, c, rfl, hlc, hcm⟩ := h.slice
  obtain ⟨bp, bc, rfl, hbc, hbm⟩ := hb.slice
  have hx0 := Ext.alloc w (.cells #[.slice p t.length c] 24)
  have o1 : ObjAt (w.alloc (.cells #[.slice p t.length c] 24)) w.heap.size 24 [.slice p t.length c] := heap_alloc_new w _
  have L1 := rlight13_any _ t _ (h.ext hx0)
  have L2 := fun W hW => rlightA_any (.slice bp l.length bc) l 30 W hW (by omega)
  have t1 := o1.cell (j := 0) rfl
  clear o1 hlc hbc hi
  have HB0 := Lib.hid (hb.ext hx0)
  have HT0 := Lib.hid (h.ext hx0)
  have HX0 := Lib.hid hx0
  clear h hb hx0
  cases hlt : lightT t with
  | false =>
    rw [hlt] at L1
    clear hlt
    go_enter Try.func6, Try.ntmps6
    go_wp2_with (first
      | (go_at_call 7; refine L1.mono ?_; rintro e w2 ⟨rfl, hx2⟩)
      | (go_at_call 9; refine (awake_any _).mono ?_; rintro e w3 ⟨rfl, hx3⟩))
    go_ret
    exact ⟨rfl, (HX0.out.trans hx2).trans hx3⟩
  | true =>
    rw [hlt] at L1
    obtain ⟨hl20, hfew⟩ := lightT_few hlt
    clear hlt
    cases hlb : lightA l 30 with
    | false =>
      rw [hlb] at L2
      clear hlb
      go_enter Try.func6, Try.ntmps6
      go_wp2_with (first
        | (go_at_call 7; refine L1.mono ?_; rintro e w2 ⟨rfl, hx2⟩)
        | (go_at_call 19; refine (L2 _ (HB0.out.ext hx2)).mono ?_; rintro e w4 ⟨rfl, hx4⟩)
        | (go_at_call 9; refine (awake_any _).mono ?_; rintro e w3 ⟨rfl, hx3⟩))
      go_ret
      exact ⟨rfl, ((HX0.out.trans hx2).trans hx4).trans hx3⟩
    | true =>
      rw [hlb] at L2
      have hl30 : l.length ≤ 30 := by
        unfold lightA at hlb
        rw [Bool.and_eq_true, decide_eq_true_iff] at hlb
        exact hlb.1
      clear hlb
      have hf1000 : FewT 1000 t := hfew.mono (by omega)
      have HF := Lib.hid hf1000
      have HL : Hid (t.length ≤ 1000) := Lib.hid (by omega)
      have HCL : Hid ((cutT t next).length ≤ 1000) := Lib.hid (by have := cutT_length t next; omega)
      have HCF := Lib.hid (cutT_few (next := next) hf1000)
      have hbl := buildT_length l
      have HBL : Hid ((buildT l).length ≤ 1000) := Lib.hid (by omega)
      have HBF : Hid (FewT 1000 (buildT l)) := Lib.hid ((buildT_few l).mono (by omega))
      have B1 := fun W (hW : BatV W (.slice bp l.length bc) l) => build_any _ l W hW (by omega)
      have B2 := fun W (hW : BatV W (.slice bp l.length bc) l) => rbuildA _ l W hW (by omega)
      have C1 := fun n W (hW : TabA W n t) => cutTA n t next W hW HL.out HF.out
      have C2 := fun n W (hW : TabA W n t) => rcutA n t next W hW HL.out HF.out
      have SC := sameT_refl (cutT t next)
      have SB := sameT_refl (buildT l)
      generalize cutT t next = ct at *
      generalize buildT l = bt at *
      obtain ⟨T, hT⟩ : ∃ T, sameT bt t = T := ⟨_, rfl⟩
      have HT := Lib.hid hT
      clear hfew hf1000 hl20 hbl hl30 hT
      go_enter Try.func6, Try.ntmps6
      go_wp2_with (first
        | (go_at_call 7; refine L1.mono ?_; rintro e w2 ⟨rfl, hx2⟩)
        | (go_at_call 19; refine (L2 _ (HB0.out.ext hx2)).mono ?_; rintro e w4 ⟨rfl, hx4⟩)
        | (go_at_call 20; refine (B1 _ (HB0.out.ext (hx2.trans hx4))).mono ?_; rintro e w5 ⟨v5, rfl, hT5, hx5⟩
           obtain ⟨p5, c5, e5, _, _⟩ := hT5.slice
           subst e5
           have hxb := Ext.alloc w5 (.cells #[.slice p5 bt.length c5] 33)
           have o5 : ObjAt (w5.alloc (.cells #[.slice p5 bt.length c5] 33)) w5.heap.size 33 [.slice p5 bt.length c5] := heap_alloc_new w5 _
           have x5 := o5.cell (j := 0) rfl
           have hxc := (hx2.trans hx4).trans (hx5.trans hxb)
           have HT5 := Lib.hid (hT5.ext hxb)
           have HXC := Lib.hid hxc
           have y1 := hxc.cell t1
           clear hT5 o5 hxb hxc))
      have HBI := Lib.hid (HB0.out.ext HXC.out)
      have HTI := Lib.hid (HT0.out.ext HXC.out)
      clear t1 L1 L2 B1
      apply wp_region_dag (X := Ext) (by kernel_rfl) (by kernel_rfl) (fun _ _ _ => Ext.trans) (Ext.drew1 _)
      apply dag_val Ext.refl rfl (by intro W hW H; have q0 := hW.cell y1; go_simp <;> rfl)
      simp only [Act.put, List.setIfInBounds_toArray, List.set_cons_zero, List.set_cons_succ]
      refine' dag_calls (fun v W => TabA W v t) (TabA.stab _) rfl (by intro W; go_simp <;> rfl) (fun W hW H => (ownA _ t W ⟨_, rfl, HTI.out.ext hW⟩ HL.out HF.out).mono (by rintro e w' ⟨v1, rfl, hf1, hx1⟩; exact ⟨_, rfl, hf1, hx1⟩)) (fun ua => _)
      rotate_left
      simp only [Act.put, List.setIfInBounds_toArray, List.set_cons_zero, List.set_cons_succ]
      apply dag_val Ext.refl rfl (by intro W hW H; go_simp <;> rfl)
      simp only [Act.put, List.setIfInBounds_toArray, List.set_cons_zero, List.set_cons_succ]
      refine' dag_calls (fun v W => TabA W v ct) (TabA.stab _) rfl (by intro W; go_simp <;> rfl) (fun W hW H => (C1 _ W (H 1 (by kernel_rfl))).mono (by rintro e w' ⟨v1, rfl, hf1, hx1⟩; exact ⟨_, rfl, hf1, hx1⟩)) (fun ub => _)
      rotate_left
      simp only [Act.put, List.setIfInBounds_toArray, List.set_cons_zero, List.set_cons_succ]
      refine' dag_calls (fun v W => TabA W v ct) (TabA.stab _) rfl (by intro W; go_simp <;> rfl) (fun W hW H => (asA _ ct W (H 3 (by kernel_rfl)) HCL.out HCF.out).mono (by rintro e w' ⟨v1, rfl, hf1, hx1⟩; exact ⟨_, rfl, hf1, hx1⟩)) (fun uc => _)
      rotate_left
      simp only [Act.put, List.setIfInBounds_toArray, List.set_cons_zero, List.set_cons_succ]
      apply dag_val Ext.refl rfl (by intro W hW H; have q0 := hW.cell y1; go_simp <;> rfl)
      simp only [Act.put, List.setIfInBounds_toArray, List.set_cons_zero, List.set_cons_succ]
      apply dag_val Ext.refl rfl (by intro W hW H; go_simp <;> rfl)
      simp only [Act.put, List.setIfInBounds_toArray, List.set_cons_zero, List.set_cons_succ]
      refine' dag_calls (fun v W => TabA W v ct) (TabA.stab _) rfl (by intro W; go_simp <;> rfl) (fun W hW H => (C2 _ W ⟨_, rfl, HTI.out.ext hW⟩).mono (by rintro e w' ⟨v1, rfl, hf1, hx1⟩; exact ⟨_, rfl, hf1, hx1⟩)) (fun ud => _)
      rotate_left
      simp only [Act.put, List.setIfInBounds_toArray, List.set_cons_zero, List.set_cons_succ]
      refine' dag_call (c := .bool true) (f := 16) (args := #[uc, ud]) rfl (by intro W; go_simp <;> rfl) (fun W hW H => by have := rsameA uc ud ct ct W (H 4 (by kernel_rfl)) (H 7 (by kernel_rfl)); rw [SC] at this; exact this) _
      rotate_left
      simp only [Act.put, List.setIfInBounds_toArray, List.set_cons_zero, List.set_cons_succ]
      apply dag_val Ext.refl rfl (by intro W hW H; go_simp <;> rfl)
      simp only [Act.put, List.setIfInBounds_toArray, List.set_cons_zero, List.set_cons_succ]
      apply dag_val Ext.refl rfl (by intro W hW H; have q0 := hW.cell x5; go_simp <;> rfl)
      simp only [Act.put, List.setIfInBounds_toArray, List.set_cons_zero, List.set_cons_succ]
      refine' dag_calls (fun v W => TabA W v bt) (TabA.stab _) rfl (by intro W; go_simp <;> rfl) (fun W hW H => (asA _ bt W ⟨_, rfl, HT5.out.ext hW⟩ HBL.out HBF.out).mono (by rintro e w' ⟨v1, rfl, hf1, hx1⟩; exact ⟨_, rfl, hf1, hx1⟩)) (fun ue => _)
      rotate_left
      simp only [Act.put, List.setIfInBounds_toArray, List.set_cons_zero, List.set_cons_succ]
      apply dag_val Ext.refl rfl (by intro W hW H; go_simp <;> rfl)
      simp only [Act.put, List.setIfInBounds_toArray, List.set_cons_zero, List.set_cons_succ]
      refine' dag_calls (fun v W => TabA W v bt) (TabA.stab _) rfl (by intro W; go_simp <;> rfl) (fun W hW H => (B2 W (HBI.out.ext hW)).mono (by rintro e w' ⟨v1, rfl, hf1, hx1⟩; exact ⟨_, rfl, hf1, hx1⟩)) (fun uf => _)
      rotate_left
      simp only [Act.put, List.setIfInBounds_toArray, List.set_cons_zero, List.set_cons_succ]
      refine' dag_call (c := .bool true) (f := 16) (args := #[ue, uf]) rfl (by intro W; go_simp <;> rfl) (fun W hW H => by have := rsameA ue uf bt bt W (H 11 (by kernel_rfl)) (H 13 (by kernel_rfl)); rw [SB] at this; exact this) _
      rotate_left
      simp only [Act.put, List.setIfInBounds_toArray, List.set_cons_zero, List.set_cons_succ]
      apply dag_val Ext.refl rfl (by intro W hW H; go_simp <;> rfl)
      simp only [Act.put, List.setIfInBounds_toArray, List.set_cons_zero, List.set_cons_succ]
      apply dag_val Ext.refl rfl (by intro W hW H; go_simp <;> rfl)
      simp only [Act.put, List.setIfInBounds_toArray, List.set_cons_zero, List.set_cons_succ]
      apply dag_val Ext.refl rfl (by intro W hW H; have q0 := hW.cell x5; go_simp <;> rfl)
      simp only [Act.put, List.setIfInBounds_toArray, List.set_cons_zero, List.set_cons_succ]
      apply dag_val Ext.refl rfl (by intro W hW H; have q0 := hW.cell y1; go_simp <;> rfl)
      simp only [Act.put, List.setIfInBounds_toArray, List.set_cons_zero, List.set_cons_succ]
      refine' dag_calls (fun v W => TabA W v t) (TabA.stab _) rfl (by intro W; go_simp <;> rfl) (fun W hW H => (ownA _ t W ⟨_, rfl, HTI.out.ext hW⟩ HL.out HF.out).mono (by rintro e w' ⟨v1, rfl, hf1, hx1⟩; exact ⟨_, rfl, hf1, hx1⟩)) (fun ug => _)
      rotate_left
      simp only [Act.put, List.setIfInBounds_toArray, List.set_cons_zero, List.set_cons_succ]
      refine' dag_call (c := .bool T) (f := 24) (args := #[.agg #[.slice p5 bt.length c5], ug]) rfl (by intro W; go_simp <;> rfl) (fun W hW H => by have := sameA (.agg #[.slice p5 bt.length c5]) ug bt t W ⟨_, rfl, HT5.out.ext hW⟩ (H 19 (by kernel_rfl)); rw [HT.out] at this; exact this) _
      rotate_left
      simp only [Act.put, List.setIfInBounds_toArray, List.set_cons_zero, List.set_cons_succ]
      apply dag_val Ext.refl rfl (by intro W hW H; go_simp <;> rfl)
      simp only [Act.put, List.setIfInBounds_toArray, List.set_cons_zero, List.set_cons_succ]
      refine' dag_calls (fun v W => TabA W v bt) (TabA.stab _) rfl (by intro W; go_simp <;> rfl) (fun W hW H => (B2 W (HBI.out.ext hW)).mono (by rintro e w' ⟨v1, rfl, hf1, hx1⟩; exact ⟨_, rfl, hf1, hx1⟩)) (fun uh => _)
      rotate_left
      simp only [Act.put, List.setIfInBounds_toArray, List.set_cons_zero, List.set_cons_succ]
      apply dag_val Ext.refl rfl (by intro W hW H; have q0 := hW.cell y1; go_simp <;> rfl)
      simp only [Act.put, List.setIfInBounds_toArray, List.set_cons_zero, List.set_cons_succ]
      refine' dag_call (c := .bool T) (f := 16) (args := #[uh, .agg #[.slice p t.length c]]) rfl (by intro W; go_simp <;> rfl) (fun W hW H => by have := rsameA uh (.agg #[.slice p t.length c]) bt t W (H 22 (by kernel_rfl)) ⟨_, rfl, HTI.out.ext hW⟩; rw [HT.out] at this; exact this) _
      rotate_left
      simp only [Act.put, List.setIfInBounds_toArray, List.set_cons_zero, List.set_cons_succ]
      apply dag_val Ext.refl rfl (by intro W hW H; go_simp <;> rfl)
      simp only [Act.put, List.setIfInBounds_toArray, List.set_cons_zero, List.set_cons_succ]
      apply dag_val Ext.refl rfl (by intro W hW H; go_simp <;> rfl)
      simp only [Act.put, List.setIfInBounds_toArray, List.set_cons_zero, List.set_cons_succ]
      apply dag_val Ext.refl rfl (by intro W hW H; go_simp <;> rfl)
      simp only [Act.put, List.setIfInBounds_toArray, List.set_cons_zero, List.set_cons_succ]
      refine' dag_call (c := .bool true) (f := 9) (args := #[]) rfl (by intro W; go_simp <;> rfl) (fun W hW H => awake_any W) _
      rotate_left
      simp only [Act.put, List.setIfInBounds_toArray, List.set_cons_zero, List.set_cons_succ]
      apply dag_val Ext.refl rfl (by intro W hW H; go_simp <;> rfl)
      simp only [Act.put, List.setIfInBounds_toArray, List.set_cons_zero, List.set_cons_succ]
      apply dag_val Ext.refl rfl (by intro W hW H; go_simp <;> rfl)
      simp only [Act.put, List.setIfInBounds_toArray, List.set_cons_zero, List.set_cons_succ]
      refine dag_end fun W hW H => ?_
      clear H
      go_wp2_with fail
      go_ret
      exact ⟨rfl, (HX0.out.trans HXC.out).trans hW⟩
end Go.Proofs.Ythiaaoiaabocfaa
