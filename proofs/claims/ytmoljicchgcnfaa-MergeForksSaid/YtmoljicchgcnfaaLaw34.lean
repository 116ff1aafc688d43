/- The statement MergeItems of layer 34: the walk of the law. -/
import Derived.Test.YtmoljicchgcnfaaAwake34
namespace Go.Proofs.Ytmoljicchgcnfaa
open Go.RowKit

abbrev pairv (x y : Itm) : Value := .agg #[.int .i64 x.list, .int .i64 x.off, .int .i64 x.time, .int .i64 x.rcd.delta, .int .i64 x.rcd.time, .bool x.rcd.keyed, .string ⟨x.rcd.key.toArray⟩, .bool x.rcd.dead, .string ⟨x.rcd.value.toArray⟩, .int .i64 y.list, .int .i64 y.off, .int .i64 y.time, .int .i64 y.rcd.delta, .int .i64 y.rcd.time, .bool y.rcd.keyed, .string ⟨y.rcd.key.toArray⟩, .bool y.rcd.dead, .string ⟨y.rcd.value.toArray⟩]
theorem items_few (n : Int) : ∀ (l : List Bat), l.all lightB = true → (itemsOf n l).length ≤ 40 * l.length
  | [], _ => Nat.zero_le _
  | b :: r, h => by
    rw [List.all_cons, Bool.and_eq_true] at h
    have ih := items_few n r h.2
    have hb := h.1
    unfold lightB at hb
    rw [Bool.and_eq_true] at hb
    have hb1 := of_decide_eq_true hb.1
    unfold itemsOf at *
    rw [List.map_cons, List.flatten_cons, List.length_append, List.length_cons]
    have : (itemsB n b).length = b.recs.length := by unfold itemsB; rw [List.length_map]
    omega
theorem light_few {l : List Bat} (h : lightA l 8 = true) (n : Int) : (itemsOf n l).length ≤ 320 := by
  unfold lightA at h
  rw [Bool.and_eq_true] at h
  have h1 := of_decide_eq_true h.1
  have h2 := items_few n l h.2
  omega

set_option maxRecDepth 20000 in
set_option maxHeartbeats 8000000 in
theorem mergeItems_walk (n : Int) (v : Value) (l : List Bat) (x y : Itm) (w : World) (_ : -9223372036854775808 ≤ n ∧ n ≤ 9223372036854775807) (h : BatV w v l) :
    Calls Try.prog 3 #[.int .i64 n, v, pairv x y] w fun e w' => e = .returned (.bool true) ∧ Ext w w' := by
  obtain ⟨p, c, rfl, hlc, hcm⟩ := h.slice
  have hx0 := Ext.alloc w (.cells #[.int .i64 x.list, .int .i64 x.off, .int .i64 x.time, .int .i64 x.rcd.delta, .int .i64 x.rcd.time, .bool x.rcd.keyed, .string ⟨x.rcd.key.toArray⟩, .bool x.rcd.dead, .string ⟨x.rcd.value.toArray⟩, .int .i64 y.list, .int .i64 y.off, .int .i64 y.time, .int .i64 y.rcd.delta, .int .i64 y.rcd.time, .bool y.rcd.keyed, .string ⟨y.rcd.key.toArray⟩, .bool y.rcd.dead, .string ⟨y.rcd.value.toArray⟩] 27)
  have ob0 : ObjAt (w.alloc (.cells #[.int .i64 x.list, .int .i64 x.off, .int .i64 x.time, .int .i64 x.rcd.delta, .int .i64 x.rcd.time, .bool x.rcd.keyed, .string ⟨x.rcd.key.toArray⟩, .bool x.rcd.dead, .string ⟨x.rcd.value.toArray⟩, .int .i64 y.list, .int .i64 y.off, .int .i64 y.time, .int .i64 y.rcd.delta, .int .i64 y.rcd.time, .bool y.rcd.keyed, .string ⟨y.rcd.key.toArray⟩, .bool y.rcd.dead, .string ⟨y.rcd.value.toArray⟩] 27)) w.heap.size 27 [.int .i64 x.list, .int .i64 x.off, .int .i64 x.time, .int .i64 x.rcd.delta, .int .i64 x.rcd.time, .bool x.rcd.keyed, .string ⟨x.rcd.key.toArray⟩, .bool x.rcd.dead, .string ⟨x.rcd.value.toArray⟩, .int .i64 y.list, .int .i64 y.off, .int .i64 y.time, .int .i64 y.rcd.delta, .int .i64 y.rcd.time, .bool y.rcd.keyed, .string ⟨y.rcd.key.toArray⟩, .bool y.rcd.dead, .string ⟨y.rcd.value.toArray⟩] := heap_alloc_new w _
  have hx1 := hx0.trans (Ext.alloc _ (.cells #[.slice p l.length c] 22))
  have ob1 := ob0.ext (Ext.alloc _ (.cells #[.slice p l.length c] 22))
  have hlit := bats_lit1 _ p l.length c l (h.ext hx0)
  rw [show (w.alloc (.cells #[.int .i64 x.list, .int .i64 x.off, .int .i64 x.time, .int .i64 x.rcd.delta, .int .i64 x.rcd.time, .bool x.rcd.keyed, .string ⟨x.rcd.key.toArray⟩, .bool x.rcd.dead, .string ⟨x.rcd.value.toArray⟩, .int .i64 y.list, .int .i64 y.off, .int .i64 y.time, .int .i64 y.rcd.delta, .int .i64 y.rcd.time, .bool y.rcd.keyed, .string ⟨y.rcd.key.toArray⟩, .bool y.rcd.dead, .string ⟨y.rcd.value.toArray⟩] 27)).heap.size = w.heap.size + 1 from by simp] at hlit
  have hsx : (ByteArray.mk x.rcd.key.toArray).size = x.rcd.key.length := text_size _
  have hsy : (ByteArray.mk y.rcd.key.toArray).size = y.rcd.key.length := text_size _
  have L1 := rlightL_any _ [l] _ hlit
  cases hlt : lightL [l] with
  | false =>
    rw [hlt] at L1
    clear hlt hlit hsx hsy
    go_enter Try.func3, Try.ntmps3
    go_wp2_with (first
      | (go_at_call 6; refine L1.mono ?_; rintro e w2 ⟨rfl, hx2⟩)
      | (go_at_call 7; refine (awake_any _).mono ?_; rintro e w3 ⟨rfl, hx3⟩))
    go_ret
    exact ⟨rfl, (hx1.trans hx2).trans hx3⟩
  | true =>
    rw [hlt] at L1
    have hfew : (itemsOf n l).length ≤ 320 := by
      unfold lightL at hlt
      simp only [List.all_cons, List.all_nil, Bool.and_true, Bool.and_eq_true] at hlt
      exact light_few hlt.2 n
    by_cases h4 : (400 : Int) < wrap64 ((x.rcd.key.length : Int) + (y.rcd.key.length : Int))
    · clear hlt hlit
      go_enter Try.func3, Try.ntmps3
      go_wp2_with (first
        | (go_at_call 6; refine L1.mono ?_; rintro e w2 ⟨rfl, hx2⟩
           have k6 := (ob1.ext hx2).cell (j := 6) rfl
           have k15 := (ob1.ext hx2).cell (j := 15) rfl)
        | (go_at_call 7; refine (awake_any _).mono ?_; rintro e w3 ⟨rfl, hx3⟩))
      go_ret
      exact ⟨rfl, (hx1.trans hx2).trans hx3⟩
    · have I1 := fun W hW => items_any n (.slice p l.length c) l W hW (by omega)
      have I2 := fun W hW => ritems_any n (.slice p l.length c) l W hW (by omega)
      have E1 := fun W => less_any x y W
      have E2 := fun W => rless_any x y W
      have S1 := fun z W => isame_any z z W
      have hzz : (lessI x y == lessI x y) = true := by simp
      generalize itemsOf n l = xs at *
      generalize lessI x y = lxy at *
      clear hlt hlit
      go_enter Try.func3, Try.ntmps3
      go_wp2_with (first
        | (go_at_call 6; refine L1.mono ?_; rintro e w2 ⟨rfl, hx2⟩
           have k6 := (ob1.ext hx2).cell (j := 6) rfl
           have k15 := (ob1.ext hx2).cell (j := 15) rfl
           have hx2a := hx1.trans hx2)
        | (go_at_call 8; refine (I1 _ (h.ext hx2a)).mono ?_; rintro e w3 ⟨v3, rfl, ho3, hx3⟩
           obtain ⟨pa, ca, e3, _, hca⟩ := (itm_view ho3).slice
           subst e3
           have hx3a := hx2a.trans hx3)
        | (go_at_call 9; refine (I2 _ (h.ext hx3a)).mono ?_; rintro e w4 ⟨v4, rfl, ho4, hx4⟩
           obtain ⟨pb, cb, e4, _, hcb⟩ := (itm_view ho4).slice
           subst e4
           have hx4a := hx3a.trans hx4
           have va := (itm_view ho3).ext hx4
           have vb := itm_view ho4
           have ob4 := ((ob1.ext hx2).ext hx3).ext hx4))
      clear k6 k15 I1 I2 L1
      go_loopg [9] (xs.length) (fun k s9 wr => ∃ j : Nat, s9 = .int .i64 j ∧ j ≤ xs.length ∧ k = xs.length - j ∧ Ext w4 wr)
      case atStart => exact ⟨0, rfl, Nat.zero_le _, rfl, Ext.refl _⟩
      case round =>
        obtain ⟨j, rfl, hj, hk, hx⟩ := hrel
        by_cases hjl : j < xs.length
        case pos =>
          have hi : (j : Int) < (xs.length : Int) := by omega
          obtain ⟨ba, oa, rfl, ⟨a0, a1, a2, a3, a4, a5, a6, a7, a8⟩⟩ := itm_at (va.ext hx) hjl
          obtain ⟨bb, ob, rfl, ⟨d0, d1, d2, d3, d4, d5, d6, d7, d8⟩⟩ := itm_at (vb.ext hx) hjl
          have Z1 := S1 xs[j]
          generalize xs[j] = z at *
          rw [sameI_refl] at Z1
          clear hjl
          go_wp2_with fail
          apply wp_region_dag (X := Ext) (by kernel_rfl) (by kernel_rfl) (fun _ _ _ => Ext.trans) (Ext.drew1 _)
          apply dag_val Ext.refl rfl (by intro W hW H; go_simp <;> rfl)
          simp only [Act.put, List.setIfInBounds_toArray, List.set_cons_zero, List.set_cons_succ]
          apply dag_val Ext.refl rfl (by intro W hW H; go_simp <;> rfl)
          simp only [Act.put, List.setIfInBounds_toArray, List.set_cons_zero, List.set_cons_succ]
          apply dag_val Ext.refl rfl (by intro W hW H; go_simp <;> rfl)
          simp only [Act.put, List.setIfInBounds_toArray, List.set_cons_zero, List.set_cons_succ]
          apply dag_val Ext.refl rfl (by intro W hW H; have q0 := hW.cell a0; have q1 := hW.cell a1; have q2 := hW.cell a2; have q3 := hW.cell a3; have q4 := hW.cell a4; have q5 := hW.cell a5; have q6 := hW.cell a6; have q7 := hW.cell a7; have q8 := hW.cell a8; go_simp <;> rfl)
          simp only [Act.put, List.setIfInBounds_toArray, List.set_cons_zero, List.set_cons_succ]
          apply dag_val Ext.refl rfl (by intro W hW H; go_simp <;> rfl)
          simp only [Act.put, List.setIfInBounds_toArray, List.set_cons_zero, List.set_cons_succ]
          apply dag_val Ext.refl rfl (by intro W hW H; go_simp <;> rfl)
          simp only [Act.put, List.setIfInBounds_toArray, List.set_cons_zero, List.set_cons_succ]
          apply dag_val Ext.refl rfl (by intro W hW H; go_simp <;> rfl)
          simp only [Act.put, List.setIfInBounds_toArray, List.set_cons_zero, List.set_cons_succ]
          apply dag_val Ext.refl rfl (by intro W hW H; have q0 := hW.cell d0; have q1 := hW.cell d1; have q2 := hW.cell d2; have q3 := hW.cell d3; have q4 := hW.cell d4; have q5 := hW.cell d5; have q6 := hW.cell d6; have q7 := hW.cell d7; have q8 := hW.cell d8; go_simp <;> rfl)
          simp only [Act.put, List.setIfInBounds_toArray, List.set_cons_zero, List.set_cons_succ]
          refine' dag_call (c := .bool true) (f := 10) (args := #[itmv z, itmv z]) rfl (by intro W; go_simp <;> rfl) (fun W hW H => Z1 W) _
          rotate_left
          simp only [Act.put, List.setIfInBounds_toArray, List.set_cons_zero, List.set_cons_succ]
          apply dag_val Ext.refl rfl (by intro W hW H; go_simp <;> rfl)
          simp only [Act.put, List.setIfInBounds_toArray, List.set_cons_zero, List.set_cons_succ]
          refine dag_end fun W hW H => ?_
          clear H
          go_wp2_with fail
          go_roundg (xs.length - (j + 1))
          case measure => omega
          case rel => exact ⟨j + 1, by go_num, by omega, rfl, hx.trans hW⟩
        case neg =>
          have hje : j = xs.length := by omega
          subst hje
          have hi : ¬ (xs.length : Int) < (xs.length : Int) := by omega
          have ob5 := ob4.ext hx
          have k0 := ob5.cell (j := 0) rfl
          have k1 := ob5.cell (j := 1) rfl
          have k2 := ob5.cell (j := 2) rfl
          have k3 := ob5.cell (j := 3) rfl
          have k4 := ob5.cell (j := 4) rfl
          have k5 := ob5.cell (j := 5) rfl
          have k6 := ob5.cell (j := 6) rfl
          have k7 := ob5.cell (j := 7) rfl
          have k8 := ob5.cell (j := 8) rfl
          have k9 := ob5.cell (j := 9) rfl
          have k10 := ob5.cell (j := 10) rfl
          have k11 := ob5.cell (j := 11) rfl
          have k12 := ob5.cell (j := 12) rfl
          have k13 := ob5.cell (j := 13) rfl
          have k14 := ob5.cell (j := 14) rfl
          have k15 := ob5.cell (j := 15) rfl
          have k16 := ob5.cell (j := 16) rfl
          have k17 := ob5.cell (j := 17) rfl
          have hx5a := hx4a.trans hx
          clear hjl hx ob5
          go_wp2_with fail
          apply wp_region_dag_tail 14 (X := Ext) (by kernel_rfl) (by kernel_rfl) (by kernel_rfl) (by decide) (fun _ _ _ => Ext.trans) (Ext.drew1 _)
          simp only [List.take_succ_cons, List.take_zero, List.drop_succ_cons, List.drop_zero]
          apply dag_val Ext.refl rfl (by intro W hW H; go_simp <;> rfl)
          simp only [Act.put, List.setIfInBounds_toArray, List.set_cons_zero, List.set_cons_succ]
          apply dag_val Ext.refl rfl (by intro W hW H; have q0 := hW.cell k0; have q1 := hW.cell k1; have q2 := hW.cell k2; have q3 := hW.cell k3; have q4 := hW.cell k4; have q5 := hW.cell k5; have q6 := hW.cell k6; have q7 := hW.cell k7; have q8 := hW.cell k8; go_simp <;> rfl)
          simp only [Act.put, List.setIfInBounds_toArray, List.set_cons_zero, List.set_cons_succ]
          apply dag_val Ext.refl rfl (by intro W hW H; go_simp <;> rfl)
          simp only [Act.put, List.setIfInBounds_toArray, List.set_cons_zero, List.set_cons_succ]
          apply dag_val Ext.refl rfl (by intro W hW H; have q9 := hW.cell k9; have q10 := hW.cell k10; have q11 := hW.cell k11; have q12 := hW.cell k12; have q13 := hW.cell k13; have q14 := hW.cell k14; have q15 := hW.cell k15; have q16 := hW.cell k16; have q17 := hW.cell k17; go_simp <;> rfl)
          simp only [Act.put, List.setIfInBounds_toArray, List.set_cons_zero, List.set_cons_succ]
          refine' dag_call (c := .bool lxy) (f := 11) (args := #[itmv x, itmv y]) rfl (by intro W; go_simp <;> rfl) (fun W hW H => E1 W) _
          rotate_left
          simp only [Act.put, List.setIfInBounds_toArray, List.set_cons_zero, List.set_cons_succ]
          apply dag_val Ext.refl rfl (by intro W hW H; go_simp <;> rfl)
          simp only [Act.put, List.setIfInBounds_toArray, List.set_cons_zero, List.set_cons_succ]
          apply dag_val Ext.refl rfl (by intro W hW H; have q0 := hW.cell k0; have q1 := hW.cell k1; have q2 := hW.cell k2; have q3 := hW.cell k3; have q4 := hW.cell k4; have q5 := hW.cell k5; have q6 := hW.cell k6; have q7 := hW.cell k7; have q8 := hW.cell k8; go_simp <;> rfl)
          simp only [Act.put, List.setIfInBounds_toArray, List.set_cons_zero, List.set_cons_succ]
          apply dag_val Ext.refl rfl (by intro W hW H; go_simp <;> rfl)
          simp only [Act.put, List.setIfInBounds_toArray, List.set_cons_zero, List.set_cons_succ]
          apply dag_val Ext.refl rfl (by intro W hW H; have q9 := hW.cell k9; have q10 := hW.cell k10; have q11 := hW.cell k11; have q12 := hW.cell k12; have q13 := hW.cell k13; have q14 := hW.cell k14; have q15 := hW.cell k15; have q16 := hW.cell k16; have q17 := hW.cell k17; go_simp <;> rfl)
          simp only [Act.put, List.setIfInBounds_toArray, List.set_cons_zero, List.set_cons_succ]
          refine' dag_call (c := .bool lxy) (f := 12) (args := #[itmv x, itmv y]) rfl (by intro W; go_simp <;> rfl) (fun W hW H => E2 W) _
          rotate_left
          simp only [Act.put, List.setIfInBounds_toArray, List.set_cons_zero, List.set_cons_succ]
          apply dag_val Ext.refl rfl (by intro W hW H; go_simp <;> rfl)
          simp only [Act.put, List.setIfInBounds_toArray, List.set_cons_zero, List.set_cons_succ]
          apply dag_val Ext.refl rfl (by intro W hW H; go_simp <;> rfl)
          simp only [Act.put, List.setIfInBounds_toArray, List.set_cons_zero, List.set_cons_succ]
          refine' dag_call (c := .bool true) (f := 7) (args := #[]) rfl (by intro W; go_simp <;> rfl) (fun W hW H => awake_any W) _
          rotate_left
          simp only [Act.put, List.setIfInBounds_toArray, List.set_cons_zero, List.set_cons_succ]
          apply dag_val Ext.refl rfl (by intro W hW H; go_simp <;> rfl)
          simp only [Act.put, List.setIfInBounds_toArray, List.set_cons_zero, List.set_cons_succ]
          refine dag_end fun W hW H => ?_
          clear H
          go_wp2_with fail
          go_ret
          exact ⟨rfl, hx5a.trans hW⟩
end Go.Proofs.Ytmoljicchgcnfaa
