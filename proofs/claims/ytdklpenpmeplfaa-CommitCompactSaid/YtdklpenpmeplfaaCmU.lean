/- What the document's functions of layer 21 compute: order, place, Find, Light; rows that are one; copies. -/
import Derived.Test.YtdklpenpmeplfaaCmO
import Derived.Test.YtdklpenpmeplfaaCmE
import Derived.Test.YtdklpenpmeplfaaCmL
namespace Go.Proofs.Ytdklpenpmeplfaa
open Go.RowKit

set_option maxHeartbeats 4000000 in
theorem rorder_any (a b : Cm) (w : World) :
    Calls Try.prog 75 #[cmv a, cmv b] w fun e w' => e = .returned (.int .i64 (ordC a b)) ∧ Ext w w' := by
  obtain ⟨g1, t1, i1, o1⟩ := a
  obtain ⟨g2, t2, i2, o2⟩ := b
  obtain ⟨oa, ob, hx0, hsz⟩ := objs2 w 23 23 [.string ⟨g1.toArray⟩, .string ⟨t1.toArray⟩, .int .i64 i1, .int .i64 o1] [.string ⟨g2.toArray⟩, .string ⟨t2.toArray⟩, .int .i64 i2, .int .i64 o2]
  have a0 := oa.cell (j := 0) rfl
  have a1 := oa.cell (j := 1) rfl
  have a2 := oa.cell (j := 2) rfl
  have b0 := ob.cell (j := 0) rfl
  have b1 := ob.cell (j := 1) rfl
  have b2 := ob.cell (j := 2) rfl
  clear oa ob
  have HSZ := Lib.hid hsz
  clear hsz
  obtain ⟨R, hR⟩ : ∃ R, ordC ⟨g1, t1, i1, o1⟩ ⟨g2, t2, i2, o2⟩ = R := ⟨_, rfl⟩
  rw [hR]
  unfold ordC at hR
  simp only at hR
  cases h1 : Op.bytesLess g1 g2 with
  | true =>
    have hc : cmpS g1 g2 = -1 := by unfold cmpS; rw [h1]; rfl
    rw [hc] at hR
    have hR2 : R = -1 := by rw [← hR]; rfl
    subst hR2
    clear hR hc
    go_enter Try.func75, Try.ntmps75
    go_wp2_with fail
    go_ret
    exact ⟨rfl, hx0⟩
  | false =>
    cases h2 : Op.bytesLess g2 g1 with
    | true =>
      have hc : cmpS g1 g2 = 1 := by unfold cmpS; rw [h1, h2]; rfl
      rw [hc] at hR
      have hR2 : R = 1 := by rw [← hR]; rfl
      subst hR2
      have he : (g1 == g2) = false := by rw [beq_eq_false_iff_ne]; rintro rfl; rw [ltS_irrefl] at h2; cases h2
      clear hR hc h2
      go_enter Try.func75, Try.ntmps75
      go_wp2_with fail
      go_ret
      exact ⟨rfl, hx0⟩
    | false =>
      have hgg := ltS_total g1 g2 h1 h2
      subst hgg
      have he : (g1 == g1) = true := by simp
      have hc : cmpS g1 g1 = 0 := cmpS_zero.2 rfl
      rw [hc, if_neg (by simp)] at hR
      clear hc h2
      cases h3 : Op.bytesLess t1 t2 with
      | true =>
        have hc : cmpS t1 t2 = -1 := by unfold cmpS; rw [h3]; rfl
        rw [hc] at hR
        have hR2 : R = -1 := by rw [← hR]; rfl
        subst hR2
        clear hR hc
        go_enter Try.func75, Try.ntmps75
        go_wp2_with fail
        go_ret
        exact ⟨rfl, hx0⟩
      | false =>
        cases h4 : Op.bytesLess t2 t1 with
        | true =>
          have hc : cmpS t1 t2 = 1 := by unfold cmpS; rw [h3, h4]; rfl
          rw [hc] at hR
          have hR2 : R = 1 := by rw [← hR]; rfl
          subst hR2
          have hf : (t1 == t2) = false := by rw [beq_eq_false_iff_ne]; rintro rfl; rw [ltS_irrefl] at h4; cases h4
          clear hR hc h4
          go_enter Try.func75, Try.ntmps75
          go_wp2_with fail
          go_ret
          exact ⟨rfl, hx0⟩
        | false =>
          have htt := ltS_total t1 t2 h3 h4
          subst htt
          have hf : (t1 == t1) = true := by simp
          have hc : cmpS t1 t1 = 0 := cmpS_zero.2 rfl
          rw [hc, if_neg (by simp)] at hR
          clear hc h4
          unfold cmpI at hR
          by_cases h5 : i1 < i2
          · rw [if_pos h5] at hR
            subst hR
            go_enter Try.func75, Try.ntmps75
            go_wp2_with fail
            go_ret
            exact ⟨rfl, hx0⟩
          · rw [if_neg h5] at hR
            by_cases h6 : i2 < i1
            · rw [if_pos h6] at hR
              subst hR
              have hn : (i1 == i2) = false := by rw [beq_eq_false_iff_ne]; omega
              go_enter Try.func75, Try.ntmps75
              go_wp2_with fail
              go_ret
              exact ⟨rfl, hx0⟩
            · rw [if_neg h6] at hR
              subst hR
              have hii : i1 = i2 := by omega
              subst hii
              have hn : (i1 == i1) = true := by simp
              clear h6
              go_enter Try.func75, Try.ntmps75
              go_wp2_with fail
              go_ret
              exact ⟨rfl, hx0⟩
set_option maxHeartbeats 1000000 in
theorem rplace_any (v : Value) (t : List Cm) (c : Cm) (w : World) (h : CmV w v t) :
    Calls Try.prog 48 #[v, cmv c] w fun e w' => e = .returned (.int .i64 (placeF (isC c) t)) ∧ Ext w w' := by
  have hx0 := Ext.alloc w (.cells #[.string ⟨c.group.toArray⟩, .string ⟨c.topic.toArray⟩, .int .i64 c.index, .int .i64 c.offset] 23)
  have ho : ObjAt (w.alloc (.cells #[.string ⟨c.group.toArray⟩, .string ⟨c.topic.toArray⟩, .int .i64 c.index, .int .i64 c.offset] 23)) w.heap.size 23 (cmCells c) := heap_alloc_new w _
  obtain ⟨q, d, rfl, hn, hc⟩ := h.slice
  unfold maxLen at hc
  have d0 := ho.cell (j := 0) rfl
  have d1 := ho.cell (j := 1) rfl
  have d2 := ho.cell (j := 2) rfl
  have d3 := ho.cell (j := 3) rfl
  clear ho
  have HX0 := Lib.hid hx0
  go_enter Try.func48, Try.ntmps48
  go_wp2_with fail
  go_loopg [5] (t.length) (fun k s5 wr => ∃ j : Nat, s5 = .int .i64 j ∧ j ≤ t.length ∧ k = t.length - j ∧ Hid (∀ i x, i < j → t[i]? = some x → isC c x = false) ∧ Ext (w.alloc (.cells #[.string ⟨c.group.toArray⟩, .string ⟨c.topic.toArray⟩, .int .i64 c.index, .int .i64 c.offset] 23)) wr)
  case atStart => exact ⟨0, rfl, Nat.zero_le _, rfl, fun i x hi => by omega, Ext.refl _⟩
  case round =>
    obtain ⟨j, rfl, hj, hk, HA, hx⟩ := hrel
    by_cases hlt : j < t.length
    case pos =>
      have hi : (j : Int) < (t.length : Int) := by omega
      obtain ⟨b, o, rfl, ⟨m0, m1, m2, m3⟩⟩ := cm_at (h.ext (HX0.out.trans hx)) hlt
      have e0 := hx.cell d0
      have e1 := hx.cell d1
      have e2 := hx.cell d2
      have e3 := hx.cell d3
      have hget : t[j]? = some t[j] := List.getElem?_eq_getElem hlt
      have HGET := Lib.hid hget
      have O1 := fun W => rorder_any t[j] c W
      generalize hisc : isC c t[j] = B at *
      have hord : (ordC t[j] c == 0) = B := hisc
      have HB := Lib.hid hisc
      generalize ordC t[j] c = oz at *
      generalize t[j] = en at *
      clear hget hisc
      go_wp2_with fail
      apply wp_region_dag (X := Ext) (by kernel_rfl) (by kernel_rfl) (fun _ _ _ => Ext.trans) (Ext.drew1 _)
      apply dag_val Ext.refl rfl (by intro W hW H; go_simp <;> rfl)
      simp only [Act.put, List.setIfInBounds_toArray, List.set_cons_zero, List.set_cons_succ]
      apply dag_val Ext.refl rfl (by intro W hW H; go_simp <;> rfl)
      simp only [Act.put, List.setIfInBounds_toArray, List.set_cons_zero, List.set_cons_succ]
      apply dag_val Ext.refl rfl (by intro W hW H; go_simp <;> rfl)
      simp only [Act.put, List.setIfInBounds_toArray, List.set_cons_zero, List.set_cons_succ]
      apply dag_val Ext.refl rfl (by intro W hW H; have q0 := hW.cell m0; have q1 := hW.cell m1; have q2 := hW.cell m2; have q3 := hW.cell m3; go_simp <;> rfl)
      simp only [Act.put, List.setIfInBounds_toArray, List.set_cons_zero, List.set_cons_succ]
      apply dag_val Ext.refl rfl (by intro W hW H; have q0 := hW.cell e0; have q1 := hW.cell e1; have q2 := hW.cell e2; have q3 := hW.cell e3; go_simp <;> rfl)
      simp only [Act.put, List.setIfInBounds_toArray, List.set_cons_zero, List.set_cons_succ]
      refine' dag_call (c := .int .i64 oz) (f := 75) (args := #[cmv en, cmv c]) rfl (by intro W; go_simp <;> rfl) (fun W hW H => O1 W) _
      rotate_left
      simp only [Act.put, List.setIfInBounds_toArray, List.set_cons_zero, List.set_cons_succ]
      apply dag_val Ext.refl rfl (by intro W hW H; go_simp <;> rfl)
      simp only [Act.put, List.setIfInBounds_toArray, List.set_cons_zero, List.set_cons_succ]
      refine dag_end fun W hW H => ?_
      clear H
      cases hB : B with
      | true =>
        rw [hB] at hord HB
        clear hB
        go_wp2_with fail
        go_ret
        refine ⟨?_, (HX0.out.trans hx).trans hW⟩
        have hje : t[j] = en := by have := HGET.out; rw [List.getElem?_eq_getElem hlt] at this; exact Option.some.inj this
        unfold placeF
        rw [find_found hlt (by rw [hje]; exact HB.out) fun i x hi hx => HA.out i x hi hx]
        rfl
      | false =>
        rw [hB] at hord HB
        clear hB
        go_wp2_with fail
        go_roundg (t.length - (j + 1))
        case measure => omega
        case rel =>
          refine ⟨j + 1, by go_num, hlt, rfl, fun i x hi hxx => ?_, hx.trans hW⟩
          by_cases hij : i = j
          · subst hij
            have := HGET.out
            rw [hxx] at this
            cases this
            exact HB.out
          · exact HA.out i x (by omega) hxx
    case neg =>
      have hje : j = t.length := by omega
      subst hje
      have hi : ¬ (t.length : Int) < (t.length : Int) := by omega
      clear hlt
      go_wp2_with fail
      go_ret
      refine ⟨?_, HX0.out.trans hx⟩
      unfold placeF
      rw [find_none fun i x hxx => HA.out i x (List.getElem?_eq_some_iff.1 hxx).1 hxx]
      rfl
set_option maxHeartbeats 1000000 in
theorem rfind_any (v : Value) (t : List Cm) (c : Cm) (w : World) (h : CmV w v t) (ho : c.offset = 0) :
    Calls Try.prog 23 #[v, .string ⟨c.group.toArray⟩, .string ⟨c.topic.toArray⟩, .int .i64 c.index] w fun e w' => e = .returned (.tuple #[.int .i64 (findC t c).1, .bool (findC t c).2]) ∧ Ext w w' := by
  have P1 := fun W h => rplace_any v t c W h
  obtain ⟨q, d, rfl, hn, hc⟩ := h.slice
  unfold maxLen at hc
  obtain ⟨g, s, i, o⟩ := c
  simp only at ho
  subst ho
  simp only at *
  cases hf : t.findIdx? (isC ⟨g, s, i, 0⟩) with
  | none =>
    obtain ⟨e1, e2⟩ := findC_none hf
    rw [e1]
    rw [e2] at P1
    clear hf e1 e2
    go_enter Try.func23, Try.ntmps23
    go_wp2_with (go_at_call 48; refine (P1 _ h).mono ?_; rintro e w1 ⟨rfl, hx1⟩)
    go_ret2
    exact ⟨rfl, hx1⟩
  | some j =>
    obtain ⟨hj, e1, e2⟩ := findC_some hf
    rw [e1]
    rw [e2] at P1
    have hji : (j : Int) < (t.length : Int) := by omega
    clear hf e1 e2
    obtain ⟨b, o, rfl, ⟨m0, m1, m2, m3⟩⟩ := cm_at h hj
    generalize t[j] = en at *
    go_enter Try.func23, Try.ntmps23
    go_wp2_with (go_at_call 48; refine (P1 _ h).mono ?_; rintro e w1 ⟨rfl, hx1⟩
                 have n3 := hx1.cell m3)
    go_ret2
    exact ⟨rfl, hx1⟩
theorem reqCm_run (a b : Cm) (w : World) : (Op.equalIn 10000 23 (cmv a) (cmv b)).run Try.prog w = .ok (eqC a b) w := by
  obtain ⟨g1, t1, i1, o1⟩ := a
  obtain ⟨g2, t2, i2, o2⟩ := b
  have u3 := Try.underlying3
  have a3 := Try.isAgg3
  have z3 := Try.sizeOf3
  have u9 := Try.underlying9
  have a9 := Try.isAgg9
  have z9 := Try.sizeOf9
  have hS : Try.prog.underlying 23 = some (.struct (Try.prog.fieldsOf 23)) := by kernel_rfl
  have hp : Try.prog.stoodInHeld 23 = false := by kernel_rfl
  rw [show (10000 : Nat) = 9999 + 1 from rfl, run_equalIn_agg w 9999 23 _ _ hS hp]
  simp only [Program.fieldsOf, Try.underlying23]
  go_simp
  unfold eqC
  by_cases h1 : g1 = g2 <;> by_cases h2 : t1 = t2 <;> by_cases h3 : i1 = i2 <;> by_cases h4 : o1 = o2 <;> simp [h1, h2, h3, h4]
theorem run_rneqCm {o : Oper} {a : Act} {x y : Operand} {ty : TypeId} (ho : o.op = .binOp .neq 23 x y ty) {c d : Cm} (hx : a.eval x = cmv c) (hy : a.eval y = cmv d) (W : World) :
    (execOp a.eval o).run Try.prog W = .ok (.value (.bool (!eqC c d))) W := by
  have hm : Try.prog.eqGuardType Try.prog.depth 23 = false := by kernel_rfl
  simp [execOp, ho, hx, hy, run_eqGuard_agg W .neq 23 x y _ _ hm, run_neq_struct, reqCm_run, Result.andThen]
theorem run_reqlCm {o : Oper} {a : Act} {x y : Operand} {ty : TypeId} (ho : o.op = .binOp .eql 23 x y ty) {c d : Cm} (hx : a.eval x = cmv c) (hy : a.eval y = cmv d) (W : World) :
    (execOp a.eval o).run Try.prog W = .ok (.value (.bool (eqC c d))) W := by
  have hm : Try.prog.eqGuardType Try.prog.depth 23 = false := by kernel_rfl
  simp [execOp, ho, hx, hy, run_eqGuard_agg W .eql 23 x y _ _ hm, run_eql_struct, reqCm_run, Result.andThen]
set_option maxHeartbeats 1000000 in
theorem equalC_any (v v' : Value) (a b : List Cm) (w : World) (h : CmV w v a) (h' : CmV w v' b) :
    Calls Try.prog 50 #[v, v'] w fun e w' => e = .returned (.bool (sameC a b)) ∧ Ext w w' := by
  obtain ⟨p, c, rfl, hn, hc⟩ := h.slice
  obtain ⟨p', c', rfl, hn', hc'⟩ := h'.slice
  unfold maxLen at hc hc'
  unfold sameC
  by_cases hl : a.length = b.length
  case neg =>
    have hl2 : ((a.length : Int) == (b.length : Int)) = false := by simp; omega
    have hl3 : (a.length == b.length) = false := by simp [hl]
    rw [hl3, Bool.false_and]
    clear hl hl3
    go_enter Try.func50, Try.ntmps50
    go_wp2_with fail
    go_ret
    exact ⟨rfl, Ext.refl _⟩
  have hl2 : ((a.length : Int) == (b.length : Int)) = true := by simp; omega
  have hl3 : (a.length == b.length) = true := by simp [hl]
  rw [hl3, Bool.true_and]
  have HL := Lib.hid hl
  obtain ⟨RES, hres⟩ : ∃ r, ((List.range a.length).all fun i => eqC (a.getD i cm0) (b.getD i cm0)) = r := ⟨_, rfl⟩
  rw [hres]
  have HRES := Lib.hid hres
  clear hl3 hl hres
  go_enter Try.func50, Try.ntmps50
  go_wp2_with fail
  go_loopg [13] (a.length) (fun k s8 wr => ∃ j : Nat, s8 = .int .i64 j ∧ j ≤ a.length ∧ k = a.length - j ∧ Hid (∀ i, i < j → eqC (a.getD i cm0) (b.getD i cm0) = true) ∧ Ext w wr)
  case atStart => exact ⟨0, rfl, Nat.zero_le _, rfl, fun i hi => by omega, Ext.refl _⟩
  case round =>
    obtain ⟨j, rfl, hj, hk, HA, hx⟩ := hrel
    by_cases hlt : j < a.length
    case pos =>
      have hi : (j : Int) < (a.length : Int) := by omega
      have hltb : j < b.length := by rw [← HL.out]; exact hlt
      have hib : (j : Int) < (b.length : Int) := by omega
      obtain ⟨q, o, rfl, ⟨m0, m1, m2, m3⟩⟩ := cm_at (h.ext hx) hlt
      obtain ⟨q', o', rfl, ⟨n0, n1, n2, n3⟩⟩ := cm_at (h'.ext hx) hltb
      have hga : a.getD j cm0 = a[j] := by simp [List.getD_eq_getElem?_getD, hlt]
      have hgb : b.getD j cm0 = b[j] := by simp [List.getD_eq_getElem?_getD, hltb]
      generalize a[j] = x at *
      generalize b[j] = y at *
      have HGA := Lib.hid hga
      have HGB := Lib.hid hgb
      clear hga hgb hl2
      go_wp2_with fail
      apply wp_region_dag (X := Ext) (by kernel_rfl) (by kernel_rfl) (fun _ _ _ => Ext.trans) (Ext.drew1 _)
      apply dag_val Ext.refl rfl (by intro W hW H; go_simp <;> rfl)
      simp only [Act.put, List.setIfInBounds_toArray, List.set_cons_zero, List.set_cons_succ]
      apply dag_val Ext.refl rfl (by intro W hW H; go_simp <;> rfl)
      simp only [Act.put, List.setIfInBounds_toArray, List.set_cons_zero, List.set_cons_succ]
      apply dag_val Ext.refl rfl (by intro W hW H; go_simp <;> rfl)
      simp only [Act.put, List.setIfInBounds_toArray, List.set_cons_zero, List.set_cons_succ]
      apply dag_val Ext.refl rfl (by intro W hW H; have q0 := hW.cell m0; have q1 := hW.cell m1; have q2 := hW.cell m2; have q3 := hW.cell m3; go_simp <;> rfl)
      simp only [Act.put, List.setIfInBounds_toArray, List.set_cons_zero, List.set_cons_succ]
      apply dag_val Ext.refl rfl (by intro W hW H; go_simp <;> rfl)
      simp only [Act.put, List.setIfInBounds_toArray, List.set_cons_zero, List.set_cons_succ]
      apply dag_val Ext.refl rfl (by intro W hW H; go_simp <;> rfl)
      simp only [Act.put, List.setIfInBounds_toArray, List.set_cons_zero, List.set_cons_succ]
      apply dag_val Ext.refl rfl (by intro W hW H; go_simp <;> rfl)
      simp only [Act.put, List.setIfInBounds_toArray, List.set_cons_zero, List.set_cons_succ]
      apply dag_val Ext.refl rfl (by intro W hW H; have q0 := hW.cell n0; have q1 := hW.cell n1; have q2 := hW.cell n2; have q3 := hW.cell n3; go_simp <;> rfl)
      simp only [Act.put, List.setIfInBounds_toArray, List.set_cons_zero, List.set_cons_succ]
      refine' dag_val Ext.refl rfl (fun W hW H => run_neqCm rfl (c := x) (d := y) rfl rfl W) _
      rotate_left
      simp only [Act.put, List.setIfInBounds_toArray, List.set_cons_zero, List.set_cons_succ]
      refine dag_end fun W hW H => ?_
      clear H
      cases hT : eqC x y with
      | true =>
        have HT := Lib.hid hT
        clear hT
        go_wp2_with fail
        go_roundg (a.length - (j + 1))
        case measure => omega
        case rel =>
          refine ⟨j + 1, by go_num, hlt, rfl, fun i hi2 => ?_, hx.trans hW⟩
          by_cases hij : i = j
          · subst hij
            rw [HGA.out, HGB.out]
            exact HT.out
          · exact HA.out i (by omega)
      | false =>
        have HT := Lib.hid hT
        clear hT
        go_wp2_with fail
        go_ret
        refine ⟨?_, hx.trans hW⟩
        rw [← HRES.out, all_found hlt (by rw [HGA.out, HGB.out]; exact HT.out)]
        rfl
    case neg =>
      have hje : j = a.length := by omega
      subst hje
      have hi : ¬ (a.length : Int) < (a.length : Int) := by omega
      clear hlt
      go_wp2_with fail
      go_ret
      refine ⟨?_, hx⟩
      rw [← HRES.out, all_none HA.out]
      rfl
set_option maxHeartbeats 1000000 in
theorem rsameC_any (v v' : Value) (a b : List Cm) (w : World) (h : CmV w v a) (h' : CmV w v' b) :
    Calls Try.prog 24 #[v, v'] w fun e w' => e = .returned (.bool (sameC a b)) ∧ Ext w w' := by
  obtain ⟨p, c, rfl, hn, hc⟩ := h.slice
  obtain ⟨p', c', rfl, hn', hc'⟩ := h'.slice
  unfold maxLen at hc hc'
  unfold sameC
  by_cases hl : a.length = b.length
  case neg =>
    have hl2 : ((a.length : Int) == (b.length : Int)) = false := by simp; omega
    have hl3 : (a.length == b.length) = false := by simp [hl]
    rw [hl3, Bool.false_and]
    clear hl hl3
    go_enter Try.func24, Try.ntmps24
    go_wp2_with fail
    go_ret
    exact ⟨rfl, Ext.refl _⟩
  have hl2 : ((a.length : Int) == (b.length : Int)) = true := by simp; omega
  have hl3 : (a.length == b.length) = true := by simp [hl]
  rw [hl3, Bool.true_and]
  have HL := Lib.hid hl
  obtain ⟨RES, hres⟩ : ∃ r, ((List.range a.length).all fun i => eqC (a.getD i cm0) (b.getD i cm0)) = r := ⟨_, rfl⟩
  rw [hres]
  have HRES := Lib.hid hres
  clear hl3 hl hres
  go_enter Try.func24, Try.ntmps24
  go_wp2_with fail
  go_loopg [5] (a.length) (fun k s8 wr => ∃ j : Nat, s8 = .int .i64 j ∧ j ≤ a.length ∧ k = a.length - j ∧ Hid (∀ i, i < j → eqC (a.getD i cm0) (b.getD i cm0) = true) ∧ Ext w wr)
  case atStart => exact ⟨0, rfl, Nat.zero_le _, rfl, fun i hi => by omega, Ext.refl _⟩
  case round =>
    obtain ⟨j, rfl, hj, hk, HA, hx⟩ := hrel
    by_cases hlt : j < a.length
    case pos =>
      have hi : (j : Int) < (a.length : Int) := by omega
      have hltb : j < b.length := by rw [← HL.out]; exact hlt
      have hib : (j : Int) < (b.length : Int) := by omega
      obtain ⟨q, o, rfl, ⟨m0, m1, m2, m3⟩⟩ := cm_at (h.ext hx) hlt
      obtain ⟨q', o', rfl, ⟨n0, n1, n2, n3⟩⟩ := cm_at (h'.ext hx) hltb
      have hga : a.getD j cm0 = a[j] := by simp [List.getD_eq_getElem?_getD, hlt]
      have hgb : b.getD j cm0 = b[j] := by simp [List.getD_eq_getElem?_getD, hltb]
      generalize a[j] = x at *
      generalize b[j] = y at *
      have HGA := Lib.hid hga
      have HGB := Lib.hid hgb
      clear hga hgb hl2
      go_wp2_with fail
      apply wp_region_dag (X := Ext) (by kernel_rfl) (by kernel_rfl) (fun _ _ _ => Ext.trans) (Ext.drew1 _)
      apply dag_val Ext.refl rfl (by intro W hW H; go_simp <;> rfl)
      simp only [Act.put, List.setIfInBounds_toArray, List.set_cons_zero, List.set_cons_succ]
      apply dag_val Ext.refl rfl (by intro W hW H; go_simp <;> rfl)
      simp only [Act.put, List.setIfInBounds_toArray, List.set_cons_zero, List.set_cons_succ]
      apply dag_val Ext.refl rfl (by intro W hW H; go_simp <;> rfl)
      simp only [Act.put, List.setIfInBounds_toArray, List.set_cons_zero, List.set_cons_succ]
      apply dag_val Ext.refl rfl (by intro W hW H; have q0 := hW.cell m0; have q1 := hW.cell m1; have q2 := hW.cell m2; have q3 := hW.cell m3; go_simp <;> rfl)
      simp only [Act.put, List.setIfInBounds_toArray, List.set_cons_zero, List.set_cons_succ]
      apply dag_val Ext.refl rfl (by intro W hW H; go_simp <;> rfl)
      simp only [Act.put, List.setIfInBounds_toArray, List.set_cons_zero, List.set_cons_succ]
      apply dag_val Ext.refl rfl (by intro W hW H; go_simp <;> rfl)
      simp only [Act.put, List.setIfInBounds_toArray, List.set_cons_zero, List.set_cons_succ]
      apply dag_val Ext.refl rfl (by intro W hW H; go_simp <;> rfl)
      simp only [Act.put, List.setIfInBounds_toArray, List.set_cons_zero, List.set_cons_succ]
      apply dag_val Ext.refl rfl (by intro W hW H; have q0 := hW.cell n0; have q1 := hW.cell n1; have q2 := hW.cell n2; have q3 := hW.cell n3; go_simp <;> rfl)
      simp only [Act.put, List.setIfInBounds_toArray, List.set_cons_zero, List.set_cons_succ]
      refine' dag_val Ext.refl rfl (fun W hW H => run_rneqCm rfl (c := x) (d := y) rfl rfl W) _
      rotate_left
      simp only [Act.put, List.setIfInBounds_toArray, List.set_cons_zero, List.set_cons_succ]
      refine dag_end fun W hW H => ?_
      clear H
      cases hT : eqC x y with
      | true =>
        have HT := Lib.hid hT
        clear hT
        go_wp2_with fail
        go_roundg (a.length - (j + 1))
        case measure => omega
        case rel =>
          refine ⟨j + 1, by go_num, hlt, rfl, fun i hi2 => ?_, hx.trans hW⟩
          by_cases hij : i = j
          · subst hij
            rw [HGA.out, HGB.out]
            exact HT.out
          · exact HA.out i (by omega)
      | false =>
        have HT := Lib.hid hT
        clear hT
        go_wp2_with fail
        go_ret
        refine ⟨?_, hx.trans hW⟩
        rw [← HRES.out, all_found hlt (by rw [HGA.out, HGB.out]; exact HT.out)]
        rfl
    case neg =>
      have hje : j = a.length := by omega
      subst hje
      have hi : ¬ (a.length : Int) < (a.length : Int) := by omega
      clear hlt
      go_wp2_with fail
      go_ret
      refine ⟨?_, hx⟩
      rw [← HRES.out, all_none HA.out]
      rfl
theorem csame_any (v v' : Value) (a b : List Cm) (w : World) (h : CmV w v a) (h' : CmV w v' b) :
    Calls Try.prog 27 #[v, v'] w fun e w' => e = .returned (.bool (sameC a b)) ∧ Ext w w' := by
  have E1 := equalC_any v v' a b w h h'
  go_enter Try.func27, Try.ntmps27
  go_wp2_with (go_at_call 50; refine E1.mono ?_; rintro e w1 ⟨rfl, hx1⟩)
  go_ret
  exact ⟨rfl, hx1⟩
def lightC (l : List Cm) : Bool := decide (l.length ≤ 30) && l.all fun c => decide (c.group.length ≤ 60) && decide (c.topic.length ≤ 60)
set_option maxHeartbeats 1000000 in
theorem rlightC_any (v : Value) (l : List Cm) (w : World) (h : CmV w v l) :
    Calls Try.prog 7 #[v] w fun e w' => e = .returned (.bool (lightC l)) ∧ Ext w w' := by
  obtain ⟨p, c, rfl, hn, hc⟩ := h.slice
  unfold maxLen at hc
  unfold lightC
  by_cases hl : l.length ≤ 30
  case neg =>
    have hl2 : (30 : Int) < (l.length : Int) := by omega
    rw [decide_eq_false hl, Bool.false_and]
    clear hl
    go_enter Try.func7, Try.ntmps7
    go_wp2_with fail
    go_ret
    exact ⟨rfl, Ext.refl _⟩
  have hl2 : ¬ (30 : Int) < (l.length : Int) := by omega
  rw [decide_eq_true hl, Bool.true_and]
  obtain ⟨RES, hres⟩ : ∃ r, (l.all fun c => decide (c.group.length ≤ 60) && decide (c.topic.length ≤ 60)) = r := ⟨_, rfl⟩
  rw [hres]
  have HRES := Lib.hid hres
  clear hl hres
  go_enter Try.func7, Try.ntmps7
  go_wp2_with fail
  go_loopg [3] (l.length) (fun k s3 wr => ∃ j : Nat, s3 = .int .i64 j ∧ j ≤ l.length ∧ k = l.length - j ∧ Hid ((l.drop j).all (fun c => decide (c.group.length ≤ 60) && decide (c.topic.length ≤ 60)) = RES) ∧ wr = w)
  case atStart => exact ⟨0, rfl, Nat.zero_le _, rfl, by rw [List.drop_zero]; exact HRES, rfl⟩
  case round =>
    obtain ⟨j, rfl, hj, hk, HA, rfl⟩ := hrel
    by_cases hlt : j < l.length
    case pos =>
      have hi : (j : Int) < (l.length : Int) := by omega
      obtain ⟨b, o, rfl, ⟨m0, m1, m2, m3⟩⟩ := cm_at h hlt
      have ha := HA.out
      rw [all_drop hlt] at ha
      generalize l[j] = x at *
      obtain ⟨x0, x1, x2, x3⟩ := x
      simp only at m0 m1 ha
      have hs1 : (ByteArray.mk x0.toArray).size = x0.length := text_size _
      have hs2 : (ByteArray.mk x1.toArray).size = x1.length := text_size _
      by_cases g1 : x0.length ≤ 60
      · have g1' : ¬ (60 : Int) < (x0.length : Int) := by omega
        rw [decide_eq_true g1, Bool.true_and] at ha
        by_cases g2 : x1.length ≤ 60
        · have g2' : ¬ (60 : Int) < (x1.length : Int) := by omega
          rw [decide_eq_true g2, Bool.true_and] at ha
          have HA2 := Lib.hid ha
          clear ha g1 g2 HA
          go_wp2_with fail
          go_roundg (l.length - (j + 1))
          case measure => omega
          case rel => exact ⟨j + 1, by go_num, hlt, rfl, HA2, rfl⟩
        · have g2' : (60 : Int) < (x1.length : Int) := by omega
          rw [decide_eq_false g2, Bool.false_and] at ha
          subst ha
          clear g1 g2
          go_wp2_with fail
          go_ret
          exact ⟨rfl, Ext.refl _⟩
      · have g1' : (60 : Int) < (x0.length : Int) := by omega
        rw [decide_eq_false g1, Bool.false_and, Bool.false_and] at ha
        subst ha
        clear g1
        go_wp2_with fail
        go_ret
        exact ⟨rfl, Ext.refl _⟩
    case neg =>
      have hje : j = l.length := by omega
      subst hje
      have hi : ¬ (l.length : Int) < (l.length : Int) := by omega
      have ha := HA.out
      rw [List.drop_length, List.all_nil] at ha
      subst ha
      clear hlt
      go_wp2_with fail
      go_ret
      exact ⟨rfl, Ext.refl _⟩
theorem take_snocC {α : Type} (l : List α) (j : Nat) (h : j < l.length) : l.take (j + 1) = l.take j ++ [l[j]] := List.take_succ_eq_append_getElem h
set_option maxHeartbeats 1000000 in
theorem own_any (v : Value) (t : List Cm) (w : World) (h : CmV w v t) (hl : t.length ≤ 1000) :
    Calls Try.prog 20 #[v] w fun e w' => ∃ v', e = .returned v' ∧ CmV w' v' t ∧ Ext w w' := by
  obtain ⟨p, c, rfl, _, hcm⟩ := h.slice
  unfold maxLen at hcm
  go_enter Try.func20, Try.ntmps20
  go_wp2_with fail
  go_loopg [3, 4] (t.length) (fun k s3 s4 wr => ∃ (j : Nat) (x : Value), s3 = x ∧ s4 = .int .i64 j ∧ j ≤ t.length ∧ k = t.length - j ∧ CmO 33 wr w.heap.size x (t.take j) ∧ Ext w wr)
  case atStart => exact ⟨0, _, rfl, rfl, Nat.zero_le _, rfl, ORow.nil _ _ _, Ext.refl _⟩
  case round =>
    obtain ⟨j, x, e3, rfl, hj, hk, ho, hx⟩ := hrel
    replace e3 := e3.symm
    subst e3
    obtain ⟨wo, hwo⟩ : ∃ wo, wo = wr := ⟨_, rfl⟩
    subst hwo
    by_cases hlt : j < t.length
    case pos =>
      have hi : (j : Int) < (t.length : Int) := by omega
      obtain ⟨b, o, rfl, ⟨m0, m1, m2, m3⟩⟩ := cm_at (h.ext hx) hlt
      have hsnoc := take_snocC t j hlt
      generalize t[j] = y at *
      have HSN := Lib.hid hsnoc
      have HTL := Lib.hid hl
      clear hsnoc
      have hxa := Ext.alloc wo (.cells #[.string ⟨y.group.toArray⟩, .string ⟨y.topic.toArray⟩, .int .i64 y.index, .int .i64 y.offset] 33)
      have hl1 : SRow 4 RCm (fun k => (fun _ => True) k ∧ some k ≠ x.ownBlock) (wo.alloc (.cells #[.string ⟨y.group.toArray⟩, .string ⟨y.topic.toArray⟩, .int .i64 y.index, .int .i64 y.offset] 33)) (.slice (some ⟨wo.heap.size, 0, none⟩) 1 1) [y] := SRow.lit1 (cs := cmCells y) rfl (cm_one y) (fun _ _ => rfl)
      have hoa := ho.keep hxa
      have hxx := hx.trans hxa
      go_wp2_with (at_builtin; refine st_items T.cms hoa hl1 ?_ (by have := HTL.out; rw [List.length_take]; simp [maxLen]; omega) (by have := HTL.out; rw [List.length_take]; simp; omega) hxx.size; intro v2 w2 ho2 hg2 _)
      go_roundg (t.length - (j + 1))
      case measure => omega
      case rel => exact ⟨j + 1, _, rfl, by go_num, hlt, rfl, by rw [HSN.out]; exact ho2, hoa.grown hxx hg2⟩
    case neg =>
      have hje : j = t.length := by omega
      subst hje
      have hi : ¬ (t.length : Int) < (t.length : Int) := by omega
      rw [List.take_length] at ho
      clear hlt
      go_wp2_with fail
      go_ret
      exact ⟨_, rfl, CmO.view ho, hx⟩
set_option maxHeartbeats 1000000 in
theorem as_any (v : Value) (t : List Cm) (w : World) (h : CmV w v t) (hl : t.length ≤ 1000) :
    Calls Try.prog 25 #[v] w fun e w' => ∃ v', e = .returned v' ∧ CmV w' v' t ∧ Ext w w' := by
  obtain ⟨p, c, rfl, _, hcm⟩ := h.slice
  unfold maxLen at hcm
  go_enter Try.func25, Try.ntmps25
  go_wp2_with fail
  go_loopg [3, 4] (t.length) (fun k s3 s4 wr => ∃ (j : Nat) (x : Value), s3 = x ∧ s4 = .int .i64 j ∧ j ≤ t.length ∧ k = t.length - j ∧ CmO 23 wr w.heap.size x (t.take j) ∧ Ext w wr)
  case atStart => exact ⟨0, _, rfl, rfl, Nat.zero_le _, rfl, ORow.nil _ _ _, Ext.refl _⟩
  case round =>
    obtain ⟨j, x, e3, rfl, hj, hk, ho, hx⟩ := hrel
    replace e3 := e3.symm
    subst e3
    obtain ⟨wo, hwo⟩ : ∃ wo, wo = wr := ⟨_, rfl⟩
    subst hwo
    by_cases hlt : j < t.length
    case pos =>
      have hi : (j : Int) < (t.length : Int) := by omega
      obtain ⟨b, o, rfl, ⟨m0, m1, m2, m3⟩⟩ := cm_at (h.ext hx) hlt
      have hsnoc := take_snocC t j hlt
      generalize t[j] = y at *
      have HSN := Lib.hid hsnoc
      have HTL := Lib.hid hl
      clear hsnoc
      have hxa := Ext.alloc wo (.cells #[.string ⟨y.group.toArray⟩, .string ⟨y.topic.toArray⟩, .int .i64 y.index, .int .i64 y.offset] 23)
      have hl1 : SRow 4 RCm (fun k => (fun _ => True) k ∧ some k ≠ x.ownBlock) (wo.alloc (.cells #[.string ⟨y.group.toArray⟩, .string ⟨y.topic.toArray⟩, .int .i64 y.index, .int .i64 y.offset] 23)) (.slice (some ⟨wo.heap.size, 0, none⟩) 1 1) [y] := SRow.lit1 (cs := cmCells y) rfl (cm_one y) (fun _ _ => rfl)
      have hoa := ho.keep hxa
      have hxx := hx.trans hxa
      go_wp2_with (at_builtin; refine st_items T.rcms hoa hl1 ?_ (by have := HTL.out; rw [List.length_take]; simp [maxLen]; omega) (by have := HTL.out; rw [List.length_take]; simp; omega) hxx.size; intro v2 w2 ho2 hg2 _)
      go_roundg (t.length - (j + 1))
      case measure => omega
      case rel => exact ⟨j + 1, _, rfl, by go_num, hlt, rfl, by rw [HSN.out]; exact ho2, hoa.grown hxx hg2⟩
    case neg =>
      have hje : j = t.length := by omega
      subst hje
      have hi : ¬ (t.length : Int) < (t.length : Int) := by omega
      rw [List.take_length] at ho
      clear hlt
      go_wp2_with fail
      go_ret
      exact ⟨_, rfl, CmO.view ho, hx⟩
end Go.Proofs.Ytdklpenpmeplfaa
