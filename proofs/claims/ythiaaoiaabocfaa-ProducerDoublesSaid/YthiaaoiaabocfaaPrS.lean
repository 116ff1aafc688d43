/- What producer.Same computes. -/
import Derived.Test.YthiaaoiaabocfaaPrA
namespace Go.Proofs.Ythiaaoiaabocfaa
open Go.RowKit

theorem all_upto (f : Nat → Bool) (n j : Nat) (h : j ≤ n) : (∀ i, i < j → f i = true) → (List.range n).all f = ((List.range n).drop j).all f := by
  intro hh
  have e : (List.range n) = (List.range n).take j ++ (List.range n).drop j := (List.take_append_drop ..).symm
  have : ((List.range n).take j).all f = true := by
    rw [List.all_eq_true]
    intro x hx
    rw [List.take_range, List.mem_range] at hx
    exact hh x (by omega)
  conv => lhs; rw [e, List.all_append, this, Bool.true_and]
theorem all_found {f : Nat → Bool} {n j : Nat} (hj : j < n) (h : f j = false) : (List.range n).all f = false := by
  rw [List.all_eq_false]
  exact ⟨j, List.mem_range.2 hj, by rw [h]; simp⟩
theorem all_none {f : Nat → Bool} {n : Nat} (h : ∀ i, i < n → f i = true) : (List.range n).all f = true := by
  rw [List.all_eq_true]
  exact fun x hx => h x (List.mem_range.1 hx)

theorem eqSn_run (x0 x1 x2 y0 y1 y2 : Int) (w : World) : (Op.equalIn 10000 73 (.agg #[.int .i64 x0, .int .i64 x1, .int .i64 x2]) (.agg #[.int .i64 y0, .int .i64 y1, .int .i64 y2])).run Try.prog w = .ok (sameS ⟨x0, x1, x2⟩ ⟨y0, y1, y2⟩) w := by
  have u3 := Try.underlying3
  have a3 := Try.isAgg3
  have z3 := Try.sizeOf3
  have hS : Try.prog.underlying 73 = some (.struct (Try.prog.fieldsOf 73)) := by kernel_rfl
  have hp : Try.prog.stoodInHeld 73 = false := by kernel_rfl
  rw [show (10000 : Nat) = 9999 + 1 from rfl, run_equalIn_agg w 9999 73 _ _ hS hp]
  simp only [Program.fieldsOf, Try.underlying73]
  go_simp
  unfold sameS
  by_cases h1 : x0 = y0 <;> by_cases h2 : x1 = y1 <;> by_cases h3 : x2 = y2 <;> simp [h1, h2, h3]

theorem run_neqSn {o : Oper} {a : Act} {x y : Operand} {ty : TypeId} (ho : o.op = .binOp .neq 73 x y ty) {x0 x1 x2 y0 y1 y2 : Int} (hx : a.eval x = .agg #[.int .i64 x0, .int .i64 x1, .int .i64 x2]) (hy : a.eval y = .agg #[.int .i64 y0, .int .i64 y1, .int .i64 y2]) (W : World) :
    (execOp a.eval o).run Try.prog W = .ok (.value (.bool (!sameS ⟨x0, x1, x2⟩ ⟨y0, y1, y2⟩))) W := by
  have hm : Try.prog.eqGuardType Try.prog.depth 73 = false := by kernel_rfl
  simp [execOp, ho, hx, hy, run_eqGuard_agg W .neq 73 x y _ _ hm, run_neq_struct, eqSn_run, Result.andThen]

set_option maxHeartbeats 1000000 in
theorem equalS_any (v v' : Value) (a b : List Sn) (w : World) (h : SnV w v a) (h' : SnV w v' b) :
    Calls Try.prog 42 #[v, v'] w fun e w' => e = .returned (.bool (sameSs a b)) ∧ Ext w w' := by
  obtain ⟨p, c, rfl, hn, hc⟩ := h.slice
  obtain ⟨p', c', rfl, hn', hc'⟩ := h'.slice
  unfold maxLen at hc hc'
  unfold sameSs
  by_cases hl : a.length = b.length
  case neg =>
    have hl2 : ((a.length : Int) == (b.length : Int)) = false := by simp; omega
    have hl3 : (a.length == b.length) = false := by simp [hl]
    rw [hl3, Bool.false_and]
    clear hl hl3
    go_enter Try.func42, Try.ntmps42
    go_wp2_with fail
    go_ret
    exact ⟨rfl, Ext.refl _⟩
  have hl2 : ((a.length : Int) == (b.length : Int)) = true := by simp; omega
  have hl3 : (a.length == b.length) = true := by simp [hl]
  rw [hl3, Bool.true_and]
  have HL := Lib.hid hl
  obtain ⟨RES, hres⟩ : ∃ r, ((List.range a.length).all fun i => sameS (a.getD i sn0) (b.getD i sn0)) = r := ⟨_, rfl⟩
  rw [hres]
  have HRES := Lib.hid hres
  clear hl3 hl hres
  go_enter Try.func42, Try.ntmps42
  go_wp2_with fail
  go_loopg [13] (a.length) (fun k s8 wr => ∃ j : Nat, s8 = .int .i64 j ∧ j ≤ a.length ∧ k = a.length - j ∧ Hid (∀ i, i < j → sameS (a.getD i sn0) (b.getD i sn0) = true) ∧ Ext w wr)
  case atStart => exact ⟨0, rfl, Nat.zero_le _, rfl, fun i hi => by omega, Ext.refl _⟩
  case round =>
    obtain ⟨j, rfl, hj, hk, HA, hx⟩ := hrel
    by_cases hlt : j < a.length
    case pos =>
      have hi : (j : Int) < (a.length : Int) := by omega
      have hltb : j < b.length := by rw [← HL.out]; exact hlt
      have hib : (j : Int) < (b.length : Int) := by omega
      obtain ⟨q, o, rfl, ⟨m0, m1, m2⟩⟩ := sn_at (h.ext hx) hlt
      obtain ⟨q', o', rfl, ⟨n0, n1, n2⟩⟩ := sn_at (h'.ext hx) hltb
      have hga : a.getD j sn0 = a[j] := by simp [List.getD_eq_getElem?_getD, hlt]
      have hgb : b.getD j sn0 = b[j] := by simp [List.getD_eq_getElem?_getD, hltb]
      generalize a[j] = x at *
      generalize b[j] = y at *
      obtain ⟨x0, x1, x2⟩ := x
      obtain ⟨y0, y1, y2⟩ := y
      have HGA := Lib.hid hga
      have HGB := Lib.hid hgb
      simp only at m0 m1 m2 n0 n1 n2
      clear hga hgb hl2
      go_wp2_with fail
      apply wp_region_dag (X := Ext) (by kernel_rfl) (by kernel_rfl) (fun _ _ _ => Ext.trans) (Ext.drew1 _)
      apply dag_val Ext.refl rfl (by intro W hW H; go_simp <;> rfl)
      simp only [Act.put, List.setIfInBounds_toArray, List.set_cons_zero, List.set_cons_succ]
      apply dag_val Ext.refl rfl (by intro W hW H; go_simp <;> rfl)
      simp only [Act.put, List.setIfInBounds_toArray, List.set_cons_zero, List.set_cons_succ]
      apply dag_val Ext.refl rfl (by intro W hW H; go_simp <;> rfl)
      simp only [Act.put, List.setIfInBounds_toArray, List.set_cons_zero, List.set_cons_succ]
      apply dag_val Ext.refl rfl (by intro W hW H; have q0 := hW.cell m0; have q1 := hW.cell m1; have q2 := hW.cell m2; go_simp <;> rfl)
      simp only [Act.put, List.setIfInBounds_toArray, List.set_cons_zero, List.set_cons_succ]
      apply dag_val Ext.refl rfl (by intro W hW H; go_simp <;> rfl)
      simp only [Act.put, List.setIfInBounds_toArray, List.set_cons_zero, List.set_cons_succ]
      apply dag_val Ext.refl rfl (by intro W hW H; go_simp <;> rfl)
      simp only [Act.put, List.setIfInBounds_toArray, List.set_cons_zero, List.set_cons_succ]
      apply dag_val Ext.refl rfl (by intro W hW H; go_simp <;> rfl)
      simp only [Act.put, List.setIfInBounds_toArray, List.set_cons_zero, List.set_cons_succ]
      apply dag_val Ext.refl rfl (by intro W hW H; have q0 := hW.cell n0; have q1 := hW.cell n1; have q2 := hW.cell n2; go_simp <;> rfl)
      simp only [Act.put, List.setIfInBounds_toArray, List.set_cons_zero, List.set_cons_succ]
      refine' dag_val Ext.refl rfl (fun W hW H => run_neqSn rfl rfl rfl W) _
      rotate_left
      simp only [Act.put, List.setIfInBounds_toArray, List.set_cons_zero, List.set_cons_succ]
      refine dag_end fun W hW H => ?_
      clear H
      cases hT : sameS ⟨x0, x1, x2⟩ ⟨y0, y1, y2⟩ with
      | true =>
        have HT := Lib.hid hT
        clear hT
        go_wp2_with fail
        go_roundg (a.length - (j + 1))
        case measure => omega
        case rel =>
          refine ⟨j + 1, by go_num, hlt, rfl, fun i hi2 => ?_, hx.trans hW⟩
          by_cases hij : i = j
          · subst hij
            rw [HGA.out, HGB.out]
            exact HT.out
          · exact HA.out i (by omega)
      | false =>
        have HT := Lib.hid hT
        clear hT
        go_wp2_with fail
        go_ret
        refine ⟨?_, hx.trans hW⟩
        rw [← HRES.out, all_found hlt (by rw [HGA.out, HGB.out]; exact HT.out)]
        rfl
    case neg =>
      have hje : j = a.length := by omega
      subst hje
      have hi : ¬ (a.length : Int) < (a.length : Int) := by omega
      clear hlt
      go_wp2_with fail
      go_ret
      refine ⟨?_, hx⟩
      rw [← HRES.out, all_none HA.out]
      rfl

set_option maxHeartbeats 1000000 in
theorem same1_any (x y : Ent) (vx vy : Value) (w : World) (h : SnV w vx x.last) (h' : SnV w vy y.last) :
    Calls Try.prog 41 #[entv x vx, entv y vy] w fun e w' => e = .returned (.bool (sameE x y)) ∧ Ext w w' := by
  obtain ⟨x0, x1, lx⟩ := x
  obtain ⟨y0, y1, ly⟩ := y
  simp only at h h'
  obtain ⟨o1, o2, hx0, hsz⟩ := objs2 w 43 43 [.int .i64 x0, .int .i64 x1, vx] [.int .i64 y0, .int .i64 y1, vy]
  have E1 := fun W (hW : Ext ((w.alloc (.cells #[.int .i64 x0, .int .i64 x1, vx] 43)).alloc (.cells #[.int .i64 y0, .int .i64 y1, vy] 43)) W) => equalS_any vx vy lx ly W (h.ext (hx0.trans hW)) (h'.ext (hx0.trans hW))
  obtain ⟨p, c, rfl, hn, hc⟩ := h.slice
  obtain ⟨p', c', rfl, hn', hc'⟩ := h'.slice
  have a0 := o1.cell (j := 0) rfl
  have a1 := o1.cell (j := 1) rfl
  have a2 := o1.cell (j := 2) rfl
  have b0 := o2.cell (j := 0) rfl
  have b1 := o2.cell (j := 1) rfl
  have b2 := o2.cell (j := 2) rfl
  unfold sameE
  simp only
  have E2 := E1 _ (Ext.refl _)
  generalize sameSs lx ly = T at *
  clear o1 o2 hsz h h' E1
  cases h1 : (x0 == y0)
  case false =>
    go_enter Try.func41, Try.ntmps41
    go_wp2_with fail
    go_ret
    exact ⟨rfl, hx0⟩
  case true =>
    cases h2 : (x1 == y1)
    case false =>
      go_enter Try.func41, Try.ntmps41
      go_wp2_with fail
      go_ret
      exact ⟨rfl, hx0⟩
    case true =>
      rw [Bool.true_and, Bool.true_and]
      go_enter Try.func41, Try.ntmps41
      go_wp2_with (go_at_call 42; refine E2.mono ?_; rintro e w1 ⟨rfl, hx1⟩)
      go_ret
      exact ⟨rfl, hx0.trans hx1⟩
set_option maxHeartbeats 2000000 in
theorem equalE_any (v v' : Value) (a b : List Ent) (w : World) (h : TabV w v a) (h' : TabV w v' b) :
    Calls Try.prog 40 #[v, v', .func (.func 41) #[] #[]] w fun e w' => e = .returned (.bool (sameT a b)) ∧ Ext w w' := by
  obtain ⟨p, c, rfl, hn, hc⟩ := h.slice
  obtain ⟨p', c', rfl, hn', hc'⟩ := h'.slice
  unfold maxLen at hc hc'
  unfold sameT
  by_cases hl : a.length = b.length
  case neg =>
    have hl2 : ((a.length : Int) == (b.length : Int)) = false := by simp; omega
    have hl3 : (a.length == b.length) = false := by simp [hl]
    rw [hl3, Bool.false_and]
    clear hl hl3
    go_enter Try.func40, Try.ntmps40
    go_wp2_with fail
    go_ret
    exact ⟨rfl, Ext.refl _⟩
  have hl2 : ((a.length : Int) != (b.length : Int)) = false := by simp; omega
  have hl3 : (a.length == b.length) = true := by simp [hl]
  rw [hl3, Bool.true_and]
  have HL := Lib.hid hl
  obtain ⟨RES, hres⟩ : ∃ r, ((List.range a.length).all fun i => sameE (a.getD i ent0) (b.getD i ent0)) = r := ⟨_, rfl⟩
  rw [hres]
  have HRES := Lib.hid hres
  clear hl3 hl hres
  go_enter Try.func40, Try.ntmps40
  go_wp2_with fail
  go_loopg [17] (a.length) (fun k s8 wr => ∃ j : Nat, s8 = .int .i64 j ∧ j ≤ a.length ∧ k = a.length - j ∧ Hid (∀ i, i < j → sameE (a.getD i ent0) (b.getD i ent0) = true) ∧ Ext w wr)
  case atStart => exact ⟨0, rfl, Nat.zero_le _, rfl, fun i hi => by omega, Ext.refl _⟩
  case round =>
    obtain ⟨j, rfl, hj, hk, HA, hx⟩ := hrel
    by_cases hlt : j < a.length
    case pos =>
      have hi : (j : Int) < (a.length : Int) := by omega
      have hltb : j < b.length := by rw [← HL.out]; exact hlt
      have hib : (j : Int) < (b.length : Int) := by omega
      obtain ⟨q, o, qx, dx, rfl, ⟨m0, m1, m2⟩, hsx, _, _⟩ := ent_at (h.ext hx) hlt
      obtain ⟨q', o', qy, dy, rfl, ⟨n0, n1, n2⟩, hsy, _, _⟩ := ent_at (h'.ext hx) hltb
      have hga : a.getD j ent0 = a[j] := by simp [List.getD_eq_getElem?_getD, hlt]
      have hgb : b.getD j ent0 = b[j] := by simp [List.getD_eq_getElem?_getD, hltb]
      generalize a[j] = x at *
      generalize b[j] = y at *
      obtain ⟨x0, x1, lx⟩ := x
      obtain ⟨y0, y1, ly⟩ := y
      have HGA := Lib.hid hga
      have HGB := Lib.hid hgb
      simp only at m0 m1 m2 n0 n1 n2 hsx hsy
      have hxa := Ext.alloc wr (.cells #[.int .i64 x0, .int .i64 x1, .slice qx lx.length dx] 43)
      have hxb := Ext.alloc (wr.alloc (.cells #[.int .i64 x0, .int .i64 x1, .slice qx lx.length dx] 43)) (.cells #[.int .i64 y0, .int .i64 y1, .slice qy ly.length dy] 43)
      have n0' := hxa.cell n0
      have n1' := hxa.cell n1
      have n2' := hxa.cell n2
      have S1 := same1_any ⟨x0, x1, lx⟩ ⟨y0, y1, ly⟩ _ _ _ (hsx.ext (hxa.trans hxb)) (hsy.ext (hxa.trans hxb))
      have hxc := hx.trans (hxa.trans hxb)
      clear hga hgb hl2 hxa hxb hsx hsy
      cases hT : sameE ⟨x0, x1, lx⟩ ⟨y0, y1, ly⟩ with
      | true =>
        rw [hT] at S1
        have HT := Lib.hid hT
        clear hT
        go_wp2_with (go_at_call 41; refine S1.mono ?_; rintro e w1 ⟨rfl, hx1⟩)
        go_roundg (a.length - (j + 1))
        case measure => omega
        case rel =>
          refine ⟨j + 1, by go_num, hlt, rfl, fun i hi2 => ?_, hxc.trans hx1⟩
          by_cases hij : i = j
          · subst hij
            rw [HGA.out, HGB.out]
            exact HT.out
          · exact HA.out i (by omega)
      | false =>
        rw [hT] at S1
        have HT := Lib.hid hT
        clear hT
        go_wp2_with (go_at_call 41; refine S1.mono ?_; rintro e w1 ⟨rfl, hx1⟩)
        go_ret
        refine ⟨?_, hxc.trans hx1⟩
        rw [← HRES.out, all_found hlt (by rw [HGA.out, HGB.out]; exact HT.out)]
        rfl
    case neg =>
      have hje : j = a.length := by omega
      subst hje
      have hi : ¬ (a.length : Int) < (a.length : Int) := by omega
      clear hlt
      go_wp2_with fail
      go_ret
      refine ⟨?_, hx⟩
      rw [← HRES.out, all_none HA.out]
      rfl
set_option maxHeartbeats 400000 in
theorem same_any (v v' : Value) (a b : List Ent) (w : World) (h : TabV w v a) (h' : TabV w v' b) :
    Calls Try.prog 24 #[.agg #[v], .agg #[v']] w fun e w' => e = .returned (.bool (sameT a b)) ∧ Ext w w' := by
  obtain ⟨o1, o2, hx0, hsz⟩ := objs2 w 33 33 [v] [v']
  have E1 := equalE_any v v' a b _ (h.ext hx0) (h'.ext hx0)
  obtain ⟨p, c, rfl, hn, hc⟩ := h.slice
  obtain ⟨p', c', rfl, hn', hc'⟩ := h'.slice
  have a0 := o1.cell (j := 0) rfl
  have b0 := o2.cell (j := 0) rfl
  clear o1 o2 hsz h h'
  go_enter Try.func24, Try.ntmps24
  go_wp2_with (go_at_call 40; refine E1.mono ?_; rintro e w1 ⟨rfl, hx1⟩)
  go_ret
  exact ⟨rfl, hx0.trans hx1⟩
end Go.Proofs.Ythiaaoiaabocfaa
