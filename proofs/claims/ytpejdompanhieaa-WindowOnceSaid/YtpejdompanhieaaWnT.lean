/- Sums and states of layer 35 that are one: the program's way and the document's. -/
import Derived.Test.YtpejdompanhieaaWnQ
namespace Go.Proofs.Ytpejdompanhieaa
open Go.RowKit

def eqS (a b : Sm) : Bool := a.start == b.start && (a.key == b.key && (a.count == b.count && (a.total == b.total && (a.least == b.least && a.most == b.most))))
theorem eqS_refl (a : Sm) : eqS a a = true := by unfold eqS; simp
theorem eqS_iff {a b : Sm} : eqS a b = true ↔ a = b := by
  obtain ⟨d1, y1, c1, t1, z1, v1⟩ := a
  obtain ⟨d2, y2, c2, t2, z2, v2⟩ := b
  unfold eqS
  simp
def sameS (a b : List Sm) : Bool := (a.length == b.length) && (List.range a.length).all fun i => eqS (a.getD i sm0) (b.getD i sm0)
theorem all_found {f : Nat → Bool} {n j : Nat} (hj : j < n) (h : f j = false) : (List.range n).all f = false := by
  rw [List.all_eq_false]
  exact ⟨j, List.mem_range.2 hj, by simp [h]⟩
theorem all_none {f : Nat → Bool} {n : Nat} (h : ∀ i, i < n → f i = true) : (List.range n).all f = true := by
  rw [List.all_eq_true]
  exact fun i hi => h i (List.mem_range.1 hi)
theorem sameS_refl (l : List Sm) : sameS l l = true := by
  unfold sameS
  rw [Bool.and_eq_true]
  exact ⟨by simp, all_none fun i _ => eqS_refl _⟩
theorem sameS_iff {a b : List Sm} : sameS a b = true ↔ a = b := by
  constructor
  · intro h
    unfold sameS at h
    rw [Bool.and_eq_true, List.all_eq_true] at h
    have hl : a.length = b.length := by simpa using h.1
    refine List.ext_getElem hl fun i h1 h2 => ?_
    have := eqS_iff.1 (h.2 i (List.mem_range.2 h1))
    rwa [getD_sm h1, getD_sm h2] at this
  · rintro rfl; exact sameS_refl a
def sameW (s t : Wt) : Bool := s.size == t.size && (s.late == t.late && (s.mark == t.mark && (s.drops == t.drops && sameS s.opn t.opn)))
theorem sameW_iff {a b : Wt} : sameW a b = true ↔ a = b := by
  obtain ⟨a0, a1, a2, a3, a4⟩ := a
  obtain ⟨b0, b1, b2, b3, b4⟩ := b
  unfold sameW
  simp [sameS_iff]
theorem sameW_refl (s : Wt) : sameW s s = true := sameW_iff.2 rfl
theorem eqSm_run (a b : Sm) (w : World) : (Op.equalIn 10000 64 (smv a) (smv b)).run Try.prog w = .ok (eqS a b) w := by
  obtain ⟨d1, y1, c1, t1, z1, v1⟩ := a
  obtain ⟨d2, y2, c2, t2, z2, v2⟩ := b
  have u3 := Try.underlying3
  have a3 := Try.isAgg3
  have z3 := Try.sizeOf3
  have u9 := Try.underlying9
  have a9 := Try.isAgg9
  have z9 := Try.sizeOf9
  have hS : Try.prog.underlying 64 = some (.struct (Try.prog.fieldsOf 64)) := by kernel_rfl
  have hp : Try.prog.stoodInHeld 64 = false := by kernel_rfl
  rw [show (10000 : Nat) = 9999 + 1 from rfl, run_equalIn_agg w 9999 64 _ _ hS hp]
  simp only [Program.fieldsOf, Try.underlying64]
  go_simp
  unfold eqS
  by_cases h1 : d1 = d2
  · by_cases h2 : y1 = y2
    · by_cases h3 : c1 = c2
      · by_cases h4 : t1 = t2
        · by_cases h5 : z1 = z2
          · by_cases h6 : v1 = v2 <;> simp [h1, h2, h3, h4, h5, h6]
          · simp [h1, h2, h3, h4, h5]
        · simp [h1, h2, h3, h4]
      · simp [h1, h2, h3]
    · simp [h1, h2]
  · simp [h1]
theorem run_neqSm {o : Oper} {a : Act} {x y : Operand} {ty : TypeId} (ho : o.op = .binOp .neq 64 x y ty) {c d : Sm} (hx : a.eval x = smv c) (hy : a.eval y = smv d) (W : World) :
    (execOp a.eval o).run Try.prog W = .ok (.value (.bool (!eqS c d))) W := by
  have hm : Try.prog.eqGuardType Try.prog.depth 64 = false := by kernel_rfl
  simp [execOp, ho, hx, hy, run_eqGuard_agg W .neq 64 x y _ _ hm, run_neq_struct, eqSm_run, Result.andThen]
theorem run_eqlSm {o : Oper} {a : Act} {x y : Operand} {ty : TypeId} (ho : o.op = .binOp .eql 64 x y ty) {c d : Sm} (hx : a.eval x = smv c) (hy : a.eval y = smv d) (W : World) :
    (execOp a.eval o).run Try.prog W = .ok (.value (.bool (eqS c d))) W := by
  have hm : Try.prog.eqGuardType Try.prog.depth 64 = false := by kernel_rfl
  simp [execOp, ho, hx, hy, run_eqGuard_agg W .eql 64 x y _ _ hm, run_eql_struct, eqSm_run, Result.andThen]
set_option maxHeartbeats 1000000 in
theorem equalS_any (v v' : Value) (a b : List Sm) (w : World) (h : SmV w v a) (h' : SmV w v' b) :
    Calls Try.prog 58 #[v, v'] w fun e w' => e = .returned (.bool (sameS a b)) ∧ Ext w w' := by
  obtain ⟨p, c, rfl, hn, hc⟩ := h.slice
  obtain ⟨p', c', rfl, hn', hc'⟩ := h'.slice
  unfold maxLen at hc hc'
  unfold sameS
  by_cases hl : a.length = b.length
  case neg =>
    have hl2 : ((a.length : Int) == (b.length : Int)) = false := by simp; omega
    have hl3 : (a.length == b.length) = false := by simp [hl]
    rw [hl3, Bool.false_and]
    clear hl hl3
    go_enter Try.func58, Try.ntmps58
    go_wp2_with fail
    go_ret
    exact ⟨rfl, Ext.refl _⟩
  have hl2 : ((a.length : Int) == (b.length : Int)) = true := by simp; omega
  have hl3 : (a.length == b.length) = true := by simp [hl]
  rw [hl3, Bool.true_and]
  have HL := Lib.hid hl
  obtain ⟨RES, hres⟩ : ∃ r, ((List.range a.length).all fun i => eqS (a.getD i sm0) (b.getD i sm0)) = r := ⟨_, rfl⟩
  rw [hres]
  have HRES := Lib.hid hres
  clear hl3 hl hres
  go_enter Try.func58, Try.ntmps58
  go_wp2_with fail
  go_loopg [13] (a.length) (fun k s8 wr => ∃ j : Nat, s8 = .int .i64 j ∧ j ≤ a.length ∧ k = a.length - j ∧ Hid (∀ i, i < j → eqS (a.getD i sm0) (b.getD i sm0) = true) ∧ Ext w wr)
  case atStart => exact ⟨0, rfl, Nat.zero_le _, rfl, fun i hi => by omega, Ext.refl _⟩
  case round =>
    obtain ⟨j, rfl, hj, hk, HA, hx⟩ := hrel
    by_cases hlt : j < a.length
    case pos =>
      have hi : (j : Int) < (a.length : Int) := by omega
      have hltb : j < b.length := by rw [← HL.out]; exact hlt
      have hib : (j : Int) < (b.length : Int) := by omega
      obtain ⟨q, o, rfl, ⟨m0, m1, m2, m3, m4, m5⟩⟩ := sm_at (h.ext hx) hlt
      obtain ⟨q', o', rfl, ⟨n0, n1, n2, n3, n4, n5⟩⟩ := sm_at (h'.ext hx) hltb
      have hga : a.getD j sm0 = a[j] := by simp [List.getD_eq_getElem?_getD, hlt]
      have hgb : b.getD j sm0 = b[j] := by simp [List.getD_eq_getElem?_getD, hltb]
      generalize a[j] = x at *
      generalize b[j] = y at *
      have HGA := Lib.hid hga
      have HGB := Lib.hid hgb
      clear hga hgb hl2
      go_wp2_with fail
      apply wp_region_dag (X := Ext) (by kernel_rfl) (by kernel_rfl) (fun _ _ _ => Ext.trans) (Ext.drew1 _)
      apply dag_val Ext.refl rfl (by intro W hW H; go_simp <;> rfl)
      simp only [Act.put, List.setIfInBounds_toArray, List.set_cons_zero, List.set_cons_succ]
      apply dag_val Ext.refl rfl (by intro W hW H; go_simp <;> rfl)
      simp only [Act.put, List.setIfInBounds_toArray, List.set_cons_zero, List.set_cons_succ]
      apply dag_val Ext.refl rfl (by intro W hW H; go_simp <;> rfl)
      simp only [Act.put, List.setIfInBounds_toArray, List.set_cons_zero, List.set_cons_succ]
      apply dag_val Ext.refl rfl (by intro W hW H; have q0 := hW.cell m0; have q1 := hW.cell m1; have q2 := hW.cell m2; have q3 := hW.cell m3; have q4 := hW.cell m4; have q5 := hW.cell m5; go_simp <;> rfl)
      simp only [Act.put, List.setIfInBounds_toArray, List.set_cons_zero, List.set_cons_succ]
      apply dag_val Ext.refl rfl (by intro W hW H; go_simp <;> rfl)
      simp only [Act.put, List.setIfInBounds_toArray, List.set_cons_zero, List.set_cons_succ]
      apply dag_val Ext.refl rfl (by intro W hW H; go_simp <;> rfl)
      simp only [Act.put, List.setIfInBounds_toArray, List.set_cons_zero, List.set_cons_succ]
      apply dag_val Ext.refl rfl (by intro W hW H; go_simp <;> rfl)
      simp only [Act.put, List.setIfInBounds_toArray, List.set_cons_zero, List.set_cons_succ]
      apply dag_val Ext.refl rfl (by intro W hW H; have q0 := hW.cell n0; have q1 := hW.cell n1; have q2 := hW.cell n2; have q3 := hW.cell n3; have q4 := hW.cell n4; have q5 := hW.cell n5; go_simp <;> rfl)
      simp only [Act.put, List.setIfInBounds_toArray, List.set_cons_zero, List.set_cons_succ]
      refine' dag_val Ext.refl rfl (fun W hW H => run_neqSm rfl (c := x) (d := y) rfl rfl W) _
      rotate_left
      simp only [Act.put, List.setIfInBounds_toArray, List.set_cons_zero, List.set_cons_succ]
      refine dag_end fun W hW H => ?_
      clear H
      cases hT : eqS x y with
      | true =>
        have HT := Lib.hid hT
        clear hT
        go_wp2_with fail
        go_roundg (a.length - (j + 1))
        case measure => omega
        case rel =>
          refine ⟨j + 1, by go_num, hlt, rfl, fun i hi2 => ?_, hx.trans hW⟩
          by_cases hij : i = j
          · subst hij
            rw [HGA.out, HGB.out]
            exact HT.out
          · exact HA.out i (by omega)
      | false =>
        have HT := Lib.hid hT
        clear hT
        go_wp2_with fail
        go_ret
        refine ⟨?_, hx.trans hW⟩
        rw [← HRES.out, all_found hlt (by rw [HGA.out, HGB.out]; exact HT.out)]
        rfl
    case neg =>
      have hje : j = a.length := by omega
      subst hje
      have hi : ¬ (a.length : Int) < (a.length : Int) := by omega
      clear hlt
      go_wp2_with fail
      go_ret
      refine ⟨?_, hx⟩
      rw [← HRES.out, all_none HA.out]
      rfl
set_option maxHeartbeats 1000000 in
theorem equalSW_any (v v' : Value) (a b : Wt) (w : World) (h : SmV w v a.opn) (h' : SmV w v' b.opn) :
    Calls Try.prog 26 #[wtv a v, wtv b v'] w fun e w' => e = .returned (.bool (sameW a b)) ∧ Ext w w' := by
  obtain ⟨a0, a1, a2, a3, a4⟩ := a
  obtain ⟨b0, b1, b2, b3, b4⟩ := b
  simp only at h h'
  have hx0 := (Ext.alloc w (.cells #[.int .i64 a0, .int .i64 a1, .int .i64 a2, .int .i64 a3, v] 31)).trans (Ext.alloc _ (.cells #[.int .i64 b0, .int .i64 b1, .int .i64 b2, .int .i64 b3, v'] 31))
  have E1 := fun W hW => equalS_any v v' a4 b4 W (h.ext hW) (h'.ext hW)
  obtain ⟨S, hS⟩ : ∃ S, sameW ⟨a0, a1, a2, a3, a4⟩ ⟨b0, b1, b2, b3, b4⟩ = S := ⟨_, rfl⟩
  rw [hS]
  unfold sameW at hS
  simp only at hS
  cases h1 : (a0 == b0)
  case' true => cases h2 : (a1 == b1)
  case' true.true => cases h3 : (a2 == b2)
  case' true.true.true => cases h4 : (a3 == b3)
  all_goals
    simp only [*, Bool.false_and, Bool.true_and] at hS
    subst hS
    go_enter Try.func26, Try.ntmps26
    go_wp2_with (go_at_call 58; refine (E1 _ hx0).mono ?_; rintro e w1 ⟨rfl, hx1⟩)
    go_ret
    first
      | exact ⟨rfl, hx0⟩
      | exact ⟨rfl, hx0.trans hx1⟩
theorem eqRsm_run (a b : Sm) (w : World) : (Op.equalIn 10000 69 (smv a) (smv b)).run Try.prog w = .ok (eqS a b) w := by
  obtain ⟨d1, y1, c1, t1, z1, v1⟩ := a
  obtain ⟨d2, y2, c2, t2, z2, v2⟩ := b
  have u3 := Try.underlying3
  have a3 := Try.isAgg3
  have z3 := Try.sizeOf3
  have u9 := Try.underlying9
  have a9 := Try.isAgg9
  have z9 := Try.sizeOf9
  have hS : Try.prog.underlying 69 = some (.struct (Try.prog.fieldsOf 69)) := by kernel_rfl
  have hp : Try.prog.stoodInHeld 69 = false := by kernel_rfl
  rw [show (10000 : Nat) = 9999 + 1 from rfl, run_equalIn_agg w 9999 69 _ _ hS hp]
  simp only [Program.fieldsOf, Try.underlying69]
  go_simp
  unfold eqS
  by_cases h1 : d1 = d2
  · by_cases h2 : y1 = y2
    · by_cases h3 : c1 = c2
      · by_cases h4 : t1 = t2
        · by_cases h5 : z1 = z2
          · by_cases h6 : v1 = v2 <;> simp [h1, h2, h3, h4, h5, h6]
          · simp [h1, h2, h3, h4, h5]
        · simp [h1, h2, h3, h4]
      · simp [h1, h2, h3]
    · simp [h1, h2]
  · simp [h1]
theorem run_neqRsm {o : Oper} {a : Act} {x y : Operand} {ty : TypeId} (ho : o.op = .binOp .neq 69 x y ty) {c d : Sm} (hx : a.eval x = smv c) (hy : a.eval y = smv d) (W : World) :
    (execOp a.eval o).run Try.prog W = .ok (.value (.bool (!eqS c d))) W := by
  have hm : Try.prog.eqGuardType Try.prog.depth 69 = false := by kernel_rfl
  simp [execOp, ho, hx, hy, run_eqGuard_agg W .neq 69 x y _ _ hm, run_neq_struct, eqRsm_run, Result.andThen]
theorem run_eqlRsm {o : Oper} {a : Act} {x y : Operand} {ty : TypeId} (ho : o.op = .binOp .eql 69 x y ty) {c d : Sm} (hx : a.eval x = smv c) (hy : a.eval y = smv d) (W : World) :
    (execOp a.eval o).run Try.prog W = .ok (.value (.bool (eqS c d))) W := by
  have hm : Try.prog.eqGuardType Try.prog.depth 69 = false := by kernel_rfl
  simp [execOp, ho, hx, hy, run_eqGuard_agg W .eql 69 x y _ _ hm, run_eql_struct, eqRsm_run, Result.andThen]
set_option maxHeartbeats 1000000 in
theorem rsameS_any (v v' : Value) (a b : List Sm) (w : World) (h : SmV w v a) (h' : SmV w v' b) :
    Calls Try.prog 18 #[v, v'] w fun e w' => e = .returned (.bool (sameS a b)) ∧ Ext w w' := by
  obtain ⟨p, c, rfl, hn, hc⟩ := h.slice
  obtain ⟨p', c', rfl, hn', hc'⟩ := h'.slice
  unfold maxLen at hc hc'
  unfold sameS
  by_cases hl : a.length = b.length
  case neg =>
    have hl2 : ((a.length : Int) == (b.length : Int)) = false := by simp; omega
    have hl3 : (a.length == b.length) = false := by simp [hl]
    rw [hl3, Bool.false_and]
    clear hl hl3
    go_enter Try.func18, Try.ntmps18
    go_wp2_with fail
    go_ret
    exact ⟨rfl, Ext.refl _⟩
  have hl2 : ((a.length : Int) == (b.length : Int)) = true := by simp; omega
  have hl3 : (a.length == b.length) = true := by simp [hl]
  rw [hl3, Bool.true_and]
  have HL := Lib.hid hl
  obtain ⟨RES, hres⟩ : ∃ r, ((List.range a.length).all fun i => eqS (a.getD i sm0) (b.getD i sm0)) = r := ⟨_, rfl⟩
  rw [hres]
  have HRES := Lib.hid hres
  clear hl3 hl hres
  go_enter Try.func18, Try.ntmps18
  go_wp2_with fail
  go_loopg [5] (a.length) (fun k s8 wr => ∃ j : Nat, s8 = .int .i64 j ∧ j ≤ a.length ∧ k = a.length - j ∧ Hid (∀ i, i < j → eqS (a.getD i sm0) (b.getD i sm0) = true) ∧ Ext w wr)
  case atStart => exact ⟨0, rfl, Nat.zero_le _, rfl, fun i hi => by omega, Ext.refl _⟩
  case round =>
    obtain ⟨j, rfl, hj, hk, HA, hx⟩ := hrel
    by_cases hlt : j < a.length
    case pos =>
      have hi : (j : Int) < (a.length : Int) := by omega
      have hltb : j < b.length := by rw [← HL.out]; exact hlt
      have hib : (j : Int) < (b.length : Int) := by omega
      obtain ⟨q, o, rfl, ⟨m0, m1, m2, m3, m4, m5⟩⟩ := sm_at (h.ext hx) hlt
      obtain ⟨q', o', rfl, ⟨n0, n1, n2, n3, n4, n5⟩⟩ := sm_at (h'.ext hx) hltb
      have hga : a.getD j sm0 = a[j] := by simp [List.getD_eq_getElem?_getD, hlt]
      have hgb : b.getD j sm0 = b[j] := by simp [List.getD_eq_getElem?_getD, hltb]
      generalize a[j] = x at *
      generalize b[j] = y at *
      have HGA := Lib.hid hga
      have HGB := Lib.hid hgb
      clear hga hgb hl2
      go_wp2_with fail
      apply wp_region_dag (X := Ext) (by kernel_rfl) (by kernel_rfl) (fun _ _ _ => Ext.trans) (Ext.drew1 _)
      apply dag_val Ext.refl rfl (by intro W hW H; go_simp <;> rfl)
      simp only [Act.put, List.setIfInBounds_toArray, List.set_cons_zero, List.set_cons_succ]
      apply dag_val Ext.refl rfl (by intro W hW H; go_simp <;> rfl)
      simp only [Act.put, List.setIfInBounds_toArray, List.set_cons_zero, List.set_cons_succ]
      apply dag_val Ext.refl rfl (by intro W hW H; go_simp <;> rfl)
      simp only [Act.put, List.setIfInBounds_toArray, List.set_cons_zero, List.set_cons_succ]
      apply dag_val Ext.refl rfl (by intro W hW H; have q0 := hW.cell m0; have q1 := hW.cell m1; have q2 := hW.cell m2; have q3 := hW.cell m3; have q4 := hW.cell m4; have q5 := hW.cell m5; go_simp <;> rfl)
      simp only [Act.put, List.setIfInBounds_toArray, List.set_cons_zero, List.set_cons_succ]
      apply dag_val Ext.refl rfl (by intro W hW H; go_simp <;> rfl)
      simp only [Act.put, List.setIfInBounds_toArray, List.set_cons_zero, List.set_cons_succ]
      apply dag_val Ext.refl rfl (by intro W hW H; go_simp <;> rfl)
      simp only [Act.put, List.setIfInBounds_toArray, List.set_cons_zero, List.set_cons_succ]
      apply dag_val Ext.refl rfl (by intro W hW H; go_simp <;> rfl)
      simp only [Act.put, List.setIfInBounds_toArray, List.set_cons_zero, List.set_cons_succ]
      apply dag_val Ext.refl rfl (by intro W hW H; have q0 := hW.cell n0; have q1 := hW.cell n1; have q2 := hW.cell n2; have q3 := hW.cell n3; have q4 := hW.cell n4; have q5 := hW.cell n5; go_simp <;> rfl)
      simp only [Act.put, List.setIfInBounds_toArray, List.set_cons_zero, List.set_cons_succ]
      refine' dag_val Ext.refl rfl (fun W hW H => run_neqRsm rfl (c := x) (d := y) rfl rfl W) _
      rotate_left
      simp only [Act.put, List.setIfInBounds_toArray, List.set_cons_zero, List.set_cons_succ]
      refine dag_end fun W hW H => ?_
      clear H
      cases hT : eqS x y with
      | true =>
        have HT := Lib.hid hT
        clear hT
        go_wp2_with fail
        go_roundg (a.length - (j + 1))
        case measure => omega
        case rel =>
          refine ⟨j + 1, by go_num, hlt, rfl, fun i hi2 => ?_, hx.trans hW⟩
          by_cases hij : i = j
          · subst hij
            rw [HGA.out, HGB.out]
            exact HT.out
          · exact HA.out i (by omega)
      | false =>
        have HT := Lib.hid hT
        clear hT
        go_wp2_with fail
        go_ret
        refine ⟨?_, hx.trans hW⟩
        rw [← HRES.out, all_found hlt (by rw [HGA.out, HGB.out]; exact HT.out)]
        rfl
    case neg =>
      have hje : j = a.length := by omega
      subst hje
      have hi : ¬ (a.length : Int) < (a.length : Int) := by omega
      clear hlt
      go_wp2_with fail
      go_ret
      refine ⟨?_, hx⟩
      rw [← HRES.out, all_none HA.out]
      rfl
set_option maxHeartbeats 1000000 in
theorem rsameSW_any (v v' : Value) (a b : Wt) (w : World) (h : SmV w v a.opn) (h' : SmV w v' b.opn) :
    Calls Try.prog 16 #[wtv a v, wtv b v'] w fun e w' => e = .returned (.bool (sameW a b)) ∧ Ext w w' := by
  obtain ⟨a0, a1, a2, a3, a4⟩ := a
  obtain ⟨b0, b1, b2, b3, b4⟩ := b
  simp only at h h'
  have hx0 := (Ext.alloc w (.cells #[.int .i64 a0, .int .i64 a1, .int .i64 a2, .int .i64 a3, v] 24)).trans (Ext.alloc _ (.cells #[.int .i64 b0, .int .i64 b1, .int .i64 b2, .int .i64 b3, v'] 24))
  have E1 := fun W hW => rsameS_any v v' a4 b4 W (h.ext hW) (h'.ext hW)
  obtain ⟨S, hS⟩ : ∃ S, sameW ⟨a0, a1, a2, a3, a4⟩ ⟨b0, b1, b2, b3, b4⟩ = S := ⟨_, rfl⟩
  rw [hS]
  unfold sameW at hS
  simp only at hS
  cases h1 : (a0 == b0)
  case' true => cases h2 : (a1 == b1)
  case' true.true => cases h3 : (a2 == b2)
  case' true.true.true => cases h4 : (a3 == b3)
  all_goals
    simp only [*, Bool.false_and, Bool.true_and] at hS
    subst hS
    go_enter Try.func16, Try.ntmps16
    go_wp2_with (go_at_call 18; refine (E1 _ hx0).mono ?_; rintro e w1 ⟨rfl, hx1⟩)
    go_ret
    first
      | exact ⟨rfl, hx0⟩
      | exact ⟨rfl, hx0.trans hx1⟩
theorem all_drop {α : Type} {f : α → Bool} {xs : List α} {j : Nat} (h : j < xs.length) : (xs.drop j).all f = (f xs[j] && (xs.drop (j + 1)).all f) := by
  rw [List.drop_eq_getElem_cons h, List.all_cons]
def lightS (l : List Sm) : Bool := decide (l.length ≤ 300) && l.all fun c => decide (c.key.length ≤ 100)
set_option maxHeartbeats 1000000 in
theorem rlightS_any (v : Value) (l : List Sm) (w : World) (h : SmV w v l) :
    Calls Try.prog 7 #[v] w fun e w' => e = .returned (.bool (lightS l)) ∧ Ext w w' := by
  obtain ⟨p, c, rfl, hn, hc⟩ := h.slice
  unfold maxLen at hc
  unfold lightS
  by_cases hl : l.length ≤ 300
  case neg =>
    have hl2 : (300 : Int) < (l.length : Int) := by omega
    rw [decide_eq_false hl, Bool.false_and]
    clear hl
    go_enter Try.func7, Try.ntmps7
    go_wp2_with fail
    go_ret
    exact ⟨rfl, Ext.refl _⟩
  have hl2 : ¬ (300 : Int) < (l.length : Int) := by omega
  rw [decide_eq_true hl, Bool.true_and]
  obtain ⟨RES, hres⟩ : ∃ r, (l.all fun c => decide (c.key.length ≤ 100)) = r := ⟨_, rfl⟩
  rw [hres]
  have HRES := Lib.hid hres
  clear hl hres
  go_enter Try.func7, Try.ntmps7
  go_wp2_with fail
  go_loopg [3] (l.length) (fun k s3 wr => ∃ j : Nat, s3 = .int .i64 j ∧ j ≤ l.length ∧ k = l.length - j ∧ Hid ((l.drop j).all (fun c => decide (c.key.length ≤ 100)) = RES) ∧ wr = w)
  case atStart => exact ⟨0, rfl, Nat.zero_le _, rfl, by rw [List.drop_zero]; exact HRES, rfl⟩
  case round =>
    obtain ⟨j, rfl, hj, hk, HA, rfl⟩ := hrel
    by_cases hlt : j < l.length
    case pos =>
      have hi : (j : Int) < (l.length : Int) := by omega
      obtain ⟨b, o, rfl, ⟨m0, m1, m2, m3, m4, m5⟩⟩ := sm_at h hlt
      have ha := HA.out
      rw [all_drop hlt] at ha
      generalize l[j] = x at *
      obtain ⟨x0, x1, x2, x3, x4, x5⟩ := x
      simp only at m0 m1 m2 m3 m4 m5 ha
      have hs1 : (ByteArray.mk x1.toArray).size = x1.length := text_size _
      by_cases g1 : x1.length ≤ 100
      · have g1' : ¬ (100 : Int) < (x1.length : Int) := by omega
        rw [decide_eq_true g1, Bool.true_and] at ha
        have HA2 := Lib.hid ha
        clear ha g1 HA
        go_wp2_with fail
        go_roundg (l.length - (j + 1))
        case measure => omega
        case rel => exact ⟨j + 1, by go_num, hlt, rfl, HA2, rfl⟩
      · have g1' : (100 : Int) < (x1.length : Int) := by omega
        rw [decide_eq_false g1, Bool.false_and] at ha
        subst ha
        clear g1
        go_wp2_with fail
        go_ret
        exact ⟨rfl, Ext.refl _⟩
    case neg =>
      have hje : j = l.length := by omega
      subst hje
      have hi : ¬ (l.length : Int) < (l.length : Int) := by omega
      have ha := HA.out
      rw [List.drop_length, List.all_nil] at ha
      subst ha
      clear hlt
      go_wp2_with fail
      go_ret
      exact ⟨rfl, Ext.refl _⟩
end Go.Proofs.Ytpejdompanhieaa
