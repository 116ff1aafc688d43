/- The statement ProducerApart of layer 13: the walk of the law. -/
import Derived.Test.YthiaaoiaabocfaaLaw13
import Derived.Test.YthiaaoiaabocfaaPrE
namespace Go.Proofs.Ythiaaoiaabocfaa
open Go.RowKit

/-- A table that is told by rows from block B on. -/
structure TabS (B : Nat) (W : World) (q : Option Addr) (n d : Nat) (t : List Ent) : Prop where
  row : SRow 3 REnt (fun k => B ≤ k) W (.slice q n d) t
  own : ∀ k, (Value.slice q n d).ownBlock = some k → B ≤ k
  few : FewT 5 t
theorem TabS.ext {B : Nat} {W W' : World} {q : Option Addr} {n d : Nat} {t : List Ent} (h : TabS B W q n d t) (hx : Ext W W') : TabS B W' q n d t := ⟨h.row.ext hx, h.own, h.few⟩
theorem TabS.kept {B g : Nat} {W W' : World} {q : Option Addr} {n d : Nat} {t : List Ent} (h : TabS B W q n d t) (hg : W.grownBy W' (some g)) (hgB : g < B) : TabS B W' q n d t :=
  ⟨h.row.kept hg (fun k hk e => by have e2 := Option.some.inj e; omega) (fun k hk e => by have e2 := Option.some.inj e; have := h.own k hk; omega), h.own, h.few⟩
theorem TabS.nil (B : Nat) (W : World) : TabS B W none 0 0 [] := ⟨SRow.nil _ _, fun k e => (by cases e), fun e he => (by cases he)⟩
theorem TabS.put {B : Nat} {W : World} {q : Option Addr} {n d : Nat} {t : List Ent} (h : TabS B W q n d t) (b : Bat) (bp : Option Addr) (bn bc : Nat) (hl : t.length ≤ 1000) (hB : B ≤ W.heap.size) :
    Calls Try.prog 13 #[.agg #[.slice q n d], batv b (.slice bp bn bc)] W fun e w' => ∃ v, e = .returned v ∧ (∃ q' n' d', v = .agg #[.slice q' n' d'] ∧ TabS B w' q' n' d' (putT t b)) ∧ Ext W w' := by
  refine (put_any (.slice q n d) t b bp bn bc W h.row hl (h.few.mono (by omega))).mono ?_
  rintro e w' ⟨v1, rfl, hf1, hn1, hx1⟩
  obtain ⟨q', d', e5, _, _⟩ := hf1.slice
  subst e5
  exact ⟨_, rfl, ⟨_, _, _, rfl, hf1.mono fun k _ hk => hk.elim (fun h => h) (fun h => Nat.le_trans hB h), fun k e => Nat.le_trans hB (hn1 k e), putT_few (Nat.le_refl _) h.few⟩, hx1⟩
theorem T.tableSize1 : (Try.prog.info? 33).map (·.size) = some 1 := by kernel_rfl
theorem slice_one (p : Option Addr) (n c : Nat) : ∀ u ∈ [Value.slice p n c], u.oneCell' = true := fun u hu => by rw [List.mem_singleton] at hu; subst hu; rfl

set_option maxRecDepth 20000 in
set_option maxHeartbeats 8000000 in
theorem producerApart_walk (lv : Value) (l : List Bat) (b : Bat) (vb : Value) (w : World) (h : BatV w lv l) (hb : RecV w vb b.recs) :
    Calls Try.prog 5 #[lv, batv b vb] w fun e w' => e = .returned (.bool true) ∧ Ext w w' := by
  obtain ⟨p, c, rfl, hlc, hcm⟩ := h.slice
  obtain ⟨bp, bc, rfl, hbc, hbm⟩ := hb.slice
  unfold maxLen at hcm
  clear hb hbc hbm
  obtain ⟨b0, b1, b2, b3, b4, rs⟩ := b
  simp only
  generalize rs.length = bn
  by_cases hl : 20 < l.length
  case pos =>
    have hl2 : (20 : Int) < (l.length : Int) := by omega
    have hx0 := Ext.alloc w (.cells #[.int .i64 b0, .int .i64 b1, .int .i64 b2, .int .i64 b3, .int .i64 b4, .slice bp bn bc] 27)
    clear hl
    go_enter Try.func5, Try.ntmps5
    go_wp2_with (go_at_call 9; refine (awake_any _).mono ?_; rintro e w3 ⟨rfl, hx3⟩)
    go_ret
    exact ⟨rfl, hx0.trans hx3⟩
  have hl2 : ¬ (20 : Int) < (l.length : Int) := by omega
  obtain ⟨o1, o2, o3, hx0, hsz⟩ := objs3 w 27 33 33 [.int .i64 b0, .int .i64 b1, .int .i64 b2, .int .i64 b3, .int .i64 b4, .slice bp bn bc] [.slice none 0 0] [.slice none 0 0]
  have HSZ := Lib.hid hsz
  have HL := Lib.hid hl
  clear hsz hl
  go_enter Try.func5, Try.ntmps5
  go_wp2_with fail
  go_loopg [7] (l.length) (fun k s7 wr => ∃ (j : Nat) (qa : Option Addr) (na da : Nat) (qf : Option Addr) (nf df : Nat) (T U : List Ent), s7 = .int .i64 j ∧ j ≤ l.length ∧ k = l.length - j ∧ Hid (TabS (w.heap.size + 3) wr qa na da T) ∧ Hid (TabS (w.heap.size + 3) wr qf nf df U) ∧ Hid (T.length ≤ j ∧ U.length ≤ j ∧ Rising T ∧ findE T b2 = findE U b2) ∧ ObjAt wr w.heap.size 27 [.int .i64 b0, .int .i64 b1, .int .i64 b2, .int .i64 b3, .int .i64 b4, .slice bp bn bc] ∧ ObjAt wr (w.heap.size + 1) 33 [.slice qa na da] ∧ ObjAt wr (w.heap.size + 2) 33 [.slice qf nf df] ∧ Hid (w.heap.size + 3 ≤ wr.heap.size) ∧ Ext w wr)
  case atStart => exact ⟨0, none, 0, 0, none, 0, 0, [], [], rfl, Nat.zero_le _, rfl, Lib.hid (TabS.nil _ _), Lib.hid (TabS.nil _ _), Lib.hid ⟨Nat.le_refl _, Nat.le_refl _, Rising.nil, rfl⟩, o1, o2, o3, Lib.hid (by rw [HSZ.out]; exact Nat.le_refl _), hx0⟩
  case round =>
    obtain ⟨j, qa, na, da, qf, nf, df, T, U, rfl, hj, hk, HT, HU, HI, oB, oA, oF, HB, hx⟩ := hrel
    obtain ⟨wo, hwo⟩ : ∃ wo, wo = wr := ⟨_, rfl⟩
    subst hwo
    clear o1 o2 o3 hx0
    by_cases hlt : j < l.length
    case pos =>
      have hi : (j : Int) < (l.length : Int) := by omega
      obtain ⟨bb, oo, qb, db, rfl, ⟨m0, m1, m2, m3, m4, m5⟩, _⟩ := bat_at h hlt
      generalize l[j] = x at *
      obtain ⟨x0, x1, x2, x3, x4, xs⟩ := x
      simp only at m0 m1 m2 m3 m4 m5
      generalize xs.length = xn at *
      have n0 := hx.cell m0
      have n1 := hx.cell m1
      have n2 := hx.cell m2
      have n3 := hx.cell m3
      have n4 := hx.cell m4
      have n5 := hx.cell m5
      have ca := oA.cell (j := 0) rfl
      have PA := fun W (hW : Ext wo W) => (HT.out.ext hW).put ⟨x0, x1, x2, x3, x4, xs⟩ qb xn db (by have := HI.out.1; have := HL.out; omega) (Nat.le_trans HB.out hW.size)
      go_wp2_with fail
      apply wp_region_dag_tail 6 (X := Ext) (by kernel_rfl) (by kernel_rfl) (by kernel_rfl) (by decide) (fun _ _ _ => Ext.trans) (Ext.drew1 _)
      simp only [List.take_succ_cons, List.take_zero, List.drop_succ_cons, List.drop_zero]
      apply dag_val Ext.refl rfl (by intro W hW H; have q0 := hW.cell ca; go_simp <;> rfl)
      simp only [Act.put, List.setIfInBounds_toArray, List.set_cons_zero, List.set_cons_succ]
      apply dag_val Ext.refl rfl (by intro W hW H; go_simp <;> rfl)
      simp only [Act.put, List.setIfInBounds_toArray, List.set_cons_zero, List.set_cons_succ]
      apply dag_val Ext.refl rfl (by intro W hW H; go_simp <;> rfl)
      simp only [Act.put, List.setIfInBounds_toArray, List.set_cons_zero, List.set_cons_succ]
      apply dag_val Ext.refl rfl (by intro W hW H; go_simp <;> rfl)
      simp only [Act.put, List.setIfInBounds_toArray, List.set_cons_zero, List.set_cons_succ]
      apply dag_val Ext.refl rfl (by intro W hW H; have q0 := hW.cell n0; have q1 := hW.cell n1; have q2 := hW.cell n2; have q3 := hW.cell n3; have q4 := hW.cell n4; have q5 := hW.cell n5; go_simp <;> rfl)
      simp only [Act.put, List.setIfInBounds_toArray, List.set_cons_zero, List.set_cons_succ]
      refine' dag_calls (fun v W => ∃ q' n' d', v = .agg #[.slice q' n' d'] ∧ TabS (w.heap.size + 3) W q' n' d' (putT T ⟨x0, x1, x2, x3, x4, xs⟩)) (fun v W W' hx ⟨q', n', d', e, h1⟩ => ⟨q', n', d', e, h1.ext hx⟩) rfl (by intro W; go_simp <;> rfl) (fun W hW H => (PA W hW).mono (by rintro e w' ⟨v1, rfl, hf1, hx1⟩; exact ⟨_, rfl, hf1, hx1⟩)) (fun u => _)
      rotate_left
      simp only [Act.put, List.setIfInBounds_toArray, List.set_cons_zero, List.set_cons_succ]
      refine dag_end fun W hW H => ?_
      obtain ⟨q', n', d', eu, hs2⟩ : ∃ q' n' d', u = .agg #[.slice q' n' d'] ∧ TabS (w.heap.size + 3) W q' n' d' (putT T ⟨x0, x1, x2, x3, x4, xs⟩) := H 5
      subst eu
      clear H PA ca n0 n1 n2 n3 n4 n5
      have oA1 := oA.ext hW
      have HS2 := Lib.hid hs2
      have HW1 := Lib.hid hW
      clear hs2 hW
      go_wp2_with ((with_reducible show wpList _ _ _ (Oper.mk _ (Op.store _ _ _) _ _ _ _ :: _) _ _); refine st_store (vs := [.slice q' n' d']) oA1 Go.Proofs.Ythiaaoiaabocfaa.T.tableSize1 (Nat.le_refl _) (slice_one _ _ _) ?_; intro w1 hh1 hg1
                   have oA2 : ObjAt w1 (w.heap.size + 1) 33 [.slice q' n' d'] := hh1
                   have oF2 := (oF.ext HW1.out).kept hg1 (fun e => by have e2 := Option.some.inj e; omega)
                   have oB2 := (oB.ext HW1.out).kept hg1 (fun e => by have e2 := Option.some.inj e; omega)
                   have HTA := Lib.hid (HS2.out.kept hg1 (by omega))
                   have HUA := Lib.hid ((HU.out.ext HW1.out).kept hg1 (by omega))
                   have HX1 : Hid (Ext w w1) := Lib.hid ((hx.trans HW1.out).grown hg1 (by omega))
                   have HZ1 := Lib.hid (Nat.le_trans HB.out (Nat.le_trans HW1.out.size hg1.size))
                   clear hh1 hg1 oA1)
      have n0 := HX1.out.cell m0
      have n1 := HX1.out.cell m1
      have n2 := HX1.out.cell m2
      have n3 := HX1.out.cell m3
      have n4 := HX1.out.cell m4
      have n5 := HX1.out.cell m5
      have cb := oB2.cell (j := 2) rfl
      apply wp_region_dag (X := Ext) (by kernel_rfl) (by kernel_rfl) (fun _ _ _ => Ext.trans) (Ext.drew1 _)
      apply dag_val Ext.refl rfl (by intro W hW H; go_simp <;> rfl)
      simp only [Act.put, List.setIfInBounds_toArray, List.set_cons_zero, List.set_cons_succ]
      apply dag_val Ext.refl rfl (by intro W hW H; go_simp <;> rfl)
      simp only [Act.put, List.setIfInBounds_toArray, List.set_cons_zero, List.set_cons_succ]
      apply dag_val Ext.refl rfl (by intro W hW H; go_simp <;> rfl)
      simp only [Act.put, List.setIfInBounds_toArray, List.set_cons_zero, List.set_cons_succ]
      apply dag_val Ext.refl rfl (by intro W hW H; go_simp <;> rfl)
      simp only [Act.put, List.setIfInBounds_toArray, List.set_cons_zero, List.set_cons_succ]
      apply dag_val Ext.refl rfl (by intro W hW H; have q0 := hW.cell n2; go_simp <;> rfl)
      simp only [Act.put, List.setIfInBounds_toArray, List.set_cons_zero, List.set_cons_succ]
      apply dag_val Ext.refl rfl (by intro W hW H; go_simp <;> rfl)
      simp only [Act.put, List.setIfInBounds_toArray, List.set_cons_zero, List.set_cons_succ]
      apply dag_val Ext.refl rfl (by intro W hW H; have q0 := hW.cell cb; go_simp <;> rfl)
      simp only [Act.put, List.setIfInBounds_toArray, List.set_cons_zero, List.set_cons_succ]
      apply dag_val Ext.refl rfl (by intro W hW H; go_simp <;> rfl)
      simp only [Act.put, List.setIfInBounds_toArray, List.set_cons_zero, List.set_cons_succ]
      refine dag_end fun W2 hW2 H => ?_
      clear H
      cases hc : (x2 == b2)
      case false =>
        have hne : x2 ≠ b2 := by simpa using hc
        have HII := Lib.hid (And.intro (show (putT T ⟨x0, x1, x2, x3, x4, xs⟩).length ≤ j + 1 from Nat.le_trans (putT_length _ _) (Nat.succ_le_succ HI.out.1)) (And.intro (Nat.le_trans HI.out.2.1 (Nat.le_succ j)) (And.intro (HI.out.2.2.1.put ⟨x0, x1, x2, x3, x4, xs⟩) (find_one_side (b := ⟨x0, x1, x2, x3, x4, xs⟩) HI.out.2.2.2 hne))))
        clear hne
        go_wp2_with fail
        go_roundg (l.length - (j + 1))
        case measure => omega
        case rel => exact ⟨j + 1, q', n', d', qf, nf, df, _, U, by go_num, hlt, rfl, Lib.hid (HTA.out.ext hW2), Lib.hid (HUA.out.ext hW2), HII, oB2.ext hW2, oA2.ext hW2, oF2.ext hW2, Lib.hid (Nat.le_trans HZ1.out hW2.size), HX1.out.trans hW2⟩
      case true =>
        have heq : x2 = b2 := by simpa using hc
        have HII := Lib.hid (And.intro (show (putT T ⟨x0, x1, x2, x3, x4, xs⟩).length ≤ j + 1 from Nat.le_trans (putT_length _ _) (Nat.succ_le_succ HI.out.1)) (And.intro (show (putT U ⟨x0, x1, x2, x3, x4, xs⟩).length ≤ j + 1 from Nat.le_trans (putT_length _ _) (Nat.succ_le_succ HI.out.2.1)) (And.intro (HI.out.2.2.1.put ⟨x0, x1, x2, x3, x4, xs⟩) (find_both (b := ⟨x0, x1, x2, x3, x4, xs⟩) HI.out.2.2.2 heq))))
        have PF := fun W (hW : Ext W2 W) => ((HUA.out.ext hW2).ext hW).put ⟨x0, x1, x2, x3, x4, xs⟩ qb xn db (by have := HI.out.2.1; have := HL.out; omega) (Nat.le_trans (Nat.le_trans HZ1.out hW2.size) hW.size)
        have k0 := hW2.cell n0
        have k1 := hW2.cell n1
        have k2 := hW2.cell n2
        have k3 := hW2.cell n3
        have k4 := hW2.cell n4
        have k5 := hW2.cell n5
        have oF3 := oF2.ext hW2
        have cf := oF3.cell (j := 0) rfl
        clear heq
        go_wp2_with fail
        apply wp_region_dag_tail 6 (X := Ext) (by kernel_rfl) (by kernel_rfl) (by kernel_rfl) (by decide) (fun _ _ _ => Ext.trans) (Ext.drew1 _)
        simp only [List.take_succ_cons, List.take_zero, List.drop_succ_cons, List.drop_zero]
        apply dag_val Ext.refl rfl (by intro W hW H; have q0 := hW.cell cf; go_simp <;> rfl)
        simp only [Act.put, List.setIfInBounds_toArray, List.set_cons_zero, List.set_cons_succ]
        apply dag_val Ext.refl rfl (by intro W hW H; go_simp <;> rfl)
        simp only [Act.put, List.setIfInBounds_toArray, List.set_cons_zero, List.set_cons_succ]
        apply dag_val Ext.refl rfl (by intro W hW H; go_simp <;> rfl)
        simp only [Act.put, List.setIfInBounds_toArray, List.set_cons_zero, List.set_cons_succ]
        apply dag_val Ext.refl rfl (by intro W hW H; go_simp <;> rfl)
        simp only [Act.put, List.setIfInBounds_toArray, List.set_cons_zero, List.set_cons_succ]
        apply dag_val Ext.refl rfl (by intro W hW H; have q0 := hW.cell k0; have q1 := hW.cell k1; have q2 := hW.cell k2; have q3 := hW.cell k3; have q4 := hW.cell k4; have q5 := hW.cell k5; go_simp <;> rfl)
        simp only [Act.put, List.setIfInBounds_toArray, List.set_cons_zero, List.set_cons_succ]
        refine' dag_calls (fun v W => ∃ q' n' d', v = .agg #[.slice q' n' d'] ∧ TabS (w.heap.size + 3) W q' n' d' (putT U ⟨x0, x1, x2, x3, x4, xs⟩)) (fun v W W' hx ⟨q', n', d', e, h1⟩ => ⟨q', n', d', e, h1.ext hx⟩) rfl (by intro W; go_simp <;> rfl) (fun W hW H => (PF W hW).mono (by rintro e w' ⟨v1, rfl, hf1, hx1⟩; exact ⟨_, rfl, hf1, hx1⟩)) (fun u => _)
        rotate_left
        simp only [Act.put, List.setIfInBounds_toArray, List.set_cons_zero, List.set_cons_succ]
        refine dag_end fun W3 hW3 H => ?_
        obtain ⟨qg, ng, dg, eu, hs3⟩ : ∃ q' n' d', u = .agg #[.slice q' n' d'] ∧ TabS (w.heap.size + 3) W3 q' n' d' (putT U ⟨x0, x1, x2, x3, x4, xs⟩) := H 5
        subst eu
        clear H PF
        have oF4 := oF3.ext hW3
        have HS3 := Lib.hid hs3
        have HW3 := Lib.hid hW3
        have HW2 := Lib.hid hW2
        clear hs3 hW3 hW2
        go_wp2_with ((with_reducible show wpList _ _ _ (Oper.mk _ (Op.store _ _ _) _ _ _ _ :: _) _ _); refine st_store (vs := [.slice qg ng dg]) oF4 Go.Proofs.Ythiaaoiaabocfaa.T.tableSize1 (Nat.le_refl _) (slice_one _ _ _) ?_; intro w5 hh5 hg5
                     have oF5 : ObjAt w5 (w.heap.size + 2) 33 [.slice qg ng dg] := hh5
                     have oA5 := (oA2.ext (HW2.out.trans HW3.out)).kept hg5 (fun e => by have e2 := Option.some.inj e; omega)
                     have oB5 := (oB2.ext (HW2.out.trans HW3.out)).kept hg5 (fun e => by have e2 := Option.some.inj e; omega)
                     have HTB := Lib.hid ((HTA.out.ext (HW2.out.trans HW3.out)).kept hg5 (by omega))
                     have HUB := Lib.hid (HS3.out.kept hg5 (by omega))
                     have HX5 : Hid (Ext w w5) := Lib.hid ((HX1.out.trans (HW2.out.trans HW3.out)).grown hg5 (by omega))
                     have HZ5 := Lib.hid (Nat.le_trans HZ1.out (Nat.le_trans (HW2.out.trans HW3.out).size hg5.size))
                     clear hh5 hg5 oF4)
        go_roundg (l.length - (j + 1))
        case measure => omega
        case rel => exact ⟨j + 1, q', n', d', qg, ng, dg, _, _, by go_num, hlt, rfl, HTB, HUB, HII, oB5, oA5, oF5, HZ5, HX5.out⟩
    case neg =>
      have hje : j = l.length := by omega
      subst hje
      have hi : ¬ (l.length : Int) < (l.length : Int) := by omega
      have ca := oA.cell (j := 0) rfl
      have cf := oF.cell (j := 0) rfl
      have d0 := oB.cell (j := 0) rfl
      have d1 := oB.cell (j := 1) rfl
      have d2 := oB.cell (j := 2) rfl
      have d3 := oB.cell (j := 3) rfl
      have d4 := oB.cell (j := 4) rfl
      have d5 := oB.cell (j := 5) rfl
      have hask : askT behS T ⟨b0, b1, b2, b3, b4, rs⟩ = askT behS U ⟨b0, b1, b2, b3, b4, rs⟩ := ask_of_find HI.out.2.2.2
      have A1 := fun W (hW : Ext wo W) => ask_any _ T ⟨b0, b1, b2, b3, b4, rs⟩ bp bn bc W (TabV.any (HT.out.ext hW).row) (by have := HI.out.1; have := HL.out; omega) ((HT.out.few).mono (by omega))
      have A2 := fun W (hW : Ext wo W) => ask_any _ U ⟨b0, b1, b2, b3, b4, rs⟩ bp bn bc W (TabV.any (HU.out.ext hW).row) (by have := HI.out.2.1; have := HL.out; omega) ((HU.out.few).mono (by omega))
      rw [hask] at A1
      obtain ⟨qx, dx, ex, hnx, hmx⟩ := HT.out.row.slice
      have e6 : na = T.length := by injection ex
      subst e6
      clear ex hask
      generalize askT behS U ⟨b0, b1, b2, b3, b4, rs⟩ = ak at *
      obtain ⟨k0, k1, k2⟩ := ak
      clear oA oF oB hlt
      go_wp2_with (first
        | (go_at_call 11; have hq := hy1; refine (A2 _ hy1).mono ?_; rintro e w2 ⟨rfl, hy2⟩
           have ca2 := (hy1.trans hy2).cell ca)
        | (go_at_call 11; refine (A1 _ (Ext.refl _)).mono ?_; rintro e w1 ⟨rfl, hy1⟩
           have cf1 := hy1.cell cf
           have g0 := hy1.cell d0
           have g1 := hy1.cell d1
           have g2 := hy1.cell d2
           have g3 := hy1.cell d3
           have g4 := hy1.cell d4
           have g5 := hy1.cell d5))
      have HTW := Lib.hid (HT.out.ext (hy1.trans hy2))
      have HXW := Lib.hid (hx.trans (hy1.trans hy2))
      have HLT : Hid (T.length ≤ 1000) := Lib.hid (by have := HI.out.1; have := HL.out; omega)
      clear A1 A2 ca cf d0 d1 d2 d3 d4 d5 cf1 g0 g1 g2 g3 g4 g5
      have HRI := Lib.hid HI.out.2.2.1
      go_loopg [14] (T.length) (fun k s14 wi => ∃ i : Nat, s14 = .int .i64 ((i : Int) + 1) ∧ i ≤ T.length ∧ k = T.length - i ∧ Ext w2 wi)
      case atStart => exact ⟨0, rfl, Nat.zero_le _, rfl, Ext.refl _⟩
      case round =>
        obtain ⟨i, rfl, hil, hk2, hxi⟩ := hrel
        obtain ⟨wi, hwi⟩ : ∃ wi, wi = wr := ⟨_, rfl⟩
        subst hwi
        have ci := hxi.cell ca2
        have hlt3 := HLT.out
        by_cases hlt : i + 1 < T.length
        case pos =>
          have hi1 : (i : Int) + 1 < (T.length : Int) := by omega
          have hi0 : (i : Int) < (T.length : Int) := by omega
          have hs1 : (i : Int) + 1 - 1 = (i : Int) := by omega
          have hw1 : IntKind.i64.wrap (i : Int) = (i : Int) := by rw [IntKind.wrap_i64]; omega
          obtain ⟨bt, ot, q1, d1, e1, ⟨m0, m1, m2⟩, _⟩ := ent_at (TabV.any (HTW.out.ext hxi).row) (show i < T.length by omega)
          obtain ⟨bt', ot', q2, d2, e2, ⟨n0, n1, n2⟩, _⟩ := ent_at (TabV.any (HTW.out.ext hxi).row) hlt
          subst e1
          cases e2
          have hrise := HRI.out.at hlt
          generalize T[i] = x at *
          generalize T[i + 1] = y at *
          obtain ⟨x0, x1, xl⟩ := x
          obtain ⟨y0, y1, yl⟩ := y
          simp only at m0 m1 m2 n0 n1 n2 hrise
          have hge : ¬ y0 ≤ x0 := by omega
          go_wp2_with fail
          apply wp_region_dag (X := Ext) (by kernel_rfl) (by kernel_rfl) (fun _ _ _ => Ext.trans) (Ext.drew1 _)
          apply dag_val Ext.refl rfl (by intro W hW H; go_simp <;> rfl)
          simp only [Act.put, List.setIfInBounds_toArray, List.set_cons_zero, List.set_cons_succ]
          apply dag_val Ext.refl rfl (by intro W hW H; have q0 := hW.cell ci; go_simp <;> rfl)
          simp only [Act.put, List.setIfInBounds_toArray, List.set_cons_zero, List.set_cons_succ]
          apply dag_val Ext.refl rfl (by intro W hW H; go_simp <;> rfl)
          simp only [Act.put, List.setIfInBounds_toArray, List.set_cons_zero, List.set_cons_succ]
          apply dag_val Ext.refl rfl (by intro W hW H; go_simp <;> rfl)
          simp only [Act.put, List.setIfInBounds_toArray, List.set_cons_zero, List.set_cons_succ]
          apply dag_val Ext.refl rfl (by intro W hW H; go_simp <;> rfl)
          simp only [Act.put, List.setIfInBounds_toArray, List.set_cons_zero, List.set_cons_succ]
          apply dag_val Ext.refl rfl (by intro W hW H; go_simp <;> rfl)
          simp only [Act.put, List.setIfInBounds_toArray, List.set_cons_zero, List.set_cons_succ]
          apply dag_val Ext.refl rfl (by intro W hW H; have q0 := hW.cell m0; go_simp <;> rfl)
          simp only [Act.put, List.setIfInBounds_toArray, List.set_cons_zero, List.set_cons_succ]
          apply dag_val Ext.refl rfl (by intro W hW H; go_simp <;> rfl)
          simp only [Act.put, List.setIfInBounds_toArray, List.set_cons_zero, List.set_cons_succ]
          apply dag_val Ext.refl rfl (by intro W hW H; have q0 := hW.cell ci; go_simp <;> rfl)
          simp only [Act.put, List.setIfInBounds_toArray, List.set_cons_zero, List.set_cons_succ]
          apply dag_val Ext.refl rfl (by intro W hW H; go_simp <;> rfl)
          simp only [Act.put, List.setIfInBounds_toArray, List.set_cons_zero, List.set_cons_succ]
          apply dag_val Ext.refl rfl (by intro W hW H; go_simp <;> rfl)
          simp only [Act.put, List.setIfInBounds_toArray, List.set_cons_zero, List.set_cons_succ]
          apply dag_val Ext.refl rfl (by intro W hW H; go_simp <;> rfl)
          simp only [Act.put, List.setIfInBounds_toArray, List.set_cons_zero, List.set_cons_succ]
          apply dag_val Ext.refl rfl (by intro W hW H; have q0 := hW.cell n0; go_simp <;> rfl)
          simp only [Act.put, List.setIfInBounds_toArray, List.set_cons_zero, List.set_cons_succ]
          apply dag_val Ext.refl rfl (by intro W hW H; go_simp <;> rfl)
          simp only [Act.put, List.setIfInBounds_toArray, List.set_cons_zero, List.set_cons_succ]
          refine dag_end fun W hW H => ?_
          clear H
          go_wp2_with fail
          go_roundg (T.length - (i + 1))
          case measure => omega
          case rel => exact ⟨i + 1, by go_num, by omega, rfl, hxi.trans hW⟩
        case neg =>
          have hi1 : ¬ (i : Int) + 1 < (T.length : Int) := by omega
          go_wp2_with (go_at_call 9; refine (awake_any _).mono ?_; rintro e w9 ⟨rfl, hx9⟩)
          go_ret
          exact ⟨rfl, (HXW.out.trans hxi).trans hx9⟩
end Go.Proofs.Ythiaaoiaabocfaa
