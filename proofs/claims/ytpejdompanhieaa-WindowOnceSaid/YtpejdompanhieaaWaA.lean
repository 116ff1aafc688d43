/- What the statements' helpers of layer 35 compute: as, own, back. 'awake' of layer 35's statements answers true. -/
import Derived.Test.YtpejdompanhieaaWdG
namespace Go.Proofs.Ytpejdompanhieaa
open Go.RowKit

set_option maxHeartbeats 1000000 in
theorem las_any (v : Value) (t : List Sm) (w : World) (h : SmV w v t) (hl : t.length ≤ 1000) :
    Calls Try.prog 19 #[v] w fun e w' => ∃ v', e = .returned v' ∧ SmO 69 w' w.heap.size v' t ∧ Ext w w' := by
  obtain ⟨p, c, rfl, _, hcm⟩ := h.slice
  unfold maxLen at hcm
  go_enter Try.func19, Try.ntmps19
  go_wp2_with fail
  go_loopg [3, 4] (t.length) (fun k s3 s4 wr => ∃ (j : Nat) (x : Value), s3 = x ∧ s4 = .int .i64 j ∧ j ≤ t.length ∧ k = t.length - j ∧ SmO 69 wr w.heap.size x (t.take j) ∧ Ext w wr)
  case atStart => exact ⟨0, _, rfl, rfl, Nat.zero_le _, rfl, ORow.nil _ _ _, Ext.refl _⟩
  case round =>
    obtain ⟨j, x, e3, rfl, hj, hk, ho, hx⟩ := hrel
    replace e3 := e3.symm
    subst e3
    obtain ⟨wo, hwo⟩ : ∃ wo, wo = wr := ⟨_, rfl⟩
    subst hwo
    by_cases hlt : j < t.length
    case pos =>
      have hi : (j : Int) < (t.length : Int) := by omega
      obtain ⟨b, o, rfl, ⟨m0, m1, m2, m3, m4, m5⟩⟩ := sm_at (h.ext hx) hlt
      have hsnoc : t.take (j + 1) = t.take j ++ [t[j]] := List.take_succ_eq_append_getElem hlt
      generalize t[j] = y at *
      have HSN := Lib.hid hsnoc
      have HTL := Lib.hid hl
      clear hsnoc
      have hxa := Ext.alloc wo (.cells #[.int .i64 y.start, .string ⟨y.key.toArray⟩, .int .i64 y.count, .int .i64 y.total, .int .i64 y.least, .int .i64 y.most] 69)
      have hl1 : SRow 6 RSm (fun k => (fun _ => True) k ∧ some k ≠ x.ownBlock) (wo.alloc (.cells #[.int .i64 y.start, .string ⟨y.key.toArray⟩, .int .i64 y.count, .int .i64 y.total, .int .i64 y.least, .int .i64 y.most] 69)) (.slice (some ⟨wo.heap.size, 0, none⟩) 1 1) [y] := SRow.lit1 (cs := smCells y) rfl (sm_one y) (fun _ _ => rfl)
      have hoa := ORow.keep ho hxa
      have hxx := hx.trans hxa
      go_wp2_with (at_builtin; refine st_items T.rsms hoa hl1 ?_ (by have := HTL.out; rw [List.length_take]; simp [maxLen]; omega) (by have := HTL.out; rw [List.length_take]; simp; omega) hxx.size; intro v2 w2 ho2 hg2 _)
      go_roundg (t.length - (j + 1))
      case measure => omega
      case rel => exact ⟨j + 1, _, rfl, by go_num, hlt, rfl, by rw [HSN.out]; exact ho2, hoa.grown hxx hg2⟩
    case neg =>
      have hje : j = t.length := by omega
      subst hje
      have hi : ¬ (t.length : Int) < (t.length : Int) := by omega
      rw [List.take_length] at ho
      clear hlt
      go_wp2_with fail
      go_ret
      exact ⟨_, rfl, ho, hx⟩
theorem rwt_results {fn : Func} {p : Tmp} (h : fn.results = #[.cell p 24]) (tmps : Array Value) (w : World) (g : Nat) (s : Wt) (v : Value)
    (hp : tmps.getD p undef = .pointer (some ⟨g, 0, none⟩)) (hg : ObjAt w g 24 (wtC s v)) : (results fn tmps).run Try.prog w = .ok (wtv s v) w :=
  results_cell_row h tmps w g _ (wtC s v).toArray (0, 0) _ hp hg Try.underlying24 rfl T.rwtSize
set_option maxHeartbeats 1000000 in
theorem lback_any (s : Wt) (v : Value) (w : World) (h : SmV w v s.opn) (hl : s.opn.length ≤ 1000) :
    Calls Try.prog 17 #[wtv s v] w fun e w' => ∃ v', e = .returned (wtv s v') ∧ SmV w' v' s.opn ∧ Ext w w' := by
  obtain ⟨oa, ob, hx0, hsz⟩ := objs2 w 31 24 (wtC s v) (wtC wt0 (.slice none 0 0))
  have A1 := fun W hW => las_any v s.opn W (h.ext (hx0.trans hW)) hl
  obtain ⟨p, c, e, _, _⟩ := h.slice
  generalize s.opn.length = n at e
  subst e
  have a0 := oa.cell (j := 0) rfl
  have a1 := oa.cell (j := 1) rfl
  have a2 := oa.cell (j := 2) rfl
  have a3 := oa.cell (j := 3) rfl
  have a4 := oa.cell (j := 4) rfl
  have HB := Lib.hid ob
  have HX0 := Lib.hid hx0
  have HSZ := Lib.hid hsz
  unfold wt0 at hx0
  clear hsz ob h
  go_enter Try.func17, Try.ntmps17
  go_wp2_with fail
  apply wp_region_dag_tail 11 (X := Ext) (by kernel_rfl) (by kernel_rfl) (by kernel_rfl) (by decide) (fun _ _ _ => Ext.trans) (Ext.drew1 _)
  simp only [List.take_succ_cons, List.take_zero, List.drop_succ_cons, List.drop_zero]
  apply dag_val Ext.refl rfl (by intro W hW H; go_simp <;> rfl)
  simp only [Act.put, List.setIfInBounds_toArray, List.set_cons_zero, List.set_cons_succ]
  apply dag_val Ext.refl rfl (by intro W hW H; have q := hW.cell a0; go_simp <;> rfl)
  simp only [Act.put, List.setIfInBounds_toArray, List.set_cons_zero, List.set_cons_succ]
  apply dag_val Ext.refl rfl (by intro W hW H; go_simp <;> rfl)
  simp only [Act.put, List.setIfInBounds_toArray, List.set_cons_zero, List.set_cons_succ]
  apply dag_val Ext.refl rfl (by intro W hW H; have q := hW.cell a1; go_simp <;> rfl)
  simp only [Act.put, List.setIfInBounds_toArray, List.set_cons_zero, List.set_cons_succ]
  apply dag_val Ext.refl rfl (by intro W hW H; go_simp <;> rfl)
  simp only [Act.put, List.setIfInBounds_toArray, List.set_cons_zero, List.set_cons_succ]
  apply dag_val Ext.refl rfl (by intro W hW H; have q := hW.cell a2; go_simp <;> rfl)
  simp only [Act.put, List.setIfInBounds_toArray, List.set_cons_zero, List.set_cons_succ]
  apply dag_val Ext.refl rfl (by intro W hW H; go_simp <;> rfl)
  simp only [Act.put, List.setIfInBounds_toArray, List.set_cons_zero, List.set_cons_succ]
  apply dag_val Ext.refl rfl (by intro W hW H; have q := hW.cell a3; go_simp <;> rfl)
  simp only [Act.put, List.setIfInBounds_toArray, List.set_cons_zero, List.set_cons_succ]
  apply dag_val Ext.refl rfl (by intro W hW H; go_simp <;> rfl)
  simp only [Act.put, List.setIfInBounds_toArray, List.set_cons_zero, List.set_cons_succ]
  apply dag_val Ext.refl rfl (by intro W hW H; have q := hW.cell a4; go_simp <;> rfl)
  simp only [Act.put, List.setIfInBounds_toArray, List.set_cons_zero, List.set_cons_succ]
  refine' dag_calls (fun v W => SmO 69 W (w.heap.size + 2) v s.opn) (fun v W W' hx h => ORow.keep h hx) rfl (by intro W; go_simp <;> rfl) (fun W hW H => (A1 W hW).mono (by rintro e w' ⟨v1, rfl, h1, h2⟩; exact ⟨v1, rfl, ORow.base h1 (Nat.le_trans (Nat.le_of_eq HSZ.out.symm) hW.size), h2⟩)) (fun v1 => _)
  rotate_left
  simp only [Act.put, List.setIfInBounds_toArray, List.set_cons_zero, List.set_cons_succ]
  refine dag_end fun W hW H => ?_
  have h1 : SmO 69 W (w.heap.size + 2) v1 s.opn := H 10
  obtain ⟨p1, c1, e1, _, _⟩ := h1.view.slice
  have HV := Lib.hid h1
  generalize s.opn.length = n1 at e1
  subst e1
  have ob1 := HB.out.ext hW
  clear H h1
  go_wp2_with ((with_reducible show wpList _ _ _ (Oper.mk _ (Op.store _ _ _) _ _ _ _ :: _) _ _); refine st_put (vs := wtC s (.slice p1 n1 c1)) ob1 T.rwtSize rfl (wt_one s rfl) ?_; intro w4 ob4 hg4)
  refine bodyPost_ret (rwt_results rfl _ _ (w.heap.size + 1) s _ rfl ob4) rfl ?_
  have hx := (HX0.out.trans hW).grown hg4 (Nat.le_succ _)
  refine ⟨_, rfl, SmO.view (SmO.kept HV.out hg4 (.inr fun e => ?_)), hx⟩
  have := (ORow.own HV.out _ e).1
  omega
/-- What an append onto a row of the program's sums has made. -/
def GrewP (w0 W : World) (B : Nat) (vx v : Value) (l : List Sm) : Prop := SmO 64 W B v l ∧ w0.grownBy W vx.ownBlock
theorem GrewP.keep {w0 W W' : World} {B : Nat} {vx v : Value} {l : List Sm} (h : GrewP w0 W B vx v l) (hx : Ext W W') : GrewP w0 W' B vx v l := ⟨ORow.keep h.1 hx, h.2.trans (hx.grownBy _)⟩
theorem sms_grows {o : Oper} {a : Act} {x y : Operand} (ho : o.op = .call { callee := .builtin .append, args := #[x, y], argTypes := #[29, 29] }) {w0 W : World} {B : Nat} {vx vy : Value} {L : List Sm} {q : Sm} (ex : a.eval x = vx) (ey : a.eval y = vy)
    (h0 : SmO 64 w0 B vx L) (hx : Ext w0 W) (hy : LitW w0 W q vy) (hl : L.length ≤ 1000) (hB : B ≤ w0.heap.size) : ∃ v W', (execOp a.eval o).run Try.prog W = .ok (.value v) W' ∧ W.grownBy W' vx.ownBlock ∧ GrewP w0 W' B vx v (L ++ [q]) := by
  obtain ⟨v, W', hr, h1, h2⟩ := sms_app_run ho ex ey (ORow.keep h0 hx) hy hl (Nat.le_trans hB hx.size)
  exact ⟨v, W', hr, h1, h2, (hx.grownBy _).trans h1⟩
/-- What own has laid so far. -/
def OwnI (W0 W : World) (C : Nat) (s : Wt) (x : Value) (L : List Sm) : Prop := SmO 64 W (C + 1) x L ∧ ObjAt W C 31 (wtC s x) ∧ Below C W0 W
theorem OwnI.step {W0 W W' : World} {C : Nat} {s : Wt} {x v : Value} {L l : List Sm} (h : OwnI W0 W C s x L) (hg : GrewP W W' (C + 1) x v l) : ObjAt W' C 31 (wtC s x) ∧ OwnI W0 (W'.setCell ⟨C, 4, none⟩ v) C s v l := by
  obtain ⟨h1, h2, h3⟩ := h
  have hlt := h2.lt
  have hob := h2.kept hg.2 (fun e => by have := (ORow.own h1 _ e.symm).1; omega)
  have hne : v.ownBlock ≠ some C := fun e => by have := (ORow.own hg.1 _ e).1; omega
  refine ⟨hob, SmO.kept hg.1 (grown_set W' ⟨C, 4, none⟩ v) (.inr hne), hob.store 4 v, ?_⟩
  exact h3.trans ((Below.grown (Below.refl C W) hg.2 (by omega) fun k e => by have := (ORow.own h1 _ e).1; omega).trans (Below.grown (Below.refl C W') (grown_set W' ⟨C, 4, none⟩ v) (by have := hob.lt; omega) fun k e => by cases e; exact Nat.le_refl _))
set_option maxRecDepth 20000 in
set_option maxHeartbeats 2000000 in
theorem lown_any (s : Wt) (v : Value) (w : World) (h : SmV w v s.opn) (hl : s.opn.length ≤ 1000) :
    Calls Try.prog 9 #[wtv s v] w fun e w' => ∃ v', e = .returned (wtv s v') ∧ SmV w' v' s.opn ∧ Ext w w' := by
  obtain ⟨oa, ob, oc, hx0, hsz⟩ := objs3 w 24 31 31 (wtC s v) (wtC wt0 (.slice none 0 0)) (wtC ⟨s.size, s.late, s.mark, s.drops, []⟩ (.slice none 0 0))
  obtain ⟨q, c, rfl, hnc, hcm⟩ := h.slice
  have o2 := objs2 w 24 31 (wtC s (.slice q s.opn.length c)) (wtC wt0 (.slice none 0 0))
  have b0 := o2.1.cell (j := 0) rfl
  have b1 := o2.1.cell (j := 1) rfl
  have b2 := o2.1.cell (j := 2) rfl
  have b3 := o2.1.cell (j := 3) rfl
  have HI0 : Hid (OwnI (((w.alloc (.cells #[.int .i64 s.size, .int .i64 s.late, .int .i64 s.mark, .int .i64 s.drops, .slice q s.opn.length c] 24)).alloc (.cells #[.int .i64 0, .int .i64 0, .int .i64 0, .int .i64 0, .slice none 0 0] 31)).alloc (.cells #[.int .i64 s.size, .int .i64 s.late, .int .i64 s.mark, .int .i64 s.drops, .slice none 0 0] 31)) (((w.alloc (.cells #[.int .i64 s.size, .int .i64 s.late, .int .i64 s.mark, .int .i64 s.drops, .slice q s.opn.length c] 24)).alloc (.cells #[.int .i64 0, .int .i64 0, .int .i64 0, .int .i64 0, .slice none 0 0] 31)).alloc (.cells #[.int .i64 s.size, .int .i64 s.late, .int .i64 s.mark, .int .i64 s.drops, .slice none 0 0] 31)) (w.heap.size + 2) ⟨s.size, s.late, s.mark, s.drops, []⟩ (.slice none 0 0) []) := Lib.hid ⟨ORow.nil _ _ _, oc, Below.refl _ _⟩
  have HA : Hid (ObjAt (((w.alloc (.cells #[.int .i64 s.size, .int .i64 s.late, .int .i64 s.mark, .int .i64 s.drops, .slice q s.opn.length c] 24)).alloc (.cells #[.int .i64 0, .int .i64 0, .int .i64 0, .int .i64 0, .slice none 0 0] 31)).alloc (.cells #[.int .i64 s.size, .int .i64 s.late, .int .i64 s.mark, .int .i64 s.drops, .slice none 0 0] 31)) w.heap.size 24 (wtC s (.slice q s.opn.length c))) := Lib.hid oa
  have HB : Hid (ObjAt (((w.alloc (.cells #[.int .i64 s.size, .int .i64 s.late, .int .i64 s.mark, .int .i64 s.drops, .slice q s.opn.length c] 24)).alloc (.cells #[.int .i64 0, .int .i64 0, .int .i64 0, .int .i64 0, .slice none 0 0] 31)).alloc (.cells #[.int .i64 s.size, .int .i64 s.late, .int .i64 s.mark, .int .i64 s.drops, .slice none 0 0] 31)) (w.heap.size + 1) 31 (wtC wt0 (.slice none 0 0))) := Lib.hid ob
  have HX0 : Hid (Ext w (((w.alloc (.cells #[.int .i64 s.size, .int .i64 s.late, .int .i64 s.mark, .int .i64 s.drops, .slice q s.opn.length c] 24)).alloc (.cells #[.int .i64 0, .int .i64 0, .int .i64 0, .int .i64 0, .slice none 0 0] 31)).alloc (.cells #[.int .i64 s.size, .int .i64 s.late, .int .i64 s.mark, .int .i64 s.drops, .slice none 0 0] 31))) := Lib.hid hx0
  have HV := Lib.hid h
  have HL := Lib.hid hl
  unfold wt0 at b0 b1 b2 b3
  clear oa ob oc hx0 hsz o2 h hl hcm
  go_enter Try.func9, Try.ntmps9
  go_wp2_with fail
  obtain ⟨W0, hW0⟩ : ∃ W, W = (((w.alloc (.cells #[.int .i64 s.size, .int .i64 s.late, .int .i64 s.mark, .int .i64 s.drops, .slice q s.opn.length c] 24)).alloc (.cells #[.int .i64 0, .int .i64 0, .int .i64 0, .int .i64 0, .slice none 0 0] 31)).alloc (.cells #[.int .i64 s.size, .int .i64 s.late, .int .i64 s.mark, .int .i64 s.drops, .slice none 0 0] 31)) := ⟨_, rfl⟩
  rw [← hW0] at HI0 HA HB HX0 ⊢
  clear hW0 b0 b1 b2 b3
  go_loopg [4] (s.opn.length) (fun k s4 wr => ∃ j : Nat, s4 = .int .i64 j ∧ j ≤ s.opn.length ∧ k = s.opn.length - j ∧ Hid (∃ vo, OwnI W0 wr (w.heap.size + 2) ⟨s.size, s.late, s.mark, s.drops, []⟩ vo (s.opn.take j)))
  case atStart => exact ⟨0, rfl, Nat.zero_le _, rfl, Lib.hid ⟨_, HI0.out⟩⟩
  case round =>
    obtain ⟨j, rfl, hj, hk, HI⟩ := hrel
    obtain ⟨vo, hI⟩ := HI.out
    have hax : ∀ i u, (wtC s (.slice q s.opn.length c))[i]? = some u → wr.cell? ⟨w.heap.size, i, none⟩ = some u := fun i u hu => by
      have h1 : ObjAt wr w.heap.size 24 (wtC s (.slice q s.opn.length c)) := (hI.2.2.block _ (by omega)).trans HA.out
      exact h1.cell hu
    have a4 := hax 4 _ rfl
    have hxw : Ext w wr := HX0.out.thenBelow (hI.2.2.mono (by omega))
    by_cases hlt : j < s.opn.length
    case pos =>
      have hi : (j : Int) < (s.opn.length : Int) := by omega
      obtain ⟨b, o, rfl, ⟨m0, m1, m2, m3, m4, m5⟩⟩ := sm_at (HV.out.ext hxw) hlt
      have hsn : s.opn.take (j + 1) = s.opn.take j ++ [s.opn[j]] := List.take_succ_eq_append_getElem hlt
      have hl1 : (s.opn.take j).length ≤ 1000 := by rw [List.length_take]; have := HL.out; omega
      generalize s.opn[j] = x at *
      generalize hL : s.opn.take j = L at *
      obtain ⟨po, co, e, _, _⟩ := hI.1.view.slice
      generalize L.length = no at e hl1
      subst e
      have c4 := hI.2.1.cell (j := 4) (u := .slice po no co) rfl
      have HII := Lib.hid hI
      have HSN := Lib.hid hsn
      have HL1 : Hid (L.length ≤ 1000) := Lib.hid (by rw [← hL, List.length_take]; have := HL.out; omega)
      have HOW : Hid (∀ k, (Value.slice po no co).ownBlock = some k → k < wr.heap.size) := Lib.hid fun k e => (ORow.own hI.1 k e).2
      have HBB : Hid (w.heap.size + 2 + 1 ≤ wr.heap.size) := Lib.hid hI.2.1.lt
      have HQ : Hid (wrap64 ((j : Int) + 1) = ((j + 1 : Nat) : Int)) := Lib.hid (by have := HL.out; unfold wrap64; omega)
      clear hI hax hxw hsn hl1 hL
      go_wp2_with fail
      apply wp_region_dagK 8 9 (fun a b => a.grownBy b (Value.slice po no co).ownBlock) (X := Ext) (by kernel_rfl) (by kernel_rfl) (by kernel_rfl) (by decide) (by decide) (fun _ _ _ => Ext.trans) (Ext.drew1 _)
      simp only [List.take_succ_cons, List.take_zero, List.drop_succ_cons, List.drop_zero]
      apply dagk_val Ext.refl rfl (by intro W hW H; go_simp <;> rfl)
      simp only [Act.put, List.setIfInBounds_toArray, List.set_cons_zero, List.set_cons_succ]
      apply dagk_val Ext.refl rfl (by intro W hW H; have hW := hW (by kernel_rfl); have q := hW.cell c4; go_simp <;> rfl)
      simp only [Act.put, List.setIfInBounds_toArray, List.set_cons_zero, List.set_cons_succ]
      apply dagk_val Ext.refl rfl (by intro W hW H; go_simp <;> rfl)
      simp only [Act.put, List.setIfInBounds_toArray, List.set_cons_zero, List.set_cons_succ]
      apply dagk_val Ext.refl rfl (by intro W hW H; have hW := hW (by kernel_rfl); have q := hW.cell a4; go_simp <;> rfl)
      simp only [Act.put, List.setIfInBounds_toArray, List.set_cons_zero, List.set_cons_succ]
      apply dagk_val Ext.refl rfl (by intro W hW H; go_simp <;> rfl)
      simp only [Act.put, List.setIfInBounds_toArray, List.set_cons_zero, List.set_cons_succ]
      apply dagk_val Ext.refl rfl (by intro W hW H; go_simp <;> rfl)
      simp only [Act.put, List.setIfInBounds_toArray, List.set_cons_zero, List.set_cons_succ]
      apply dagk_val Ext.refl rfl (by intro W hW H; have hW := hW (by kernel_rfl); have q0 := hW.cell m0; have q1 := hW.cell m1; have q2 := hW.cell m2; have q3 := hW.cell m3; have q4 := hW.cell m4; have q5 := hW.cell m5; go_simp <;> rfl)
      simp only [Act.put, List.setIfInBounds_toArray, List.set_cons_zero, List.set_cons_succ]
      refine' dagk_run (fun v W => LitW wr W x v) (fun v W1 W2 hs h => hs.elim (fun hx => h.ext hx) fun hz => h.grown hz.2 HOW.out) rfl (fun W hW H => ⟨.slice (some ⟨W.heap.size, 0, none⟩) 1 1, W.alloc (.cells (smCells x).toArray 64), (by unfold smCells; go_simp <;> rfl), stepk_x (Ext.alloc _ _) (by decide), ⟨_, rfl, heap_alloc_new _ _, (hW (by kernel_rfl)).size⟩⟩) (fun v5 => _)
      rotate_left
      simp only [Act.put, List.setIfInBounds_toArray, List.set_cons_zero, List.set_cons_succ]
      refine' dagk_run (fun v W => GrewP wr W (w.heap.size + 2 + 1) (.slice po no co) v (L ++ [x])) (fun v W1 W2 hs h => hs.elim (fun hx => h.keep hx) fun hz => absurd rfl hz.1) rfl (fun W hW H => (sms_grows (vx := .slice po no co) (vy := v5) rfl rfl rfl HII.out.1 (hW (by kernel_rfl)) (show LitW wr W x v5 from H 7 (by kernel_rfl)) HL1.out HBB.out).imp fun v hv => hv.imp fun W' hw => ⟨hw.1, stepk_z hw.2.1, hw.2.2⟩) (fun v6 => _)
      rotate_left
      simp only [Act.put, List.setIfInBounds_toArray, List.set_cons_zero, List.set_cons_succ]
      refine dagk_end fun W1 H => ?_
      have hg1 : GrewP wr W1 (w.heap.size + 2 + 1) (.slice po no co) v6 (L ++ [x]) := H 8
      obtain ⟨hob, hfi⟩ := OwnI.step HII.out hg1
      obtain ⟨p6, d6, e6, _, _⟩ := hg1.1.view.slice
      have g4 := hob.cell (j := 4) (u := .slice po no co) rfl
      have gf := hob.free 4
      rw [← HSN.out] at e6 hfi
      generalize (s.opn.take (j + 1)).length = n6 at e6
      subst e6
      have HFI := Lib.hid hfi
      clear H hg1 hob hfi c4
      go_wp2_with fail
      go_roundg (s.opn.length - (j + 1))
      case measure => omega
      case rel => exact ⟨j + 1, congrArg (Value.int .i64) HQ.out, hlt, rfl, Lib.hid ⟨_, HFI.out⟩⟩
    case neg =>
      have hje : j = s.opn.length := by omega
      have hi : ¬ (j : Int) < (s.opn.length : Int) := by omega
      obtain ⟨h1, h2, h3⟩ := hI
      rw [hje, List.take_length] at h1
      have ob1 : ObjAt wr (w.heap.size + 1) 31 (wtC wt0 (.slice none 0 0)) := (h3.block _ (by omega)).trans HB.out
      obtain ⟨po, co, e, _, _⟩ := h1.view.slice
      generalize s.opn.length = no at e
      subst e
      have c0 := h2.cell (j := 0) (u := .int .i64 s.size) rfl
      have c1 := h2.cell (j := 1) (u := .int .i64 s.late) rfl
      have c2 := h2.cell (j := 2) (u := .int .i64 s.mark) rfl
      have c3 := h2.cell (j := 3) (u := .int .i64 s.drops) rfl
      have c4 := h2.cell (j := 4) (u := .slice po no co) rfl
      have H1 := Lib.hid h1
      have HXW := Lib.hid hxw
      clear hlt h1 h2 h3 hje hxw hax
      go_wp2_with ((with_reducible show wpList _ _ _ (Oper.mk _ (Op.store _ _ _) _ _ _ _ :: _) _ _); refine st_put (vs := wtC s (.slice po no co)) ob1 T.wtSize rfl (wt_one s rfl) ?_; intro w4 ob4 hg4)
      refine bodyPost_ret (wt_results rfl _ _ (w.heap.size + 1) s _ rfl ob4) rfl ?_
      refine ⟨_, rfl, SmO.view (SmO.kept H1.out hg4 (.inr fun e => ?_)), HXW.out.grown hg4 (Nat.le_succ _)⟩
      have := (ORow.own H1.out _ e).1
      omega
/-- A row of sums stands apart from a block without texts. -/
theorem SmV.apart {w w' : World} {v : Value} {l : List Sm} {g : Nat} {t : TypeId} {cs : List Value} (h : SmV w v l) (ho : ObjAt w g t cs) (hc : ∀ u ∈ cs, ∀ b, u ≠ .string b) (hg : w.grownBy w' (some g)) : SmV w' v l := by
  obtain ⟨css, p, c, h1, h2, h3, h4, h5, h6, h7⟩ := h
  refine ⟨css, p, c, h1, h2, h3, h4, fun hne => ?_, h6, fun j cs x hc hx w' _ => (h7 j cs x hc hx).now⟩
  obtain ⟨b, o, e, hcell⟩ := h5 hne
  refine ⟨b, o, e, fun j u hu => ?_⟩
  have hbg : b ≠ g := by
    rintro rfl
    cases css with
    | nil => exact hne rfl
    | cons c0 cr =>
      cases l with
      | nil => simp at h6
      | cons x xr =>
        have e0 : c0 = smCells x := (h7 0 c0 x rfl rfl).now
        subst e0
        have h8 := hcell 1 (.string ⟨x.key.toArray⟩) rfl
        unfold World.cell? at h8
        have h' : w.heap[b]? = some (.cells cs.toArray t) := ho
        simp only [h'] at h8
        have h9 : cs[o + 1]? = some (.string ⟨x.key.toArray⟩) := by simpa using h8
        exact hc _ (List.mem_of_getElem? h9) _ rfl
  exact (keeps_grown hg).cell (a := ⟨b, o + j, none⟩) (fun e => hbg (Option.some.inj e)) (hcell j u hu)
theorem wt_nos (s : Wt) (p : Option Addr) (n c : Nat) : ∀ u ∈ wtC s (.slice p n c), ∀ b, u ≠ .string b := fun u hu b => by
  simp only [List.mem_cons, List.not_mem_nil, or_false] at hu
  rcases hu with rfl | rfl | rfl | rfl | rfl <;> (intro e; cases e)
def sA1 : Sm := ⟨0, [97], 1, 7, 7, 7⟩
def sA2 : Sm := ⟨0, [97], 2, 8, 1, 7⟩
def sB1 : Sm := ⟨20, [98], 1, 4, 4, 4⟩
def aw0 : Wt := ⟨10, 5, -1, 0, []⟩
def aw1 : Wt := ⟨10, 5, 3, 0, [sA1]⟩
def aw2 : Wt := ⟨10, 5, 9, 0, [sA2]⟩
def aw3 : Wt := ⟨10, 5, 25, 0, [sB1]⟩
def aw4 : Wt := ⟨10, 5, 25, 0, []⟩
theorem awn : newW 10 5 = (aw0, 0) := by kernel_rfl
theorem awf1 : feedP aw0 [97] 3 7 = (aw1, [], 0) := by kernel_rfl
theorem awf2 : feedP aw1 [97] 9 1 = (aw2, [], 0) := by kernel_rfl
theorem awf3 : feedP aw2 [98] 25 4 = (aw3, [sA2], 0) := by kernel_rfl
theorem awcl : closeW aw3 = (aw4, [sB1]) := by kernel_rfl
theorem awck : checkW aw3 = 0 := by kernel_rfl
theorem aws2 : sameW aw3 aw4 = false := by kernel_rfl
theorem awp : putE aw3 = (putW aw3, 0) := by unfold putE; rw [awck]; rfl
theorem awg : getW (putW aw3) = (aw3, 0) := getW_put awck
theorem awl : (putW aw3).length ≤ 100000 := by decide +kernel
theorem new1w (w : World) : Calls Try.prog 14 #[.int .i64 10, .int .i64 5] w fun e w' => e = .returned (.tuple #[.agg #[.int .i64 10, .int .i64 5, .int .i64 (-1), .int .i64 0, .slice none 0 0], .int .i64 0]) ∧ Ext w w' := by
  have := wnew_any 10 5 w
  rw [awn] at this
  exact this
theorem feed_w {s t : Wt} {key : List UInt8} {time n : Int} {o : List Sm} (e : feedP s key time n = (t, o, 0)) (v : Value) (w : World) (h : SmV w v s.opn) (hl : s.opn.length ≤ 100000) :
    Calls Try.prog 10 #[wtv s v, .string ⟨key.toArray⟩, .int .i64 time, .int .i64 n] w fun e w' => ∃ p c q d, e = .returned (.tuple #[wtv t (.slice p t.opn.length c), .slice q o.length d, .int .i64 0]) ∧ SmV w' (.slice p t.opn.length c) t.opn ∧ SmV w' (.slice q o.length d) o ∧ Ext w w' := by
  refine (feed_any s v key time n w h hl).mono ?_
  rw [e]
  rintro e w' ⟨v', lv, rfl, h1, h2, h3⟩
  obtain ⟨p, c, rfl, _, _⟩ := h1.slice
  obtain ⟨q, d, rfl, _, _⟩ := h2.slice
  exact ⟨p, c, q, d, rfl, h1, h2, h3⟩
theorem f1w (w : World) : Calls Try.prog 10 #[.agg #[.int .i64 10, .int .i64 5, .int .i64 (-1), .int .i64 0, .slice none 0 0], .string ⟨#[97]⟩, .int .i64 3, .int .i64 7] w fun e w' => ∃ p c q d, e = .returned (.tuple #[.agg #[.int .i64 10, .int .i64 5, .int .i64 3, .int .i64 0, .slice p 1 c], .slice q 0 d, .int .i64 0]) ∧ SmV w' (.slice p 1 c) [sA1] ∧ SmV w' (.slice q 0 d) [] ∧ Ext w w' := feed_w awf1 _ w (sm_nil w) (by decide)
theorem f2w (v : Value) (w : World) (h : SmV w v [sA1]) : Calls Try.prog 10 #[.agg #[.int .i64 10, .int .i64 5, .int .i64 3, .int .i64 0, v], .string ⟨#[97]⟩, .int .i64 9, .int .i64 1] w fun e w' => ∃ p c q d, e = .returned (.tuple #[.agg #[.int .i64 10, .int .i64 5, .int .i64 9, .int .i64 0, .slice p 1 c], .slice q 0 d, .int .i64 0]) ∧ SmV w' (.slice p 1 c) [sA2] ∧ SmV w' (.slice q 0 d) [] ∧ Ext w w' := feed_w awf2 v w h (by decide)
theorem f3w (v : Value) (w : World) (h : SmV w v [sA2]) : Calls Try.prog 10 #[.agg #[.int .i64 10, .int .i64 5, .int .i64 9, .int .i64 0, v], .string ⟨#[98]⟩, .int .i64 25, .int .i64 4] w fun e w' => ∃ p c q d, e = .returned (.tuple #[.agg #[.int .i64 10, .int .i64 5, .int .i64 25, .int .i64 0, .slice p 1 c], .slice q 1 d, .int .i64 0]) ∧ SmV w' (.slice p 1 c) [sB1] ∧ SmV w' (.slice q 1 d) [sA2] ∧ Ext w w' := feed_w awf3 v w h (by decide)
theorem close1w (v : Value) (w : World) (h : SmV w v [sB1]) : Calls Try.prog 12 #[.agg #[.int .i64 10, .int .i64 5, .int .i64 25, .int .i64 0, v]] w fun e w' => ∃ p c q d, e = .returned (.tuple #[.agg #[.int .i64 10, .int .i64 5, .int .i64 25, .int .i64 0, .slice p 0 c], .slice q 1 d]) ∧ SmV w' (.slice p 0 c) [] ∧ SmV w' (.slice q 1 d) [sB1] ∧ Ext w w' := by
  refine (close_any aw3 v w h (by decide)).mono ?_
  rw [awcl]
  rintro e w' ⟨v', lv, rfl, h1, h2, h3⟩
  obtain ⟨p, c, rfl, _, _⟩ := h1.slice
  obtain ⟨q, d, rfl, _, _⟩ := h2.slice
  exact ⟨p, c, q, d, rfl, h1, h2, h3⟩
theorem total1w (v : Value) (w : World) (h : SmV w v [sB1]) : Calls Try.prog 27 #[v] w fun e w' => e = .returned (.tuple #[.int .i64 1, .int .i64 4]) ∧ Ext w w' := total_any v [sB1] w h (fun x hx => by rw [List.mem_singleton] at hx; subst hx; decide) (by decide)
theorem put1w (v : Value) (w : World) (h : SmV w v [sB1]) : Calls Try.prog 22 #[.agg #[.int .i64 10, .int .i64 5, .int .i64 25, .int .i64 0, v]] w fun e w' => ∃ bv, e = .returned (.tuple #[bv, .int .i64 0]) ∧ BV w' bv (putW aw3) ∧ Ext w w' := by
  have := wput_any aw3 v w h (by decide)
  rw [awp] at this
  exact this
theorem get1w (bv : Value) (w : World) (h : BV w bv (putW aw3)) : Calls Try.prog 24 #[bv] w fun e w' => ∃ p c, e = .returned (.tuple #[.agg #[.int .i64 10, .int .i64 5, .int .i64 25, .int .i64 0, .slice p 1 c], .int .i64 0]) ∧ SmV w' (.slice p 1 c) [sB1] ∧ Ext w w' := by
  refine (wget_any bv (putW aw3) w h awl).mono ?_
  rw [awg]
  rintro e w' ⟨v', rfl, h1, h2⟩
  obtain ⟨p, c, rfl, _, _⟩ := h1.slice
  exact ⟨p, c, rfl, h1, h2⟩
theorem same1w (v v' : Value) (w : World) (h : SmV w v [sB1]) (h' : SmV w v' [sB1]) : Calls Try.prog 26 #[.agg #[.int .i64 10, .int .i64 5, .int .i64 25, .int .i64 0, v], .agg #[.int .i64 10, .int .i64 5, .int .i64 25, .int .i64 0, v']] w fun e w' => e = .returned (.bool true) ∧ Ext w w' := by
  have := equalSW_any v v' aw3 aw3 w h h'
  rw [sameW_refl] at this
  exact this
theorem same2w (v v' : Value) (w : World) (h : SmV w v [sB1]) (h' : SmV w v' []) : Calls Try.prog 26 #[.agg #[.int .i64 10, .int .i64 5, .int .i64 25, .int .i64 0, v], .agg #[.int .i64 10, .int .i64 5, .int .i64 25, .int .i64 0, v']] w fun e w' => e = .returned (.bool false) ∧ Ext w w' := by
  have := equalSW_any v v' aw3 aw4 w h h'
  rw [aws2] at this
  exact this
theorem check1w (v : Value) (w : World) (h : SmV w v [sB1]) : Calls Try.prog 20 #[.agg #[.int .i64 10, .int .i64 5, .int .i64 25, .int .i64 0, v]] w fun e w' => e = .returned (.int .i64 0) ∧ Ext w w' := by
  have := check_any aw3 v w h
  rw [awck] at this
  exact this
set_option maxRecDepth 20000 in
set_option maxHeartbeats 2000000 in
theorem awake_any (w : World) :
    Calls Try.prog 8 #[] w fun e w' => e = .returned (.bool true) ∧ Ext w w' := by
  go_enter Try.func8, Try.ntmps8
  repeat' (first
    | ((with_reducible show wpList _ _ _ (List.append _ _) _ _); show wpList _ _ _ (_ :: _) _ _)
    | (go_big_may; first
        | (go_at_call 14; refine (new1w _).mono ?_; rintro e w1 ⟨rfl, hx1⟩
           have hxa := Ext.alloc w1 (.cells #[.int .i64 10, .int .i64 5, .int .i64 (-1), .int .i64 0, .slice none 0 0] 31)
           have oT : ObjAt (w1.alloc (.cells #[.int .i64 10, .int .i64 5, .int .i64 (-1), .int .i64 0, .slice none 0 0] 31)) w1.heap.size 31 (wtC aw0 (.slice none 0 0)) := heap_alloc_new w1 _
           have HX1 := Lib.hid (hx1.trans hxa)
           have HG := Lib.hid hx1.size
           have t0 : _ = some (Value.int .i64 10) := oT.cell (j := 0) rfl
           have t1 : _ = some (Value.int .i64 5) := oT.cell (j := 1) rfl
           have t2 : _ = some (Value.int .i64 (-1)) := oT.cell (j := 2) rfl
           have t3 : _ = some (Value.int .i64 0) := oT.cell (j := 3) rfl
           have t4 : _ = some (Value.slice none 0 0) := oT.cell (j := 4) rfl
           clear hx1 hxa)
        | (go_at_call 10; have hq := hT5; refine (f3w _ _ hT5).mono ?_; rintro e w6 ⟨p3, c3, q3, d3, rfl, hT6, hO6, hx6⟩
           have HX6 := Lib.hid (HX5.out.trans hx6)
           have oT6 := oT5.ext hx6
           clear hx6 oT5 hT5 t0 t1 t2 t3 t4)
        | (go_at_call 10; have hq := hT3; refine (f2w _ _ hT3).mono ?_; rintro e w4 ⟨p2, c2, q2, d2, rfl, hT4, -, hx4⟩
           have HX4 := Lib.hid (HX3.out.trans hx4)
           have oT4 := oT3.ext hx4
           clear hx4 oT3 hT3 t0 t1 t2 t3 t4)
        | (go_at_call 10; refine (f1w _).mono ?_; rintro e w2 ⟨p1, c1, q1, d1, rfl, hT2, -, hx2⟩
           have HX2 := Lib.hid (HX1.out.trans hx2)
           have oT2 := oT.ext hx2
           clear hx2 oT t0 t1 t2 t3 t4)
        | ((with_reducible show wpList _ _ _ (Oper.mk _ (Op.store _ _ _) _ _ _ _ :: _) _ _); have hq := oT6; refine st_put (vs := wtC aw3 (.slice p3 1 c3)) oT6 T.wtSize rfl (wt_one aw3 rfl) ?_; intro w7 oT7 hg7
           have HX7 := Lib.hid (HX6.out.grown hg7 HG.out)
           have hT7 := hT6.apart oT6 (wt_nos aw2 _ _ _) hg7
           have hO7 := hO6.apart oT6 (wt_nos aw2 _ _ _) hg7
           obtain ⟨b7, o7, e7, ⟨m0, m1, m2, m3, m4, m5⟩⟩ := sm_at hO7 (j := 0) (by decide)
           subst e7
           simp only [Nat.zero_mul, Nat.add_zero] at m0 m1 m2 m3 m4 m5
           have t0 : _ = some (Value.int .i64 10) := oT7.cell (j := 0) rfl
           have t1 : _ = some (Value.int .i64 5) := oT7.cell (j := 1) rfl
           have t2 : _ = some (Value.int .i64 25) := oT7.cell (j := 2) rfl
           have t3 : _ = some (Value.int .i64 0) := oT7.cell (j := 3) rfl
           have t4 : _ = some (Value.slice p3 1 c3) := oT7.cell (j := 4) rfl
           clear hg7 oT6 hT6 hO6)
        | ((with_reducible show wpList _ _ _ (Oper.mk _ (Op.store _ _ _) _ _ _ _ :: _) _ _); have hq := oT4; refine st_put (vs := wtC aw2 (.slice p2 1 c2)) oT4 T.wtSize rfl (wt_one aw2 rfl) ?_; intro w5 oT5 hg5
           have HX5 := Lib.hid (HX4.out.grown hg5 HG.out)
           have hT5 := hT4.apart oT4 (wt_nos aw1 _ _ _) hg5
           have t0 : _ = some (Value.int .i64 10) := oT5.cell (j := 0) rfl
           have t1 : _ = some (Value.int .i64 5) := oT5.cell (j := 1) rfl
           have t2 : _ = some (Value.int .i64 9) := oT5.cell (j := 2) rfl
           have t3 : _ = some (Value.int .i64 0) := oT5.cell (j := 3) rfl
           have t4 : _ = some (Value.slice p2 1 c2) := oT5.cell (j := 4) rfl
           clear hg5 oT4 hT4)
        | ((with_reducible show wpList _ _ _ (Oper.mk _ (Op.store _ _ _) _ _ _ _ :: _) _ _); have hq := oT2; refine st_put (vs := wtC aw1 (.slice p1 1 c1)) oT2 T.wtSize rfl (wt_one aw1 rfl) ?_; intro w3 oT3 hg3
           have HX3 := Lib.hid (HX2.out.grown hg3 HG.out)
           have hT3 := hT2.apart oT2 (wt_nos aw0 _ _ _) hg3
           have t0 : _ = some (Value.int .i64 10) := oT3.cell (j := 0) rfl
           have t1 : _ = some (Value.int .i64 5) := oT3.cell (j := 1) rfl
           have t2 : _ = some (Value.int .i64 3) := oT3.cell (j := 2) rfl
           have t3 : _ = some (Value.int .i64 0) := oT3.cell (j := 3) rfl
           have t4 : _ = some (Value.slice p1 1 c1) := oT3.cell (j := 4) rfl
           clear hg3 oT2 hT2)
        | (go_at_call 12; refine (close1w _ _ hT7).mono ?_; rintro e w8 ⟨p8, c8, q8, d8, rfl, hC8, hD8, hx8⟩
           have hxa8 := Ext.alloc w8 (.cells #[.int .i64 10, .int .i64 5, .int .i64 25, .int .i64 0, .slice p8 0 c8] 31)
           have oC : ObjAt (w8.alloc (.cells #[.int .i64 10, .int .i64 5, .int .i64 25, .int .i64 0, .slice p8 0 c8] 31)) w8.heap.size 31 (wtC aw4 (.slice p8 0 c8)) := heap_alloc_new w8 _
           have HXC := Lib.hid (hx8.trans hxa8)
           have hD9 := hD8.ext hxa8
           have hC9 := hC8.ext hxa8
           obtain ⟨b8, o8, e8, ⟨n0, n1, n2, n3, n4, n5⟩⟩ := sm_at hD9 (j := 0) (by decide)
           subst e8
           simp only [Nat.zero_mul, Nat.add_zero] at n0
           clear hx8 hxa8 hD8 hC8 t0 t1 t2 t3 t4)
        | (go_at_call 27; refine (total1w _ _ hD9).mono ?_; rintro e w9 ⟨rfl, hx9⟩
           have oT9 := oT7.ext (HXC.out.trans hx9)
           have t0 : _ = some (Value.int .i64 10) := oT9.cell (j := 0) rfl
           have t1 : _ = some (Value.int .i64 5) := oT9.cell (j := 1) rfl
           have t2 : _ = some (Value.int .i64 25) := oT9.cell (j := 2) rfl
           have t3 : _ = some (Value.int .i64 0) := oT9.cell (j := 3) rfl
           have t4 : _ = some (Value.slice p3 1 c3) := oT9.cell (j := 4) rfl
           have HX9 := Lib.hid hx9)
        | (go_at_call 22; refine (put1w _ _ (hT7.ext (HXC.out.trans HX9.out))).mono ?_; rintro e wa ⟨bv, rfl, hB, hxA⟩
           obtain ⟨pb, cb, rfl, _⟩ := id hB)
        | (go_at_call 24; refine (get1w _ _ hB).mono ?_; rintro e wb ⟨pu, cu, rfl, hU, hxB⟩
           have hxu := Ext.alloc wb (.cells #[.int .i64 10, .int .i64 5, .int .i64 25, .int .i64 0, .slice pu 1 cu] 31)
           have oU : ObjAt (wb.alloc (.cells #[.int .i64 10, .int .i64 5, .int .i64 25, .int .i64 0, .slice pu 1 cu] 31)) wb.heap.size 31 (wtC aw3 (.slice pu 1 cu)) := heap_alloc_new wb _
           have HXD := Lib.hid ((HX9.out.trans hxA).trans (hxB.trans hxu))
           have HXE := Lib.hid (HXC.out.trans HXD.out)
           have oTb := oT7.ext HXE.out
           have oCb := oC.ext HXD.out
           have hUb := hU.ext hxu
           have hTb := hT7.ext HXE.out
           have hCb := hC9.ext HXD.out
           have t0 : _ = some (Value.int .i64 10) := oTb.cell (j := 0) rfl
           have t1 : _ = some (Value.int .i64 5) := oTb.cell (j := 1) rfl
           have t2 : _ = some (Value.int .i64 25) := oTb.cell (j := 2) rfl
           have t3 : _ = some (Value.int .i64 0) := oTb.cell (j := 3) rfl
           have t4 : _ = some (Value.slice p3 1 c3) := oTb.cell (j := 4) rfl
           have u0 : _ = some (Value.int .i64 10) := oU.cell (j := 0) rfl
           have u1 : _ = some (Value.int .i64 5) := oU.cell (j := 1) rfl
           have u2 : _ = some (Value.int .i64 25) := oU.cell (j := 2) rfl
           have u3 : _ = some (Value.int .i64 0) := oU.cell (j := 3) rfl
           have u4 : _ = some (Value.slice pu 1 cu) := oU.cell (j := 4) rfl
           have v4 : _ = some (Value.slice p8 0 c8) := oCb.cell (j := 4) rfl
           have x0 : _ = some (Value.int .i64 0) := HXE.out.cell m0
           have x1 : _ = some (Value.string ⟨#[97]⟩) := HXE.out.cell m1
           have x2 : _ = some (Value.int .i64 2) := HXE.out.cell m2
           have x3 : _ = some (Value.int .i64 8) := HXE.out.cell m3
           have x4 : _ = some (Value.int .i64 1) := HXE.out.cell m4
           have x5 : _ = some (Value.int .i64 7) := HXE.out.cell m5
           have y0 : _ = some (Value.int .i64 20) := HXD.out.cell n0)
        | ((with_reducible show wpList _ _ _ (Oper.mk _ (Op.binOp BinOp.eql 64 _ _ _) _ _ _ _ :: _) _ _); refine wpList_run rfl (run_eqlSm rfl (c := sA2) (d := sA2) rfl rfl _) ?_; rw [eqS_refl])
        | (go_at_call 26; have hq := hxS; refine (same2w _ _ _ (hTb.ext hxS) (hCb.ext hxS)).mono ?_; rintro e wt ⟨rfl, hxT⟩
           have oTt := oTb.ext (hxS.trans hxT)
           have z0 : _ = some (Value.int .i64 10) := oTt.cell (j := 0) rfl
           have z1 : _ = some (Value.int .i64 5) := oTt.cell (j := 1) rfl
           have z2 : _ = some (Value.int .i64 25) := oTt.cell (j := 2) rfl
           have z3 : _ = some (Value.int .i64 0) := oTt.cell (j := 3) rfl
           have z4 : _ = some (Value.slice p3 1 c3) := oTt.cell (j := 4) rfl)
        | (go_at_call 26; refine (same1w _ _ _ hTb hUb).mono ?_; rintro e ws ⟨rfl, hxS⟩
           have oTs := oTb.ext hxS
           have oCs := oCb.ext hxS
           have f0 : _ = some (Value.int .i64 10) := oTs.cell (j := 0) rfl
           have f1 : _ = some (Value.int .i64 5) := oTs.cell (j := 1) rfl
           have f2 : _ = some (Value.int .i64 25) := oTs.cell (j := 2) rfl
           have f3 : _ = some (Value.int .i64 0) := oTs.cell (j := 3) rfl
           have f4 : _ = some (Value.slice p3 1 c3) := oTs.cell (j := 4) rfl
           have g0 : _ = some (Value.int .i64 10) := oCs.cell (j := 0) rfl
           have g1 : _ = some (Value.int .i64 5) := oCs.cell (j := 1) rfl
           have g2 : _ = some (Value.int .i64 25) := oCs.cell (j := 2) rfl
           have g3 : _ = some (Value.int .i64 0) := oCs.cell (j := 3) rfl
           have g4 : _ = some (Value.slice p8 0 c8) := oCs.cell (j := 4) rfl)
        | (go_at_call 20; refine (check1w _ _ (hTb.ext (hxS.trans hxT))).mono ?_; rintro e wz ⟨rfl, hxZ⟩))
    | go_values | go_skip | go_guarded | go_step | go_upon | go_back | (simp only [Int.not_lt, Int.not_le] at *; go_simp) | (go_values <;> (try go_simp)) | (go_ite <;> go_prune <;> (try go_simp)) | (split <;> (first | (rename_i hx; exact (hx _ rfl).elim) | go_prune)))
  go_ret
  exact ⟨rfl, (HX7.out.trans HXE.out).trans ((hxS.trans hxT).trans hxZ)⟩
end Go.Proofs.Ytpejdompanhieaa
