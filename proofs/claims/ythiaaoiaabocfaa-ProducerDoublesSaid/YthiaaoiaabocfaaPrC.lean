/- What the copies of layer 13's statements compute: own, as. -/
import Derived.Test.YthiaaoiaabocfaaPrR
import Derived.Test.YthiaaoiaabocfaaDagF
namespace Go.Proofs.Ythiaaoiaabocfaa
open Go.RowKit

theorem T.tableSize : (Try.prog.info? 33).map (·.size) = some 1 := by kernel_rfl
theorem T.rtableSize : (Try.prog.info? 24).map (·.size) = some 1 := by kernel_rfl
theorem tab_results {fn : Func} {p : Tmp} (h : fn.results = #[.cell p 33]) (tmps : Array Value) (w : World) (g : Nat) (t : TypeId) (v : Value) (hp : tmps.getD p undef = .pointer (some ⟨g, 0, none⟩)) (hg : ObjAt w g t [v]) :
    (results fn tmps).run Try.prog w = .ok (.agg #[v]) w := results_cell_row h tmps w g t #[v] (0, 0) _ hp hg Try.underlying33 rfl T.tableSize
theorem rtab_results {fn : Func} {p : Tmp} (h : fn.results = #[.cell p 24]) (tmps : Array Value) (w : World) (g : Nat) (t : TypeId) (v : Value) (hp : tmps.getD p undef = .pointer (some ⟨g, 0, none⟩)) (hg : ObjAt w g t [v]) :
    (results fn tmps).run Try.prog w = .ok (.agg #[v]) w := results_cell_row h tmps w g t #[v] (0, 0) _ hp hg Try.underlying24 rfl T.rtableSize

/-- A row of producers of the call's own; what they read lies anywhere but in the block g. -/
abbrev EntO (g : Nat) (e : TypeId) (w : World) (B : Nat) (v : Value) (t : List Ent) : Prop := ORow e 3 REnt (fun k => k ≠ g) w B v t
theorem ORow.chg {α : Type} {e sz : Nat} {R : World → List Value → α → Prop} {S : Nat → Prop} {w w' : World} {B g : Nat} {v : Value} {xs : List α} (h : ORow e sz R S w B v xs) (hg : w.grownBy w' (some g)) (hS : ∀ k, S k → k ≠ g) (hn : v.ownBlock ≠ some g) : ORow e sz R S w' B v xs := by
  obtain ⟨css, h1, h2, h3⟩ := h
  exact ⟨css, h1, h2.kept hg (.inr hn), h3.later ((keeps_grown hg).mono fun k _ hk e => hS k hk.1 (Option.some.inj e)) fun _ _ h => h⟩
theorem EntO.view {g : Nat} {e : TypeId} {w : World} {B : Nat} {v : Value} {t : List Ent} (h : EntO g e w B v t) : TabV w v t := by
  have := (ORow.view h).mono (T := fun _ => True) fun k hk => ?_
  · exact this
  · exact fun _ => trivial
theorem SnO.under {e : TypeId} {w : World} {B : Nat} {v : Value} {xs : List Sn} (h : SnO e w B v xs) : Under (fun k => v.ownBlock = some k) (fun w' => SnV w' v xs) w := fun w' k => by
  obtain ⟨css, p, c, h1, rfl, h3, h4, h5, h6⟩ := h.view
  exact ⟨css, p, c, h1, rfl, h3, h4, h5.keeps (fun a e => by rw [e]; rfl) k, h6.1, fun j cs x hc hx w'' _ => (h6.2 j cs x hc hx).now⟩
theorem take_snoc {α : Type} (l : List α) (j : Nat) (h : j < l.length) : l.take (j + 1) = l.take j ++ [l[j]] := List.take_succ_eq_append_getElem h

set_option maxHeartbeats 4000000 in
theorem own_any (v : Value) (t : List Ent) (w : World) (h : TabV w v t) (hl : t.length ≤ 1000) (hf : FewT 1000 t) :
    Calls Try.prog 10 #[.agg #[v]] w fun e w' => ∃ v', e = .returned (.agg #[v']) ∧ TabV w' v' t ∧ Ext w w' := by
  obtain ⟨p, c, rfl, _, hcm⟩ := h.slice
  unfold maxLen at hcm
  obtain ⟨oi0, oo0, hx0, hsz⟩ := objs2 w 24 33 [.slice p t.length c] [.slice none 0 0]
  have HSZ := Lib.hid hsz
  clear hsz
  go_enter Try.func10, Try.ntmps10
  go_wp2_with fail
  go_loopg [3, 4] (t.length) (fun k s3 s4 wr => ∃ (j : Nat) (x : Value), s3 = x ∧ s4 = .int .i64 j ∧ j ≤ t.length ∧ k = t.length - j ∧ EntO (w.heap.size + 1) 43 wr (w.heap.size + 2) x (t.take j) ∧ ObjAt wr w.heap.size 24 [.slice p t.length c] ∧ ObjAt wr (w.heap.size + 1) 33 [.slice none 0 0] ∧ Hid (w.heap.size + 2 ≤ wr.heap.size) ∧ Ext w wr)
  case atStart => exact ⟨0, _, rfl, rfl, Nat.zero_le _, rfl, ORow.nil _ _ _, oi0, oo0, Lib.hid (by rw [HSZ.out]; exact Nat.le_refl _), hx0⟩
  case round =>
    obtain ⟨j, x, e3, rfl, hj, hk, ho, oi, oo, HB, hx⟩ := hrel
    replace e3 := e3.symm
    subst e3
    obtain ⟨wo, hwo⟩ : ∃ wo, wo = wr := ⟨_, rfl⟩
    subst hwo
    have ci := oi.cell (j := 0) rfl
    by_cases hlt : j < t.length
    case pos =>
      have hi : (j : Int) < (t.length : Int) := by omega
      obtain ⟨b, o, q, d, rfl, ⟨m0, m1, m2⟩, hsn, _, hdm⟩ := ent_at (h.ext hx) hlt
      have hsnoc := take_snoc t j hlt
      have hfl := hf t[j] (List.getElem_mem hlt)
      generalize t[j] = en at *
      obtain ⟨e0, e1, l⟩ := en
      simp only at *
      generalize t.take j = pre at *
      have HSN := Lib.hid hsnoc
      have hpl : pre.length ≤ 1000 := by have := congrArg List.length hsnoc; rw [List.length_take, List.length_append, List.length_singleton] at this; omega
      have HPL := Lib.hid hpl
      have HFL := Lib.hid hfl
      clear hsnoc hfl hpl
      unfold maxLen at hdm
      go_wp2_with fail
      go_loopg [5, 6] (l.length) (fun k s5 s6 wi => ∃ (i : Nat) (y : Value), s5 = y ∧ s6 = .int .i64 i ∧ i ≤ l.length ∧ k = l.length - i ∧ SnO 73 wi wo.heap.size y (l.take i) ∧ Ext wo wi)
      case atStart => exact ⟨0, _, rfl, rfl, Nat.zero_le _, rfl, ORow.nil _ _ _, Ext.refl _⟩
      case round =>
        obtain ⟨i, y, e5, rfl, hi2, hk2, hoi, hxi⟩ := hrel
        replace e5 := e5.symm
        subst e5
        obtain ⟨wi, hwi⟩ : ∃ wi, wi = wr := ⟨_, rfl⟩
        subst hwi
        have ci2 := hxi.cell ci
        have n0 := hxi.cell m0
        have n1 := hxi.cell m1
        have n2 := hxi.cell m2
        by_cases hlt2 : i < l.length
        case pos =>
          have hii : (i : Int) < (l.length : Int) := by omega
          obtain ⟨b7, o7, rfl, ⟨r0, r1, r2⟩⟩ := sn_at (hsn.ext hxi) hlt2
          have hsnoc := take_snoc l i hlt2
          generalize l[i] = s at *
          obtain ⟨a0, a1, a2⟩ := s
          simp only at *
          generalize l.take i = lp at *
          have HSN2 := Lib.hid hsnoc
          have hpl : lp.length ≤ 1000 := by have := HFL.out; have := congrArg List.length hsnoc; rw [List.length_take, List.length_append, List.length_singleton] at this; omega
          have HPL2 := Lib.hid hpl
          have hxr := Ext.alloc wi (.cells #[.int .i64 a0, .int .i64 a1, .int .i64 a2] 73)
          have ho1 := hoi.keep hxr
          have hl1 : SRow 3 RSn (fun k => False ∧ some k ≠ y.ownBlock) (wi.alloc (.cells #[.int .i64 a0, .int .i64 a1, .int .i64 a2] 73)) (.slice (some ⟨wi.heap.size, 0, none⟩) 1 1) [(⟨a0, a1, a2⟩ : Sn)] := sn_lit1 _ _ _ ⟨a0, a1, a2⟩
          have HWS := Lib.hid (hxi.trans hxr).size
          clear hsnoc hpl
          go_wp2_with (at_builtin; refine st_items T.seens ho1 hl1 ?_ (by have := HPL2.out; simp [maxLen]; omega) (by have := HPL2.out; simp; omega) HWS.out; intro v2 w2 ho2 hg2 hw2; have hx2 := ho1.grown (hxi.trans hxr) hg2)
          go_roundg (l.length - (i + 1))
          case measure => omega
          case rel => exact ⟨i + 1, _, rfl, by go_num, hlt2, rfl, by rw [HSN2.out]; exact ho2, hx2⟩
        case neg =>
          have hie : i = l.length := by omega
          subst hie
          have hii : ¬ (l.length : Int) < (l.length : Int) := by omega
          rw [List.take_length] at hoi
          obtain ⟨q2, d2, e5, _, _⟩ := hoi.view.slice
          subst e5
          have HUN := Lib.hid (p := ∀ k, (Value.slice q2 l.length d2).ownBlock = some k → k ≠ w.heap.size + 1 ∧ some k ≠ x.ownBlock) (fun k hk => by
            have h1 := (hoi.own k hk).1
            have h2 := HB.out
            refine ⟨by omega, fun e => ?_⟩
            have := (ho.own k e.symm).2
            omega)
          clear hlt2
          go_wp2_with fail
          apply wp_region_dag_tail 16 (X := Ext) (by kernel_rfl) (by kernel_rfl) (by kernel_rfl) (by decide) (fun _ _ _ => Ext.trans) (Ext.drew1 _)
          simp only [List.take_succ_cons, List.take_zero, List.drop_succ_cons, List.drop_zero]
          apply dag_val Ext.refl rfl (by intro W hW H; go_simp <;> rfl)
          simp only [Act.put, List.setIfInBounds_toArray, List.set_cons_zero, List.set_cons_succ]
          apply dag_val Ext.refl rfl (by intro W hW H; go_simp <;> rfl)
          simp only [Act.put, List.setIfInBounds_toArray, List.set_cons_zero, List.set_cons_succ]
          apply dag_val Ext.refl rfl (by intro W hW H; have q0 := hW.cell ci2; go_simp <;> rfl)
          simp only [Act.put, List.setIfInBounds_toArray, List.set_cons_zero, List.set_cons_succ]
          apply dag_val Ext.refl rfl (by intro W hW H; go_simp <;> rfl)
          simp only [Act.put, List.setIfInBounds_toArray, List.set_cons_zero, List.set_cons_succ]
          apply dag_val Ext.refl rfl (by intro W hW H; go_simp <;> rfl)
          simp only [Act.put, List.setIfInBounds_toArray, List.set_cons_zero, List.set_cons_succ]
          apply dag_val Ext.refl rfl (by intro W hW H; go_simp <;> rfl)
          simp only [Act.put, List.setIfInBounds_toArray, List.set_cons_zero, List.set_cons_succ]
          apply dag_val Ext.refl rfl (by intro W hW H; have q0 := hW.cell n0; go_simp <;> rfl)
          simp only [Act.put, List.setIfInBounds_toArray, List.set_cons_zero, List.set_cons_succ]
          apply dag_val Ext.refl rfl (by intro W hW H; go_simp <;> rfl)
          simp only [Act.put, List.setIfInBounds_toArray, List.set_cons_zero, List.set_cons_succ]
          apply dag_val Ext.refl rfl (by intro W hW H; have q0 := hW.cell ci2; go_simp <;> rfl)
          simp only [Act.put, List.setIfInBounds_toArray, List.set_cons_zero, List.set_cons_succ]
          apply dag_val Ext.refl rfl (by intro W hW H; go_simp <;> rfl)
          simp only [Act.put, List.setIfInBounds_toArray, List.set_cons_zero, List.set_cons_succ]
          apply dag_val Ext.refl rfl (by intro W hW H; go_simp <;> rfl)
          simp only [Act.put, List.setIfInBounds_toArray, List.set_cons_zero, List.set_cons_succ]
          apply dag_val Ext.refl rfl (by intro W hW H; go_simp <;> rfl)
          simp only [Act.put, List.setIfInBounds_toArray, List.set_cons_zero, List.set_cons_succ]
          apply dag_val Ext.refl rfl (by intro W hW H; have q0 := hW.cell n1; go_simp <;> rfl)
          simp only [Act.put, List.setIfInBounds_toArray, List.set_cons_zero, List.set_cons_succ]
          apply dag_val Ext.refl rfl (by intro W hW H; go_simp <;> rfl)
          simp only [Act.put, List.setIfInBounds_toArray, List.set_cons_zero, List.set_cons_succ]
          apply dag_val Ext.refl rfl (by intro W hW H; go_simp <;> rfl)
          simp only [Act.put, List.setIfInBounds_toArray, List.set_cons_zero, List.set_cons_succ]
          refine' dag_rel (fun v W => SRow 3 REnt (fun k => (k ≠ w.heap.size + 1) ∧ some k ≠ x.ownBlock) W v [(⟨e0, e1, l⟩ : Ent)]) (fun _ _ _ hx h => h.ext hx) (fun W hW H => gives_run (v := .slice (some ⟨W.heap.size, 0, none⟩) 1 1) (W' := W.alloc (.cells #[.int .i64 e0, .int .i64 e1, .slice q2 l.length d2] 43)) rfl (by go_simp <;> rfl) ⟨Ext.alloc _ _, (by exact ent_lit1 _ ⟨e0, e1, l⟩ ((SnO.under (hoi.keep hW)).mono fun k _ hk => HUN.out k hk))⟩) (fun u => _)
          rotate_left
          simp only [Act.put, List.setIfInBounds_toArray, List.set_cons_zero, List.set_cons_succ]
          refine dag_end fun W hW H => ?_
          have hl1 : SRow 3 REnt (fun k => (k ≠ w.heap.size + 1) ∧ some k ≠ x.ownBlock) W u [(⟨e0, e1, l⟩ : Ent)] := H 15
          clear H
          have hxW := hxi.trans hW
          have hoW := ho.keep hxW
          have HWS := Lib.hid (Nat.le_trans HB.out hxW.size)
          have hxA := hx.trans hxW
          have oiA := oi.ext hxW
          have ooA := oo.ext hxW
          have hne : ∀ k, k < w.heap.size + 2 → some k ≠ x.ownBlock := fun k hk e => by
            have := (ho.own k e.symm).1
            omega
          have HNE := Lib.hid hne
          clear hne
          go_wp2_with (at_builtin; refine st_items T.ents hoW hl1 ?_ (by have := HPL.out; simp [maxLen]; omega) (by have := HPL.out; simp; omega) HWS.out; intro v2 w2 ho2 hg2 hw2; have hx2 : Ext w w2 := (ho.base (by omega)).keep hxW |>.grown hxA hg2)
          go_roundg (t.length - (j + 1))
          case measure => omega
          case rel =>
            refine ⟨j + 1, _, rfl, by go_num, hlt, rfl, by rw [HSN.out]; exact ho2, oiA.kept hg2 (HNE.out _ (by omega)), ooA.kept hg2 (HNE.out _ (by omega)), Lib.hid (Nat.le_trans HWS.out hg2.size), hx2⟩
    case neg =>
      have hje : j = t.length := by omega
      subst hje
      have hi : ¬ (t.length : Int) < (t.length : Int) := by omega
      rw [List.take_length] at ho
      have hfo := oo.free 0
      have hco := oo.cell (j := 0) rfl
      have ho6 := oo.store 0 x
      obtain ⟨q2, d2, e5, _, _⟩ := ho.view.slice
      subst e5
      clear hlt
      go_wp2_with fail
      refine bodyPost_ret (tab_results rfl _ _ (w.heap.size + 1) _ _ rfl ho6) rfl ?_
      refine ⟨_, rfl, EntO.view (ho.chg (grown_set _ ⟨w.heap.size + 1, 0, none⟩ _) (fun _ h => h) ?_), hx.store (p := ⟨w.heap.size + 1, 0, none⟩) (by show _ ≤ w.heap.size + 1; omega) _⟩
      intro e
      have : w.heap.size + 2 ≤ w.heap.size + 1 := (ho.own _ e).1
      omega
set_option maxHeartbeats 4000000 in
theorem as_any (v : Value) (t : List Ent) (w : World) (h : TabV w v t) (hl : t.length ≤ 1000) (hf : FewT 1000 t) :
    Calls Try.prog 17 #[.agg #[v]] w fun e w' => ∃ v', e = .returned (.agg #[v']) ∧ TabV w' v' t ∧ Ext w w' := by
  obtain ⟨p, c, rfl, _, hcm⟩ := h.slice
  unfold maxLen at hcm
  obtain ⟨oi0, oo0, hx0, hsz⟩ := objs2 w 33 24 [.slice p t.length c] [.slice none 0 0]
  have HSZ := Lib.hid hsz
  clear hsz
  go_enter Try.func17, Try.ntmps17
  go_wp2_with fail
  go_loopg [3, 4] (t.length) (fun k s3 s4 wr => ∃ (j : Nat) (x : Value), s3 = x ∧ s4 = .int .i64 j ∧ j ≤ t.length ∧ k = t.length - j ∧ EntO (w.heap.size + 1) 48 wr (w.heap.size + 2) x (t.take j) ∧ ObjAt wr w.heap.size 33 [.slice p t.length c] ∧ ObjAt wr (w.heap.size + 1) 24 [.slice none 0 0] ∧ Hid (w.heap.size + 2 ≤ wr.heap.size) ∧ Ext w wr)
  case atStart => exact ⟨0, _, rfl, rfl, Nat.zero_le _, rfl, ORow.nil _ _ _, oi0, oo0, Lib.hid (by rw [HSZ.out]; exact Nat.le_refl _), hx0⟩
  case round =>
    obtain ⟨j, x, e3, rfl, hj, hk, ho, oi, oo, HB, hx⟩ := hrel
    replace e3 := e3.symm
    subst e3
    obtain ⟨wo, hwo⟩ : ∃ wo, wo = wr := ⟨_, rfl⟩
    subst hwo
    have ci := oi.cell (j := 0) rfl
    by_cases hlt : j < t.length
    case pos =>
      have hi : (j : Int) < (t.length : Int) := by omega
      obtain ⟨b, o, q, d, rfl, ⟨m0, m1, m2⟩, hsn, _, hdm⟩ := ent_at (h.ext hx) hlt
      have hsnoc := take_snoc t j hlt
      have hfl := hf t[j] (List.getElem_mem hlt)
      generalize t[j] = en at *
      obtain ⟨e0, e1, l⟩ := en
      simp only at *
      generalize t.take j = pre at *
      have HSN := Lib.hid hsnoc
      have hpl : pre.length ≤ 1000 := by have := congrArg List.length hsnoc; rw [List.length_take, List.length_append, List.length_singleton] at this; omega
      have HPL := Lib.hid hpl
      have HFL := Lib.hid hfl
      clear hsnoc hfl hpl
      unfold maxLen at hdm
      go_wp2_with fail
      go_loopg [5, 6] (l.length) (fun k s5 s6 wi => ∃ (i : Nat) (y : Value), s5 = y ∧ s6 = .int .i64 i ∧ i ≤ l.length ∧ k = l.length - i ∧ SnO 68 wi wo.heap.size y (l.take i) ∧ Ext wo wi)
      case atStart => exact ⟨0, _, rfl, rfl, Nat.zero_le _, rfl, ORow.nil _ _ _, Ext.refl _⟩
      case round =>
        obtain ⟨i, y, e5, rfl, hi2, hk2, hoi, hxi⟩ := hrel
        replace e5 := e5.symm
        subst e5
        obtain ⟨wi, hwi⟩ : ∃ wi, wi = wr := ⟨_, rfl⟩
        subst hwi
        have ci2 := hxi.cell ci
        have n0 := hxi.cell m0
        have n1 := hxi.cell m1
        have n2 := hxi.cell m2
        by_cases hlt2 : i < l.length
        case pos =>
          have hii : (i : Int) < (l.length : Int) := by omega
          obtain ⟨b7, o7, rfl, ⟨r0, r1, r2⟩⟩ := sn_at (hsn.ext hxi) hlt2
          have hsnoc := take_snoc l i hlt2
          generalize l[i] = s at *
          obtain ⟨a0, a1, a2⟩ := s
          simp only at *
          generalize l.take i = lp at *
          have HSN2 := Lib.hid hsnoc
          have hpl : lp.length ≤ 1000 := by have := HFL.out; have := congrArg List.length hsnoc; rw [List.length_take, List.length_append, List.length_singleton] at this; omega
          have HPL2 := Lib.hid hpl
          have hxr := Ext.alloc wi (.cells #[.int .i64 a0, .int .i64 a1, .int .i64 a2] 68)
          have ho1 := hoi.keep hxr
          have hl1 : SRow 3 RSn (fun k => False ∧ some k ≠ y.ownBlock) (wi.alloc (.cells #[.int .i64 a0, .int .i64 a1, .int .i64 a2] 68)) (.slice (some ⟨wi.heap.size, 0, none⟩) 1 1) [(⟨a0, a1, a2⟩ : Sn)] := sn_lit1 _ _ _ ⟨a0, a1, a2⟩
          have HWS := Lib.hid (hxi.trans hxr).size
          clear hsnoc hpl
          go_wp2_with (at_builtin; refine st_items T.rseens ho1 hl1 ?_ (by have := HPL2.out; simp [maxLen]; omega) (by have := HPL2.out; simp; omega) HWS.out; intro v2 w2 ho2 hg2 hw2; have hx2 := ho1.grown (hxi.trans hxr) hg2)
          go_roundg (l.length - (i + 1))
          case measure => omega
          case rel => exact ⟨i + 1, _, rfl, by go_num, hlt2, rfl, by rw [HSN2.out]; exact ho2, hx2⟩
        case neg =>
          have hie : i = l.length := by omega
          subst hie
          have hii : ¬ (l.length : Int) < (l.length : Int) := by omega
          rw [List.take_length] at hoi
          obtain ⟨q2, d2, e5, _, _⟩ := hoi.view.slice
          subst e5
          have HUN := Lib.hid (p := ∀ k, (Value.slice q2 l.length d2).ownBlock = some k → k ≠ w.heap.size + 1 ∧ some k ≠ x.ownBlock) (fun k hk => by
            have h1 := (hoi.own k hk).1
            have h2 := HB.out
            refine ⟨by omega, fun e => ?_⟩
            have := (ho.own k e.symm).2
            omega)
          clear hlt2
          go_wp2_with fail
          apply wp_region_dag_tail 16 (X := Ext) (by kernel_rfl) (by kernel_rfl) (by kernel_rfl) (by decide) (fun _ _ _ => Ext.trans) (Ext.drew1 _)
          simp only [List.take_succ_cons, List.take_zero, List.drop_succ_cons, List.drop_zero]
          apply dag_val Ext.refl rfl (by intro W hW H; go_simp <;> rfl)
          simp only [Act.put, List.setIfInBounds_toArray, List.set_cons_zero, List.set_cons_succ]
          apply dag_val Ext.refl rfl (by intro W hW H; go_simp <;> rfl)
          simp only [Act.put, List.setIfInBounds_toArray, List.set_cons_zero, List.set_cons_succ]
          apply dag_val Ext.refl rfl (by intro W hW H; have q0 := hW.cell ci2; go_simp <;> rfl)
          simp only [Act.put, List.setIfInBounds_toArray, List.set_cons_zero, List.set_cons_succ]
          apply dag_val Ext.refl rfl (by intro W hW H; go_simp <;> rfl)
          simp only [Act.put, List.setIfInBounds_toArray, List.set_cons_zero, List.set_cons_succ]
          apply dag_val Ext.refl rfl (by intro W hW H; go_simp <;> rfl)
          simp only [Act.put, List.setIfInBounds_toArray, List.set_cons_zero, List.set_cons_succ]
          apply dag_val Ext.refl rfl (by intro W hW H; go_simp <;> rfl)
          simp only [Act.put, List.setIfInBounds_toArray, List.set_cons_zero, List.set_cons_succ]
          apply dag_val Ext.refl rfl (by intro W hW H; have q0 := hW.cell n0; go_simp <;> rfl)
          simp only [Act.put, List.setIfInBounds_toArray, List.set_cons_zero, List.set_cons_succ]
          apply dag_val Ext.refl rfl (by intro W hW H; go_simp <;> rfl)
          simp only [Act.put, List.setIfInBounds_toArray, List.set_cons_zero, List.set_cons_succ]
          apply dag_val Ext.refl rfl (by intro W hW H; have q0 := hW.cell ci2; go_simp <;> rfl)
          simp only [Act.put, List.setIfInBounds_toArray, List.set_cons_zero, List.set_cons_succ]
          apply dag_val Ext.refl rfl (by intro W hW H; go_simp <;> rfl)
          simp only [Act.put, List.setIfInBounds_toArray, List.set_cons_zero, List.set_cons_succ]
          apply dag_val Ext.refl rfl (by intro W hW H; go_simp <;> rfl)
          simp only [Act.put, List.setIfInBounds_toArray, List.set_cons_zero, List.set_cons_succ]
          apply dag_val Ext.refl rfl (by intro W hW H; go_simp <;> rfl)
          simp only [Act.put, List.setIfInBounds_toArray, List.set_cons_zero, List.set_cons_succ]
          apply dag_val Ext.refl rfl (by intro W hW H; have q0 := hW.cell n1; go_simp <;> rfl)
          simp only [Act.put, List.setIfInBounds_toArray, List.set_cons_zero, List.set_cons_succ]
          apply dag_val Ext.refl rfl (by intro W hW H; go_simp <;> rfl)
          simp only [Act.put, List.setIfInBounds_toArray, List.set_cons_zero, List.set_cons_succ]
          apply dag_val Ext.refl rfl (by intro W hW H; go_simp <;> rfl)
          simp only [Act.put, List.setIfInBounds_toArray, List.set_cons_zero, List.set_cons_succ]
          refine' dag_rel (fun v W => SRow 3 REnt (fun k => (k ≠ w.heap.size + 1) ∧ some k ≠ x.ownBlock) W v [(⟨e0, e1, l⟩ : Ent)]) (fun _ _ _ hx h => h.ext hx) (fun W hW H => gives_run (v := .slice (some ⟨W.heap.size, 0, none⟩) 1 1) (W' := W.alloc (.cells #[.int .i64 e0, .int .i64 e1, .slice q2 l.length d2] 48)) rfl (by go_simp <;> rfl) ⟨Ext.alloc _ _, (by exact ent_lit1 _ ⟨e0, e1, l⟩ ((SnO.under (hoi.keep hW)).mono fun k _ hk => HUN.out k hk))⟩) (fun u => _)
          rotate_left
          simp only [Act.put, List.setIfInBounds_toArray, List.set_cons_zero, List.set_cons_succ]
          refine dag_end fun W hW H => ?_
          have hl1 : SRow 3 REnt (fun k => (k ≠ w.heap.size + 1) ∧ some k ≠ x.ownBlock) W u [(⟨e0, e1, l⟩ : Ent)] := H 15
          clear H
          have hxW := hxi.trans hW
          have hoW := ho.keep hxW
          have HWS := Lib.hid (Nat.le_trans HB.out hxW.size)
          have hxA := hx.trans hxW
          have oiA := oi.ext hxW
          have ooA := oo.ext hxW
          have hne : ∀ k, k < w.heap.size + 2 → some k ≠ x.ownBlock := fun k hk e => by
            have := (ho.own k e.symm).1
            omega
          have HNE := Lib.hid hne
          clear hne
          go_wp2_with (at_builtin; refine st_items T.rents hoW hl1 ?_ (by have := HPL.out; simp [maxLen]; omega) (by have := HPL.out; simp; omega) HWS.out; intro v2 w2 ho2 hg2 hw2; have hx2 : Ext w w2 := (ho.base (by omega)).keep hxW |>.grown hxA hg2)
          go_roundg (t.length - (j + 1))
          case measure => omega
          case rel =>
            refine ⟨j + 1, _, rfl, by go_num, hlt, rfl, by rw [HSN.out]; exact ho2, oiA.kept hg2 (HNE.out _ (by omega)), ooA.kept hg2 (HNE.out _ (by omega)), Lib.hid (Nat.le_trans HWS.out hg2.size), hx2⟩
    case neg =>
      have hje : j = t.length := by omega
      subst hje
      have hi : ¬ (t.length : Int) < (t.length : Int) := by omega
      rw [List.take_length] at ho
      have hfo := oo.free 0
      have hco := oo.cell (j := 0) rfl
      have ho6 := oo.store 0 x
      obtain ⟨q2, d2, e5, _, _⟩ := ho.view.slice
      subst e5
      clear hlt
      go_wp2_with fail
      refine bodyPost_ret (rtab_results rfl _ _ (w.heap.size + 1) _ _ rfl ho6) rfl ?_
      refine ⟨_, rfl, EntO.view (ho.chg (grown_set _ ⟨w.heap.size + 1, 0, none⟩ _) (fun _ h => h) ?_), hx.store (p := ⟨w.heap.size + 1, 0, none⟩) (by show _ ≤ w.heap.size + 1; omega) _⟩
      intro e
      have : w.heap.size + 2 ≤ w.heap.size + 1 := (ho.own _ e).1
      omega
end Go.Proofs.Ythiaaoiaabocfaa
