/- What the document's Cut and Build of layer 13 compute. -/
import Derived.Test.YthiaaoiaabocfaaPrZ
import Derived.Test.YthiaaoiaabocfaaPrK
namespace Go.Proofs.Ythiaaoiaabocfaa
open Go.RowKit

theorem filter_snoc (next : Int) (l : List Sn) (k : Nat) (hk : k < l.length) : (l.take (k + 1)).filter (keepS next) = (l.take k).filter (keepS next) ++ if keepS next l[k] = true then [l[k]] else [] := by
  rw [List.take_succ_eq_append_getElem hk, List.filter_append, List.filter_cons]
  rfl
set_option maxRecDepth 20000 in
set_option maxHeartbeats 8000000 in
theorem rcut_any (v : Value) (t : List Ent) (next : Int) (w : World) (h : TabV w v t) (hl : t.length ≤ 1000) (hf : FewT 1000 t) :
    Calls Try.prog 22 #[.agg #[v], .int .i64 next] w fun e w' => ∃ v', e = .returned (.agg #[v']) ∧ TabV w' v' (cutT t next) ∧ Ext w w' := by
  obtain ⟨p, c, rfl, _, hcm⟩ := h.slice
  unfold maxLen at hcm
  obtain ⟨o1, o2, hx0, hsz⟩ := objs2 w 24 24 [.slice p t.length c] [.slice none 0 0]
  have HSZ := Lib.hid hsz
  have HF := Lib.hid hf
  have HL := Lib.hid hl
  clear hsz hf hl
  go_enter Try.func22, Try.ntmps22
  go_wp2_with fail
  go_loopg [5, 6] (t.length) (fun k s5 s11 wr => ∃ (j : Nat) (x : Value), s5 = x ∧ s11 = .int .i64 j ∧ j ≤ t.length ∧ k = t.length - j ∧ Hid (ORow 48 3 REnt (fun k => k ≠ w.heap.size + 1) wr (w.heap.size + 2) x (cutT (t.take j) next)) ∧ ObjAt wr w.heap.size 24 [.slice p t.length c] ∧ ObjAt wr (w.heap.size + 1) 24 [.slice none 0 0] ∧ Hid (w.heap.size + 2 ≤ wr.heap.size) ∧ Ext w wr)
  case atStart => exact ⟨0, _, rfl, rfl, Nat.zero_le _, rfl, Lib.hid (ORow.nil _ _ _), o1, o2, Lib.hid (by rw [HSZ.out]; exact Nat.le_refl _), hx0⟩
  case round =>
    obtain ⟨j, x, e3, rfl, hj, hk, HO, oN, oR, HB, hx⟩ := hrel
    replace e3 := e3.symm
    subst e3
    obtain ⟨wo, hwo⟩ : ∃ wo, wo = wr := ⟨_, rfl⟩
    subst hwo
    clear o1 o2 hx0
    have c1 := oN.cell (j := 0) rfl
    by_cases hlt : j < t.length
    case pos =>
      have hi : (j : Int) < (t.length : Int) := by omega
      obtain ⟨b, o, q, d, rfl, ⟨m0, m1, m2⟩, hsn, hnd, hdm⟩ := ent_at (h.ext hx) hlt
      have hsnoc := cutT_snoc t next j hlt
      have hfl := HF.out t[j] (List.getElem_mem hlt)
      generalize t[j] = en at *
      obtain ⟨e0, e1, l⟩ := en
      simp only at m0 m1 m2 hsn hnd hdm hsnoc hfl
      have HFL := Lib.hid hfl
      have HPL : Hid ((cutT (t.take j) next).length ≤ 1000) := Lib.hid (by have := cutT_length (t.take j) next; rw [List.length_take] at this; have := HL.out; omega)
      have hxb := Ext.alloc wo (.cells #[.int .i64 e0, .int .i64 e1, .slice q l.length d] 48)
      have oE : ObjAt (wo.alloc (.cells #[.int .i64 e0, .int .i64 e1, .slice q l.length d] 48)) wo.heap.size 48 [.int .i64 e0, .int .i64 e1, .slice q l.length d] := heap_alloc_new wo _
      have y0 := oE.cell (j := 0) rfl
      have y1 := oE.cell (j := 1) rfl
      have y2 := oE.cell (j := 2) rfl
      have hsb := hsn.ext hxb
      have HXB := Lib.hid hxb
      have HSB : Hid ((wo.alloc (.cells #[.int .i64 e0, .int .i64 e1, .slice q l.length d] 48)).heap.size = wo.heap.size + 1) := Lib.hid (by simp)
      have HSN := Lib.hid hsnoc
      unfold maxLen at hdm
      obtain ⟨px, cx, ex, _, _⟩ := HO.out.view.slice
      subst ex
      clear hfl hsn hxb oE hsnoc
      go_wp2_with fail
      go_loopg [8, 9] (l.length) (fun k s8 s9 wi => ∃ (i : Nat) (y : Value), s8 = y ∧ s9 = .int .i64 i ∧ i ≤ l.length ∧ k = l.length - i ∧ Hid (SnO 68 wi (wo.heap.size + 1) y ((l.take i).filter (keepS next))) ∧ Ext (wo.alloc (.cells #[.int .i64 e0, .int .i64 e1, .slice q l.length d] 48)) wi)
      case atStart => exact ⟨0, _, rfl, rfl, Nat.zero_le _, rfl, Lib.hid (ORow.nil _ _ _), Ext.refl _⟩
      case round =>
        obtain ⟨i, y, e5, rfl, hi2, hk2, HI, hxi⟩ := hrel
        replace e5 := e5.symm
        subst e5
        obtain ⟨wi, hwi⟩ : ∃ wi, wi = wr := ⟨_, rfl⟩
        subst hwi
        obtain ⟨py, cy, ey, _, _⟩ := HI.out.view.slice
        obtain ⟨ny, hny⟩ : ∃ ny, ((l.take i).filter (keepS next)).length = ny := ⟨_, rfl⟩
        rw [hny] at ey
        subst ey
        have HNY := Lib.hid hny
        clear hny
        have z0 := hxi.cell y0
        have z1 := hxi.cell y1
        have z2 := hxi.cell y2
        by_cases hlt2 : i < l.length
        case pos =>
          have hii : (i : Int) < (l.length : Int) := by omega
          obtain ⟨b7, o7, rfl, ⟨r0, r1, r2⟩⟩ := sn_at (hsb.ext hxi) hlt2
          have hfs := filter_snoc next l i hlt2
          have hfle : ((l.take i).filter (keepS next)).length ≤ 1000 := Nat.le_trans (List.length_filter_le ..) (by rw [List.length_take]; have := HFL.out; omega)
          have HFLE := Lib.hid hfle
          generalize l[i] = s at *
          obtain ⟨a0, a1, a2⟩ := s
          simp only at r0 r1 r2
          have HFS := Lib.hid hfs
          have hke : keepS next ⟨a0, a1, a2⟩ = decide (wrap64 (a2 + a1) ≤ next) := rfl
          clear hfs hfle hsb
          go_wp2_with fail
          apply wp_region_dag (X := Ext) (by kernel_rfl) (by kernel_rfl) (fun _ _ _ => Ext.trans) (Ext.drew1 _)
          apply dag_val Ext.refl rfl (by intro W hW H; go_simp <;> rfl)
          simp only [Act.put, List.setIfInBounds_toArray, List.set_cons_zero, List.set_cons_succ]
          apply dag_val Ext.refl rfl (by intro W hW H; have q0 := hW.cell z2; go_simp <;> rfl)
          simp only [Act.put, List.setIfInBounds_toArray, List.set_cons_zero, List.set_cons_succ]
          apply dag_val Ext.refl rfl (by intro W hW H; go_simp <;> rfl)
          simp only [Act.put, List.setIfInBounds_toArray, List.set_cons_zero, List.set_cons_succ]
          apply dag_val Ext.refl rfl (by intro W hW H; go_simp <;> rfl)
          simp only [Act.put, List.setIfInBounds_toArray, List.set_cons_zero, List.set_cons_succ]
          apply dag_val Ext.refl rfl (by intro W hW H; go_simp <;> rfl)
          simp only [Act.put, List.setIfInBounds_toArray, List.set_cons_zero, List.set_cons_succ]
          apply dag_val Ext.refl rfl (by intro W hW H; have q0 := hW.cell r2; go_simp <;> rfl)
          simp only [Act.put, List.setIfInBounds_toArray, List.set_cons_zero, List.set_cons_succ]
          apply dag_val Ext.refl rfl (by intro W hW H; go_simp <;> rfl)
          simp only [Act.put, List.setIfInBounds_toArray, List.set_cons_zero, List.set_cons_succ]
          apply dag_val Ext.refl rfl (by intro W hW H; have q0 := hW.cell z2; go_simp <;> rfl)
          simp only [Act.put, List.setIfInBounds_toArray, List.set_cons_zero, List.set_cons_succ]
          apply dag_val Ext.refl rfl (by intro W hW H; go_simp <;> rfl)
          simp only [Act.put, List.setIfInBounds_toArray, List.set_cons_zero, List.set_cons_succ]
          apply dag_val Ext.refl rfl (by intro W hW H; go_simp <;> rfl)
          simp only [Act.put, List.setIfInBounds_toArray, List.set_cons_zero, List.set_cons_succ]
          apply dag_val Ext.refl rfl (by intro W hW H; go_simp <;> rfl)
          simp only [Act.put, List.setIfInBounds_toArray, List.set_cons_zero, List.set_cons_succ]
          apply dag_val Ext.refl rfl (by intro W hW H; have q0 := hW.cell r1; go_simp <;> rfl)
          simp only [Act.put, List.setIfInBounds_toArray, List.set_cons_zero, List.set_cons_succ]
          apply dag_val Ext.refl rfl (by intro W hW H; go_simp <;> rfl)
          simp only [Act.put, List.setIfInBounds_toArray, List.set_cons_zero, List.set_cons_succ]
          apply dag_val Ext.refl rfl (by intro W hW H; go_simp <;> rfl)
          simp only [Act.put, List.setIfInBounds_toArray, List.set_cons_zero, List.set_cons_succ]
          apply dag_val Ext.refl rfl (by intro W hW H; go_simp <;> rfl)
          simp only [Act.put, List.setIfInBounds_toArray, List.set_cons_zero, List.set_cons_succ]
          refine dag_end fun W hW H => ?_
          clear H
          have hkw : wrap64 (a2 + a1) = IntKind.i64.wrap (a2 + a1) := by rw [IntKind.wrap_i64]; unfold wrap64; omega
          rw [hkw] at hke
          clear hkw
          by_cases hkk : IntKind.i64.wrap (a2 + a1) ≤ next
          case neg =>
            have HKE : Hid (keepS next ⟨a0, a1, a2⟩ = false) := Lib.hid (by rw [hke]; exact decide_eq_false hkk)
            clear hke
            go_wp2_with fail
            go_roundg (l.length - (i + 1))
            case measure => omega
            case rel => exact ⟨i + 1, _, rfl, by go_num, hlt2, rfl, Lib.hid (by rw [HFS.out, HKE.out]; simp only [Bool.false_eq_true, if_false, List.append_nil]; exact HI.out.keep hW), hxi.trans hW⟩
          case pos =>
            have HKE : Hid (keepS next ⟨a0, a1, a2⟩ = true) := Lib.hid (by rw [hke]; exact decide_eq_true hkk)
            clear hke
            have f2 := hW.cell z2
            have f0 := hW.cell r0
            have f1 := hW.cell r1
            have f3 := hW.cell r2
            have hxr := Ext.alloc W (.cells #[.int .i64 a0, .int .i64 a1, .int .i64 a2] 68)
            have hl1 : SRow 3 RSn (fun k => False ∧ some k ≠ (Value.slice py ny cy).ownBlock) (W.alloc (.cells #[.int .i64 a0, .int .i64 a1, .int .i64 a2] 68)) (.slice (some ⟨W.heap.size, 0, none⟩) 1 1) [(⟨a0, a1, a2⟩ : Sn)] := sn_lit1 _ _ _ ⟨a0, a1, a2⟩
            have HI2 := Lib.hid ((HI.out.keep hW).keep hxr)
            have HXW := Lib.hid ((hxi.trans hW).trans hxr)
            have HWS : Hid (wo.heap.size + 1 ≤ (W.alloc (.cells #[.int .i64 a0, .int .i64 a1, .int .i64 a2] 68)).heap.size) := Lib.hid (by have h1 := HSB.out; have h2 := HXW.out.size; omega)
            clear hxr
            go_wp2_with (at_builtin; refine st_items Go.Proofs.Ythiaaoiaabocfaa.T.rseens HI2.out hl1 ?_ (by have := HFLE.out; simp [maxLen]; omega) (by have := HFLE.out; simp; omega) HWS.out; intro v2 w2 ho2 hg2 hw2
                         have HO2 := Lib.hid ho2
                         have hx2 : Ext _ w2 := Below.grown HXW.out hg2 HXW.out.size (fun k e => by have h1 := (HI2.out.own k e).1; have h2 := HSB.out; omega)
                         clear ho2 hg2 hw2 hl1)
            go_roundg (l.length - (i + 1))
            case measure => omega
            case rel => exact ⟨i + 1, _, rfl, by go_num, hlt2, rfl, Lib.hid (by rw [HFS.out, HKE.out]; simp only [if_true]; exact HO2.out), hx2⟩
        case neg =>
          have hie : i = l.length := by omega
          subst hie
          have hii : ¬ (l.length : Int) < (l.length : Int) := by omega
          have hIO := HI.out
          rw [List.take_length] at hIO
          obtain ⟨F, hF⟩ : ∃ F, l.filter (keepS next) = F := ⟨_, rfl⟩
          have HFF := Lib.hid hF
          rw [hF] at hIO
          have HSN2 := HSN.out
          rw [hF] at HSN2
          have HSN3 := Lib.hid HSN2
          have HNF : Hid (F.length = ny) := Lib.hid (by have := HNY.out; rw [List.take_length, hF] at this; exact this)
          have HIO := Lib.hid hIO
          have HXI := Lib.hid (hx.trans (HXB.out.trans hxi))
          have oN2 := oN.ext (HXB.out.trans hxi)
          have oR2 := oR.ext (HXB.out.trans hxi)
          have HOI := Lib.hid (HO.out.keep (HXB.out.trans hxi))
          have HZ := Lib.hid (Nat.le_trans HB.out (HXB.out.trans hxi).size)
          clear hF hIO HSN2 hlt2 hsb
          cases ny with
          | zero =>
            have HFN := HNF
            go_wp2_with fail
            go_roundg (t.length - (j + 1))
            case measure => omega
            case rel =>
              refine ⟨j + 1, _, rfl, by go_num, hlt, rfl, Lib.hid ?_, oN2, oR2, HZ, HXI.out⟩
              rw [HSN3.out, if_neg (by rw [HFN.out]; omega), List.append_nil]
              exact HOI.out
          | succ n =>
            have HFN := HNF
            have HUN : Hid (∀ k, (Value.slice py (n + 1) cy).ownBlock = some k → k ≠ w.heap.size + 1 ∧ some k ≠ (Value.slice px (cutT (t.take j) next).length cx).ownBlock) := Lib.hid (fun k hk => by
              have h1 := (HIO.out.own k hk).1
              have h2 := HB.out
              exact ⟨by omega, fun e => by have := (HO.out.own k e.symm).2; omega⟩)
            have hxl := Ext.alloc wi (.cells #[.int .i64 e0, .int .i64 e1, .slice py (n + 1) cy] 48)
            have hl1 : SRow 3 REnt (fun k => (k ≠ w.heap.size + 1) ∧ some k ≠ (Value.slice px (cutT (t.take j) next).length cx).ownBlock) (wi.alloc (.cells #[.int .i64 e0, .int .i64 e1, .slice py (n + 1) cy] 48)) (.slice (some ⟨wi.heap.size, 0, none⟩) 1 1) [(⟨e0, e1, F⟩ : Ent)] := ent_lit1 _ ⟨e0, e1, F⟩ ((SnO.under HIO.out).mono fun k _ hk => HUN.out k hk)
            have HOW := Lib.hid (HOI.out.keep hxl)
            have HWS := Lib.hid (Nat.le_trans HZ.out hxl.size)
            have HXA := Lib.hid (HXI.out.trans hxl)
            have oN3 := oN2.ext hxl
            have oR3 := oR2.ext hxl
            have HNE : Hid (∀ k, k < w.heap.size + 2 → some k ≠ (Value.slice px (cutT (t.take j) next).length cx).ownBlock) := Lib.hid (fun k hk e => by have := (HO.out.own k e.symm).1; omega)
            clear hxl
            go_wp2_with (at_builtin; refine st_items Go.Proofs.Ythiaaoiaabocfaa.T.rents HOW.out hl1 ?_ (by have := HPL.out; simp [maxLen]; omega) (by have := HPL.out; simp; omega) HWS.out; intro v2 w2 ho2 hg2 hw2
                         have HO2 := Lib.hid ho2
                         have hx2 : Ext w w2 := Below.grown HXA.out hg2 HXA.out.size (fun k e => by have h1 := (HOW.out.own k e).1; omega)
                         have oN4 := oN3.kept hg2 (HNE.out _ (by omega))
                         have oR4 := oR3.kept hg2 (HNE.out _ (by omega))
                         have HZ2 := Lib.hid (Nat.le_trans HWS.out hg2.size)
                         clear ho2 hg2 hw2 hl1)
            go_roundg (t.length - (j + 1))
            case measure => omega
            case rel =>
              refine ⟨j + 1, _, rfl, by go_num, hlt, rfl, Lib.hid ?_, oN4, oR4, HZ2, hx2⟩
              have e5 : cutE next ⟨e0, e1, l⟩ = ⟨e0, e1, F⟩ := by unfold cutE; rw [HFF.out]
              rw [HSN3.out, if_pos (by rw [HFN.out]; omega), e5]
              exact HO2.out
    case neg =>
      have hje : j = t.length := by omega
      subst hje
      have hi : ¬ (t.length : Int) < (t.length : Int) := by omega
      have ho := HO.out
      rw [List.take_length] at ho
      have hfo := oR.free 0
      have hco := oR.cell (j := 0) rfl
      have ho6 := oR.store 0 x
      obtain ⟨q2, d2, e5, _, _⟩ := ho.view.slice
      subst e5
      clear hlt
      go_wp2_with fail
      refine bodyPost_ret (rtab_results rfl _ _ (w.heap.size + 1) _ _ rfl ho6) rfl ?_
      refine ⟨_, rfl, ?_, hx.store (p := ⟨w.heap.size + 1, 0, none⟩) (by show _ ≤ w.heap.size + 1; omega) _⟩
      have hk := ho.kept (g := some (w.heap.size + 1)) (grown_set wo ⟨w.heap.size + 1, 0, none⟩ (.slice q2 (cutT t next).length d2)) (fun k hk e => hk (Option.some.inj e)) (.inr (fun e => by
        have : w.heap.size + 2 ≤ w.heap.size + 1 := (ho.own _ e).1
        omega))
      exact (ORow.view hk).mono (T := fun _ => True) fun k _ _ => trivial
set_option maxRecDepth 20000 in
set_option maxHeartbeats 4000000 in
theorem rbuild_any (v : Value) (l : List Bat) (w : World) (h : BatV w v l) (hl : l.length ≤ 900) :
    Calls Try.prog 23 #[v] w fun e w' => ∃ v', e = .returned (.agg #[v']) ∧ TabV w' v' (buildT l) ∧ Ext w w' := by
  obtain ⟨p, c, rfl, _, hcm⟩ := h.slice
  unfold maxLen at hcm
  obtain ⟨o1, o2, hx0, hsz⟩ := objs2 w 24 24 [.slice none 0 0] [.slice none 0 0]
  have HSZ := Lib.hid hsz
  have HL := Lib.hid hl
  clear hsz hl
  go_enter Try.func23, Try.ntmps23
  go_wp2_with fail
  go_loopg [4] (l.length) (fun k s8 wr => ∃ (j : Nat) (q : Option Addr) (n d : Nat), s8 = .int .i64 j ∧ j ≤ l.length ∧ k = l.length - j ∧ Hid (SRow 3 REnt (fun k => w.heap.size + 2 ≤ k) wr (.slice q n d) (buildT (l.take j))) ∧ Hid (∀ k, (Value.slice q n d).ownBlock = some k → w.heap.size + 2 ≤ k) ∧ ObjAt wr w.heap.size 24 [.slice none 0 0] ∧ ObjAt wr (w.heap.size + 1) 24 [.slice q n d] ∧ Hid (w.heap.size + 2 ≤ wr.heap.size) ∧ Ext w wr)
  case atStart => exact ⟨0, none, 0, 0, rfl, Nat.zero_le _, rfl, Lib.hid (SRow.nil _ _), Lib.hid (fun k e => by cases e), o1, o2, Lib.hid (by rw [HSZ.out]; exact Nat.le_refl _), hx0⟩
  case round =>
    obtain ⟨j, q, n, d, rfl, hj, hk, HS, HN, oR, oT, HB, hx⟩ := hrel
    obtain ⟨wo, hwo⟩ : ∃ wo, wo = wr := ⟨_, rfl⟩
    subst hwo
    clear o1 o2 hx0
    have ct := oT.cell (j := 0) rfl
    by_cases hlt : j < l.length
    case pos =>
      have hi : (j : Int) < (l.length : Int) := by omega
      obtain ⟨b, o, qb, db, rfl, ⟨m0, m1, m2, m3, m4, m5⟩, _⟩ := bat_at (h.ext hx) hlt
      have hsn := buildT_snoc l j hlt
      have hlen := buildT_length (l.take j)
      have hfew := buildT_few (l.take j)
      rw [List.length_take] at hlen
      generalize l[j] = bb at *
      obtain ⟨b0, b1, b2, b3, b4, rs⟩ := bb
      simp only at *
      have HSN := Lib.hid hsn
      have P1 := fun W (hW : Ext wo W) => rput_any (.slice q n d) (buildT (l.take j)) ⟨b0, b1, b2, b3, b4, rs⟩ qb rs.length db W (HS.out.ext hW) (by have := HL.out; omega) (hfew.mono (by omega))
      clear hsn hlen hfew
      go_wp2_with fail
      apply wp_region_dag_tail 6 (X := Ext) (by kernel_rfl) (by kernel_rfl) (by kernel_rfl) (by decide) (fun _ _ _ => Ext.trans) (Ext.drew1 _)
      simp only [List.take_succ_cons, List.take_zero, List.drop_succ_cons, List.drop_zero]
      apply dag_val Ext.refl rfl (by intro W hW H; have q0 := hW.cell ct; go_simp <;> rfl)
      simp only [Act.put, List.setIfInBounds_toArray, List.set_cons_zero, List.set_cons_succ]
      apply dag_val Ext.refl rfl (by intro W hW H; go_simp <;> rfl)
      simp only [Act.put, List.setIfInBounds_toArray, List.set_cons_zero, List.set_cons_succ]
      apply dag_val Ext.refl rfl (by intro W hW H; go_simp <;> rfl)
      simp only [Act.put, List.setIfInBounds_toArray, List.set_cons_zero, List.set_cons_succ]
      apply dag_val Ext.refl rfl (by intro W hW H; go_simp <;> rfl)
      simp only [Act.put, List.setIfInBounds_toArray, List.set_cons_zero, List.set_cons_succ]
      apply dag_val Ext.refl rfl (by intro W hW H; have q0 := hW.cell m0; have q1 := hW.cell m1; have q2 := hW.cell m2; have q3 := hW.cell m3; have q4 := hW.cell m4; have q5 := hW.cell m5; go_simp <;> rfl)
      simp only [Act.put, List.setIfInBounds_toArray, List.set_cons_zero, List.set_cons_succ]
      refine' dag_calls (fun v W => ∃ q' n' d', v = .agg #[.slice q' n' d'] ∧ SRow 3 REnt (fun k => w.heap.size + 2 ≤ k) W (.slice q' n' d') (putT (buildT (l.take j)) ⟨b0, b1, b2, b3, b4, rs⟩) ∧ ∀ k, (Value.slice q' n' d').ownBlock = some k → w.heap.size + 2 ≤ k) (fun v W W' hx ⟨q', n', d', e, h1, h2⟩ => ⟨q', n', d', e, h1.ext hx, h2⟩) rfl (by intro W; go_simp <;> rfl) (fun W hW H => (P1 W hW).mono (by rintro e w' ⟨v1, rfl, hf1, hn1, hx1⟩; obtain ⟨q', d', e5, _, _⟩ := hf1.slice; subst e5; exact ⟨_, rfl, ⟨_, _, _, rfl, hf1.mono fun k _ hk => hk.elim (fun h => h) (fun h => Nat.le_trans (Nat.le_trans HB.out hW.size) h), fun k e => (hn1 k e).elim (fun h => HN.out k h) (fun h => Nat.le_trans (Nat.le_trans HB.out hW.size) h)⟩, hx1⟩)) (fun u => _)
      rotate_left
      simp only [Act.put, List.setIfInBounds_toArray, List.set_cons_zero, List.set_cons_succ]
      refine dag_end fun W hW H => ?_
      obtain ⟨q', n', d', eu, hs2, hn2⟩ : ∃ q' n' d', u = .agg #[.slice q' n' d'] ∧ SRow 3 REnt (fun k => w.heap.size + 2 ≤ k) W (.slice q' n' d') (putT (buildT (l.take j)) ⟨b0, b1, b2, b3, b4, rs⟩) ∧ ∀ k, (Value.slice q' n' d').ownBlock = some k → w.heap.size + 2 ≤ k := H 5
      subst eu
      clear H P1
      have oT2 := oT.ext hW
      have hf2 := oT2.free 0
      have hc2 := oT2.cell (j := 0) rfl
      have oT3 := oT2.store 0 (.slice q' n' d')
      have oR2 := oR.ext hW
      have HS2 := Lib.hid hs2
      have HN2 := Lib.hid hn2
      have HX2 := Lib.hid (hx.trans hW)
      have HZ2 := Lib.hid (Nat.le_trans HB.out hW.size)
      clear hs2 hn2 oT2
      go_wp2_with fail
      go_roundg (l.length - (j + 1))
      case measure => omega
      case rel =>
        refine ⟨j + 1, q', n', d', by go_num, hlt, rfl, Lib.hid ?_, HN2, oR2.far (p := ⟨w.heap.size + 1, 0, none⟩) (by show w.heap.size ≠ w.heap.size + 1; omega) _, oT3, Lib.hid (by simpa using HZ2.out), HX2.out.store (p := ⟨w.heap.size + 1, 0, none⟩) (by show w.heap.size ≤ w.heap.size + 1; omega) _⟩
        rw [HSN.out]
        exact HS2.out.kept (grown_set _ ⟨w.heap.size + 1, 0, none⟩ _) (fun k hk e => by have h1 : k = w.heap.size + 1 := Option.some.inj e; omega) (fun k hk e => by have h1 : k = w.heap.size + 1 := Option.some.inj e; have h2 := HN2.out k hk; omega)
    case neg =>
      have hje : j = l.length := by omega
      subst hje
      have hi : ¬ (l.length : Int) < (l.length : Int) := by omega
      have hs := HS.out
      rw [List.take_length] at hs
      have hfo := oR.free 0
      have hco := oR.cell (j := 0) rfl
      have ho6 := oR.store 0 (.slice q n d)
      clear hlt
      go_wp2_with fail
      refine bodyPost_ret (rtab_results rfl _ _ w.heap.size _ _ rfl ho6) rfl ?_
      refine ⟨_, rfl, ?_, hx.store (p := ⟨w.heap.size, 0, none⟩) (Nat.le_refl _) _⟩
      exact TabV.any (hs.kept (grown_set _ ⟨w.heap.size, 0, none⟩ _) (fun k hk e => by have h1 : k = w.heap.size := Option.some.inj e; omega) (fun k hk e => by have h1 : k = w.heap.size := Option.some.inj e; have h2 := HN.out k hk; omega))
end Go.Proofs.Ythiaaoiaabocfaa
