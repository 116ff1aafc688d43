/- What producer.Put computes. -/
import Derived.Test.YthiaaoiaabocfaaInsE
import Derived.Test.YthiaaoiaabocfaaClE
import Derived.Test.YthiaaoiaabocfaaPrA
namespace Go.Proofs.Ythiaaoiaabocfaa
open Go.RowKit

theorem sn_any {S T : Nat → Prop} {w : World} {v : Value} {xs : List Sn} (h : SRow 3 RSn S w v xs) : SRow 3 RSn T w v xs := by
  obtain ⟨css, p, c, h1, h2, h3, h4, h5, h6⟩ := h
  exact ⟨css, p, c, h1, h2, h3, h4, h5, h6.1, fun j cs x hc hx w' _ => (h6.2 j cs x hc hx).now⟩
theorem TabV.any {S : Nat → Prop} {w : World} {v : Value} {t : List Ent} (h : SRow 3 REnt S w v t) : TabV w v t := h.mono fun _ _ _ => trivial
theorem T.seensSize : (Try.prog.info? 41).map (·.size) = some 1 := by kernel_rfl
theorem lastP_some {t : List Ent} {b : Bat} {j : Nat} (h : t.findIdx? (isId b.prod) = some j) (hj : j < t.length) : lastP t b = if (t[j].epoch == b.epoch) = true then t[j].last else [] := by
  obtain ⟨_, e, _⟩ := findE_some h
  unfold lastP
  rw [e]
  rfl
theorem lastP_none {t : List Ent} {b : Bat} (h : t.findIdx? (isId b.prod) = none) : lastP t b = [] := by
  unfold lastP
  rw [(findE_none h).1]
  rfl
theorem putT_some {t : List Ent} {b : Bat} {j : Nat} (hp : b.prod ≠ 0) (h : t.findIdx? (isId b.prod) = some j) : putT t b = t.set j (entP t b) := by
  unfold putT
  rw [if_neg hp, h]
theorem putT_none {t : List Ent} {b : Bat} (hp : b.prod ≠ 0) (h : t.findIdx? (isId b.prod) = none) : putT t b = t.take (highP t b.prod) ++ entP t b :: t.drop (highP t b.prod) := by
  unfold putT
  rw [if_neg hp, h]
theorem highP_le (t : List Ent) (id : Int) : highP t id ≤ t.length := by
  unfold highP
  cases h : t.findIdx? (isHigh id) with
  | none => exact Nat.le_refl _
  | some j => obtain ⟨hj, _⟩ := find_some h; exact Nat.le_of_lt hj
theorem set_mid {α : Type} (a b : List α) (x y : α) : (a ++ x :: b).set a.length y = a ++ y :: b := by
  rw [List.set_append_right (h := Nat.le_refl _), Nat.sub_self]
  rfl

set_option maxRecDepth 20000 in
set_option maxHeartbeats 8000000 in
theorem put_any {S : Nat → Prop} (v : Value) (t : List Ent) (b : Bat) (bp : Option Addr) (bn bc : Nat) (w : World) (h : SRow 3 REnt S w v t) (hl : t.length ≤ 1000) (hf : FewT 1000 t) :
    Calls Try.prog 13 #[.agg #[v], batv b (.slice bp bn bc)] w fun e w' => ∃ v', e = .returned (.agg #[v']) ∧ SRow 3 REnt (fun k => S k ∨ w.heap.size ≤ k) w' v' (putT t b) ∧ (∀ k, v'.ownBlock = some k → w.heap.size ≤ k) ∧ Ext w w' := by
  obtain ⟨b0, b1, b2, b3, b4, rs⟩ := b
  obtain ⟨q, c, rfl, hn, hc⟩ := h.slice
  obtain ⟨o1, o2, o3, hx0, hsz⟩ := objs3 w 33 27 33 [.slice q t.length c] [.int .i64 b0, .int .i64 b1, .int .i64 b2, .int .i64 b3, .int .i64 b4, .slice bp bn bc] [.slice none 0 0]
  have C1 := cloneE_any _ t _ ((h.mono (T := fun k => S k ∧ k < w.heap.size) fun k hk hs => ⟨hs, hk⟩).ext hx0) (by omega)
  have c1 := o1.cell (j := 0) rfl
  have d0 := o2.cell (j := 0) rfl
  have d1 := o2.cell (j := 1) rfl
  have d2 := o2.cell (j := 2) rfl
  have d3 := o2.cell (j := 3) rfl
  have d4 := o2.cell (j := 4) rfl
  rw [hsz] at C1
  have HSZ := Lib.hid hsz
  have HL := Lib.hid hl
  have HF := Lib.hid hf
  clear hsz hf hl o1
  by_cases hp : b2 = 0
  case pos =>
    subst hp
    have hput : putT t ⟨b0, b1, 0, b3, b4, rs⟩ = t := by unfold putT; rw [if_pos rfl]
    rw [hput]
    clear hput
    go_enter Try.func13, Try.ntmps13
    go_wp2_with (go_at_call 31; refine C1.mono ?_; rintro e w1 ⟨v1, rfl, ho1, hx1⟩
                 obtain ⟨p1, c1', e5, _, _⟩ := ho1.view.slice
                 subst e5
                 have d2' := hx1.cell d2
                 have o3' := o3.ext hx1
                 have hfo := o3'.free 0
                 have hco := o3'.cell (j := 0) rfl
                 have ho6 := o3'.store 0 (.slice p1 t.length c1'))
    refine bodyPost_ret (tab_results rfl _ _ (w.heap.size + 2) _ _ rfl ho6) rfl ?_
    refine ⟨_, rfl, ?_, fun k e => by have : w.heap.size + 3 ≤ k := (ho1.own k e).1; omega, (hx0.trans hx1).store (p := ⟨w.heap.size + 2, 0, none⟩) (by show _ ≤ w.heap.size + 2; omega) _⟩
    have hk := ho1.kept (g := some (w.heap.size + 2)) (grown_set w1 ⟨w.heap.size + 2, 0, none⟩ (.slice p1 t.length c1')) (fun k hk e => by cases e; have := hk.2; omega) (.inr (fun e => by
      have : w.heap.size + 3 ≤ w.heap.size + 2 := (ho1.own _ e).1
      omega))
    exact (ORow.view hk).mono fun k _ hk => .inl hk.1.1
  have hpe : (b2 == 0) = false := by simp [hp]
  have HST := Lib.hid hn
  clear hn hc
  cases hfi : t.findIdx? (isId b2)
  case' some i =>
    obtain ⟨hj, hfe, hpl⟩ := findE_some hfi
    clear hfe
    have hrun := Lib.hid (putT_some (b := ⟨b0, b1, b2, b3, b4, rs⟩) hp hfi)
    have hlp := Lib.hid (lastP_some (b := ⟨b0, b1, b2, b3, b4, rs⟩) hfi hj)
    have hj0 : ¬ ((i : Int) < 0) := by omega
    clear hfi hp
    go_enter Try.func13, Try.ntmps13
    go_wp2_with (first
      | (go_at_call 31; refine C1.mono ?_; rintro e w1 ⟨lv, rfl, ho1, hx1⟩
         have d2' := hx1.cell d2
         have c1' := hx1.cell c1
         have A1 := at_any _ t b2 w1 (TabV.any (h.ext (hx0.trans hx1))) HL.out
         rw [hpl] at A1
         clear C1)
      | (go_at_call 32; refine A1.mono ?_; rintro e wA ⟨rfl, hx2⟩
         have HXA := Lib.hid (hx1.trans hx2)
         have d2 := hx2.cell d2'
         have d3 := (hx1.trans hx2).cell d3))
    obtain ⟨tt, HTE⟩ : ∃ tt, Hid (tt = t) := ⟨t, rfl⟩
    have hi : i < tt.length := by rw [HTE.out]; exact hj
    have HTL := Lib.hid (p := tt.length ≤ 1001) (by rw [HTE.out]; have := HL.out; omega)
    have HTI := Lib.hid (p := tt[i].last.length ≤ 1000) (by have e := HTE.out; subst e; exact HF.out _ (List.getElem_mem hj))
    have HO := Lib.hid (p := ORow 43 3 REnt (fun k => S k ∧ k < w.heap.size) wA (w.heap.size + 3) lv tt) (by rw [HTE.out]; exact ho1.keep hx2)
    have HRUN := Lib.hid (p := putT t ⟨b0, b1, b2, b3, b4, rs⟩ = tt.set i (entP t ⟨b0, b1, b2, b3, b4, rs⟩)) (by rw [HTE.out]; exact hrun.out)
    have HLP := Lib.hid (p := lastP t ⟨b0, b1, b2, b3, b4, rs⟩ = if (tt[i].epoch == b3) = true then tt[i].last else []) (by have e := HTE.out; subst e; exact hlp.out)
    clear hrun hlp A1 ho1 hx1 hx2 HTE hpl hj
  case' none =>
    obtain ⟨_, hpl⟩ := findE_none hfi
    have hrun := Lib.hid (putT_none (b := ⟨b0, b1, b2, b3, b4, rs⟩) hp hfi)
    have hlp := Lib.hid (lastP_none (b := ⟨b0, b1, b2, b3, b4, rs⟩) hfi)
    have hhi : (placeF (isHigh b2) t = -1 ∧ t.length = highP t b2) ∨ (placeF (isHigh b2) t = ((highP t b2 : Nat) : Int)) := by
      unfold placeF highP
      cases t.findIdx? (isHigh b2) with
      | none => exact .inl ⟨rfl, rfl⟩
      | some k => exact .inr rfl
    have HIL := Lib.hid (highP_le t b2)
    simp only at hrun
    generalize highP t b2 = i at *
    have d2o := d2
    have d3o := d3
    clear hfi hp
    rcases hhi with ⟨hph, hie⟩ | hph
    case' inl =>
      have HIE := Lib.hid hie
      clear hie
    case' inr =>
      have HIE : Hid (t.length = t.length) := Lib.hid rfl
      have hj0 : ¬ ((i : Int) < 0) := by omega
  case' none.inl =>
    go_enter Try.func13, Try.ntmps13
    go_wp2_with (first
      | (go_at_call 31; refine C1.mono ?_; rintro e w1 ⟨lv0, rfl, ho1, hx1⟩
         have d2' := hx1.cell d2
         have c1' := hx1.cell c1
         have A1 := at_any _ t b2 w1 (TabV.any (h.ext (hx0.trans hx1))) HL.out
         rw [hpl] at A1
         clear C1)
      | (go_at_call 32; refine A1.mono ?_; rintro e w2 ⟨rfl, hx2⟩
         have hv2 : TabV w2 lv0 t := (ORow.view (ho1.keep hx2)).mono (T := fun _ => True) fun k _ _ => trivial
         have P1 := idxPutP_any (w.heap.size + 1) (isHigh b2) lv0 t w2 hv2 HL.out (fun en ev W hW h1 => put1_any (w.heap.size + 1) b2 en ev W (hW.cell (hx2.cell d2')) h1)
         rw [hph] at P1
         clear hv2)
      | (go_at_call 33; refine P1.mono ?_; rintro e w3 ⟨rfl, hx3⟩
         have hx13 := (hx1.trans hx2).trans hx3
         have d2 := hx13.cell d2
         have d3 := hx13.cell d3
         have HO3 := Lib.hid (ho1.keep (hx2.trans hx3))
         have HX3 := Lib.hid hx13
         have hxl := Ext.alloc w3 (.cells #[.int .i64 b2, .int .i64 b3, .slice none 0 0] 43)
         have I1 := insE_any (R := REnt) (S := fun k => S k ∧ k < w.heap.size) (x := (⟨b2, b3, []⟩ : Ent)) (i := i) (vb := w3.heap.size) (vs := entCells ⟨b2, b3, []⟩ (.slice none 0 0)) (HO3.out.keep hxl) (heap_alloc_new w3 _) (fun e => Nat.lt_irrefl _ (HO3.out.own _ e).2) rfl (fun u hu => by simp only [entCells, List.mem_cons, List.not_mem_nil, or_false] at hu; rcases hu with rfl | rfl | rfl <;> rfl) (fun w' _ => ⟨_, rfl, SRow.nil _ _⟩) HIL.out (by have := HL.out; omega) (by have h1 := HSZ.out; have h2 := HX3.out.size; have h3 := hxl.size; omega)
         have HXL := Lib.hid hxl
         obtain ⟨p3, c3, e5, _, _⟩ := HO3.out.view.slice
         try rw [HIE.out] at e5
         subst e5
         clear hx13 hxl)
      | (go_at_call 35; refine I1.mono ?_; rintro e wA ⟨lv, rfl, hoA, hgA, _⟩
         have HXA : Hid (Ext _ wA) := Lib.hid (Below.grown (HX3.out.trans HXL.out) hgA (HX3.out.trans HXL.out).size (fun k e => by have h1 := (HO3.out.own k e).1; have h2 := HSZ.out; omega))
         have d2 := HXA.out.cell d2o
         have d3 := HXA.out.cell d3o))
    have hlen : (t.take i ++ (⟨b2, b3, []⟩ : Ent) :: t.drop i).length = t.length + 1 := by have := HIL.out; rw [List.length_append, List.length_cons, List.length_take, List.length_drop]; omega
    have htk : (t.take i).length = i := by rw [List.length_take, Nat.min_eq_left HIL.out]
    obtain ⟨tt, HTE⟩ : ∃ tt, Hid (tt = t.take i ++ (⟨b2, b3, []⟩ : Ent) :: t.drop i) := ⟨_, Lib.hid rfl⟩
    have hi : i < tt.length := by rw [HTE.out, hlen]; have := HIL.out; omega
    have hti : tt[i] = ⟨b2, b3, []⟩ := by
      have : tt[i]? = some ⟨b2, b3, []⟩ := by rw [HTE.out, List.getElem?_append_right (by rw [htk]; exact Nat.le_refl _), htk, Nat.sub_self]; rfl
      rw [List.getElem?_eq_getElem hi] at this
      exact Option.some.inj this
    have HTL := Lib.hid (p := tt.length ≤ 1001) (by rw [HTE.out, hlen]; have := HL.out; omega)
    have HTI := Lib.hid (p := tt[i].last.length ≤ 1000) (by rw [hti]; simp)
    have HO := Lib.hid (p := ORow 43 3 REnt (fun k => S k ∧ k < w.heap.size) wA (w.heap.size + 3) lv tt) (by rw [HTE.out]; exact hoA)
    have HRUN := Lib.hid (p := putT t ⟨b0, b1, b2, b3, b4, rs⟩ = tt.set i (entP t ⟨b0, b1, b2, b3, b4, rs⟩)) (by
      rw [HTE.out, hrun.out]
      have := set_mid (t.take i) (t.drop i) ⟨b2, b3, []⟩ (entP t ⟨b0, b1, b2, b3, b4, rs⟩)
      rw [htk] at this
      exact this.symm)
    have HLP := Lib.hid (p := lastP t ⟨b0, b1, b2, b3, b4, rs⟩ = if (tt[i].epoch == b3) = true then tt[i].last else []) (by rw [hti, hlp.out]; split <;> rfl)
    clear hrun hlp A1 P1 I1 ho1 hx1 hx2 HTE hpl hlen htk hti hph hoA hgA HO3 HX3 HXL hx3
  case' none.inr =>
    go_enter Try.func13, Try.ntmps13
    go_wp2_with (first
      | (go_at_call 31; refine C1.mono ?_; rintro e w1 ⟨lv0, rfl, ho1, hx1⟩
         have d2' := hx1.cell d2
         have c1' := hx1.cell c1
         have A1 := at_any _ t b2 w1 (TabV.any (h.ext (hx0.trans hx1))) HL.out
         rw [hpl] at A1
         clear C1)
      | (go_at_call 32; refine A1.mono ?_; rintro e w2 ⟨rfl, hx2⟩
         have hv2 : TabV w2 lv0 t := (ORow.view (ho1.keep hx2)).mono (T := fun _ => True) fun k _ _ => trivial
         have P1 := idxPutP_any (w.heap.size + 1) (isHigh b2) lv0 t w2 hv2 HL.out (fun en ev W hW h1 => put1_any (w.heap.size + 1) b2 en ev W (hW.cell (hx2.cell d2')) h1)
         rw [hph] at P1
         clear hv2)
      | (go_at_call 33; refine P1.mono ?_; rintro e w3 ⟨rfl, hx3⟩
         have hx13 := (hx1.trans hx2).trans hx3
         have d2 := hx13.cell d2
         have d3 := hx13.cell d3
         have HO3 := Lib.hid (ho1.keep (hx2.trans hx3))
         have HX3 := Lib.hid hx13
         have hxl := Ext.alloc w3 (.cells #[.int .i64 b2, .int .i64 b3, .slice none 0 0] 43)
         have I1 := insE_any (R := REnt) (S := fun k => S k ∧ k < w.heap.size) (x := (⟨b2, b3, []⟩ : Ent)) (i := i) (vb := w3.heap.size) (vs := entCells ⟨b2, b3, []⟩ (.slice none 0 0)) (HO3.out.keep hxl) (heap_alloc_new w3 _) (fun e => Nat.lt_irrefl _ (HO3.out.own _ e).2) rfl (fun u hu => by simp only [entCells, List.mem_cons, List.not_mem_nil, or_false] at hu; rcases hu with rfl | rfl | rfl <;> rfl) (fun w' _ => ⟨_, rfl, SRow.nil _ _⟩) HIL.out (by have := HL.out; omega) (by have h1 := HSZ.out; have h2 := HX3.out.size; have h3 := hxl.size; omega)
         have HXL := Lib.hid hxl
         obtain ⟨p3, c3, e5, _, _⟩ := HO3.out.view.slice
         try rw [HIE.out] at e5
         subst e5
         clear hx13 hxl)
      | (go_at_call 35; refine I1.mono ?_; rintro e wA ⟨lv, rfl, hoA, hgA, _⟩
         have HXA : Hid (Ext _ wA) := Lib.hid (Below.grown (HX3.out.trans HXL.out) hgA (HX3.out.trans HXL.out).size (fun k e => by have h1 := (HO3.out.own k e).1; have h2 := HSZ.out; omega))
         have d2 := HXA.out.cell d2o
         have d3 := HXA.out.cell d3o))
    have hlen : (t.take i ++ (⟨b2, b3, []⟩ : Ent) :: t.drop i).length = t.length + 1 := by have := HIL.out; rw [List.length_append, List.length_cons, List.length_take, List.length_drop]; omega
    have htk : (t.take i).length = i := by rw [List.length_take, Nat.min_eq_left HIL.out]
    obtain ⟨tt, HTE⟩ : ∃ tt, Hid (tt = t.take i ++ (⟨b2, b3, []⟩ : Ent) :: t.drop i) := ⟨_, Lib.hid rfl⟩
    have hi : i < tt.length := by rw [HTE.out, hlen]; have := HIL.out; omega
    have hti : tt[i] = ⟨b2, b3, []⟩ := by
      have : tt[i]? = some ⟨b2, b3, []⟩ := by rw [HTE.out, List.getElem?_append_right (by rw [htk]; exact Nat.le_refl _), htk, Nat.sub_self]; rfl
      rw [List.getElem?_eq_getElem hi] at this
      exact Option.some.inj this
    have HTL := Lib.hid (p := tt.length ≤ 1001) (by rw [HTE.out, hlen]; have := HL.out; omega)
    have HTI := Lib.hid (p := tt[i].last.length ≤ 1000) (by rw [hti]; simp)
    have HO := Lib.hid (p := ORow 43 3 REnt (fun k => S k ∧ k < w.heap.size) wA (w.heap.size + 3) lv tt) (by rw [HTE.out]; exact hoA)
    have HRUN := Lib.hid (p := putT t ⟨b0, b1, b2, b3, b4, rs⟩ = tt.set i (entP t ⟨b0, b1, b2, b3, b4, rs⟩)) (by
      rw [HTE.out, hrun.out]
      have := set_mid (t.take i) (t.drop i) ⟨b2, b3, []⟩ (entP t ⟨b0, b1, b2, b3, b4, rs⟩)
      rw [htk] at this
      exact this.symm)
    have HLP := Lib.hid (p := lastP t ⟨b0, b1, b2, b3, b4, rs⟩ = if (tt[i].epoch == b3) = true then tt[i].last else []) (by rw [hti, hlp.out]; split <;> rfl)
    clear hrun hlp A1 P1 I1 ho1 hx1 hx2 HTE hpl hlen htk hti hph hoA hgA HO3 HX3 HXL hx3
  all_goals
    obtain ⟨g, cg, C0, e9, hBg, _, _, _⟩ := HO.out.setAt hi
    subst e9
    obtain ⟨bb, oo, q2, dd, e8, ⟨m0, m1, m2⟩, hsn, _, hdm⟩ := ent_at HO.out.view hi
    cases e8
    have hii : (i : Int) < (tt.length : Int) := by omega
    have HTA := HTI.out
    have HLQ := HLP.out
    generalize tt[i] = en at *
    obtain ⟨e0, e1, l⟩ := en
    simp only [Nat.zero_add] at m0 m1 m2
    simp only at hsn hdm HTA HLQ
    have HLQ := Lib.hid HLQ
    have HTA := Lib.hid HTA
    have HBG := Lib.hid hBg
    have HII := Lib.hid hi
    have hxB := Ext.alloc wA (.cells #[.int .i64 b2, .int .i64 b3, .slice none 0 0] 43)
    have oE : ObjAt (wA.alloc (.cells #[.int .i64 b2, .int .i64 b3, .slice none 0 0] 43)) wA.heap.size 43 [.int .i64 b2, .int .i64 b3, .slice none 0 0] := heap_alloc_new wA _
    have m1' := hxB.cell m1
    have d3' := hxB.cell d3
    have HGE : Hid (w.heap.size + 3 ≤ wA.heap.size) := Lib.hid (by have := HSZ.out; have := HXA.out.size; omega)
    have HGL : Hid (g < wA.heap.size) := Lib.hid (HO.out.own g rfl).2
    have HGW : Hid (w.heap.size ≤ wA.heap.size) := Lib.hid (by have := HGE.out; omega)
    have HLO : Hid (∀ k, (S k ∧ k < w.heap.size) → some k ≠ some wA.heap.size) := Lib.hid (fun k hk e => by have h0 := hk.2; have h1 := Option.some.inj e; have := HGE.out; omega)
    have HNG : Hid ((Value.slice (some ⟨g, 0, none⟩) tt.length cg).ownBlock ≠ some wA.heap.size) := Lib.hid (fun e => by have h1 : g = wA.heap.size := Option.some.inj e; have := HGL.out; omega)
    have HN1 : Hid (some (w.heap.size + 1) ≠ some wA.heap.size) := Lib.hid (fun e => by have h1 := Option.some.inj e; have := HGE.out; omega)
    have HN2 : Hid (some (w.heap.size + 2) ≠ some wA.heap.size) := Lib.hid (fun e => by have h1 := Option.some.inj e; have := HGE.out; omega)
    cases he : (e1 == b3)
    case' false =>
      apply wp_region_dag (X := Ext) (by kernel_rfl) (by kernel_rfl) (fun _ _ _ => Ext.trans) (Ext.drew1 _)
      apply dag_val Ext.refl rfl (by intro W hW H; go_simp <;> rfl)
      simp only [Act.put, List.setIfInBounds_toArray, List.set_cons_zero, List.set_cons_succ]
      apply dag_val Ext.refl rfl (by intro W hW H; go_simp <;> rfl)
      simp only [Act.put, List.setIfInBounds_toArray, List.set_cons_zero, List.set_cons_succ]
      apply dag_val Ext.refl rfl (by intro W hW H; have q0 := hW.cell m1'; go_simp <;> rfl)
      simp only [Act.put, List.setIfInBounds_toArray, List.set_cons_zero, List.set_cons_succ]
      apply dag_val Ext.refl rfl (by intro W hW H; go_simp <;> rfl)
      simp only [Act.put, List.setIfInBounds_toArray, List.set_cons_zero, List.set_cons_succ]
      apply dag_val Ext.refl rfl (by intro W hW H; have q0 := hW.cell m1'; go_simp <;> rfl)
      simp only [Act.put, List.setIfInBounds_toArray, List.set_cons_zero, List.set_cons_succ]
      apply dag_val Ext.refl rfl (by intro W hW H; go_simp <;> rfl)
      simp only [Act.put, List.setIfInBounds_toArray, List.set_cons_zero, List.set_cons_succ]
      apply dag_val Ext.refl rfl (by intro W hW H; have q0 := hW.cell d3'; go_simp <;> rfl)
      simp only [Act.put, List.setIfInBounds_toArray, List.set_cons_zero, List.set_cons_succ]
      apply dag_val Ext.refl rfl (by intro W hW H; go_simp <;> rfl)
      simp only [Act.put, List.setIfInBounds_toArray, List.set_cons_zero, List.set_cons_succ]
      refine dag_end fun W hW H => ?_
      have oEW := oE.ext hW
      have HOW := Lib.hid ((HO.out.keep hxB).keep hW)
      have hxW := HXA.out.trans (hxB.trans hW)
      have x0 := hxW.cell d0
      have x1 := hxW.cell d1
      have x4 := hxW.cell d4
      have oRW := o3.ext hxW
      have oBW := o2.ext hxW
      have HXW := Lib.hid (hx0.trans hxW)
      have HSW := Lib.hid (Nat.le_trans (show wA.heap.size + 1 ≤ _ by simp) hW.size)
      obtain ⟨LP, HLPN⟩ : ∃ LP : List Sn, Hid (LP = []) := ⟨[], Lib.hid rfl⟩
      have HLPE : Hid (lastP t ⟨b0, b1, b2, b3, b4, rs⟩ = LP) := Lib.hid (by rw [HLPN.out, HLQ.out, he]; rfl)
      have hln : LP.length ≤ 1000 := by rw [HLPN.out]; simp
      have HLN := Lib.hid hln
      have HS4 : Hid (ORow 73 3 RSn (fun _ => False) W (wA.heap.size + 1) (.slice none 0 0) LP) := Lib.hid (by rw [HLPN.out]; exact ORow.nil _ _ _)
      have HMX : Hid (max (0 : Int) ((LP.length : Int) + 1 - 5) = ((LP.length + 1 - 5 : Nat) : Int)) := Lib.hid (by omega)
      have oE4 := oEW
      have HO4 := HOW
      have oR4 := oRW
      have HX4 := HXW
      have HG4 := HSW
      have k2 := oE4.cell (j := 2) rfl
      have hx5 := Ext.alloc W (.cells #[.int .i64 b4, .int .i64 b1, .int .i64 b0] 73)
      have hl5 : SRow 3 RSn (fun k => False ∧ some k ≠ (Value.slice none 0 0).ownBlock) (W.alloc (.cells #[.int .i64 b4, .int .i64 b1, .int .i64 b0] 73)) (.slice (some ⟨W.heap.size, 0, none⟩) 1 1) [(⟨b4, b1, b0⟩ : Sn)] := sn_lit1 _ _ _ ⟨b4, b1, b0⟩
      have HG5 := Lib.hid (Nat.le_trans HG4.out hx5.size)
      have HNE : Hid (∀ k, k < wA.heap.size + 1 → some k ≠ (Value.slice none 0 0).ownBlock) := Lib.hid (fun k hk e => by have := (HS4.out.own k e.symm).1; omega)
      have HBE : Hid (∀ k, (Value.slice none 0 0).ownBlock = some k → w.heap.size ≤ k) := Lib.hid (fun k e => by have h1 := (HS4.out.own k e).1; have h2 := HGE.out; omega)
      clear oEW HOW oRW hxB oE hW m1' d3' m1 d3 hxW
      go_wp2_with (first
        | (at_builtin; refine st_items T.seens (HS4.out.keep hx5) hl5 ?_ (by have := HLN.out; simp [maxLen]; omega) (by have := HLN.out; simp; omega) HG5.out; intro v6 w6 ho6 hg6 hw6
           obtain ⟨p6, c6, e6, hc6, _⟩ := ho6.view.slice
           rw [List.length_append, List.length_singleton] at e6 hc6
           subst e6
           have oE6 := (oE4.ext hx5).kept hg6 (HNE.out _ (Nat.le_refl _))
           have HX6 : Hid (Ext w w6) := Lib.hid (Below.grown (HX4.out.trans hx5) hg6 (HX4.out.trans hx5).size HBE.out)
           have HO6 := Lib.hid (ORow.kept (HO4.out.keep hx5) hg6 (fun k hk => HNE.out k (by have := hk.2; have := HGE.out; omega)) (.inr (fun e => HNE.out g (Nat.lt_succ_of_lt HGL.out) e)))
           have oR6 := (oR4.ext hx5).kept hg6 (HNE.out _ (by have := HGE.out; omega))
           have HS6 := Lib.hid ho6
           clear ho6 hg6 hw6 hl5)
        | ((with_reducible show wpList _ _ _ (Oper.mk _ (Op.store _ _ _) _ _ _ _ :: _) _ _); refine st_store1 (o := 2) oE6 T.seensSize (by simp) ?_; intro w7 oE7 hg7
           have k7 := oE7.cell (j := 2) rfl
           have HX7 := Lib.hid (HX6.out.grown hg7 HGW.out)
           have HO7 := Lib.hid (HO6.out.kept hg7 HLO.out (.inr HNG.out))
           have HS7 := Lib.hid (HS6.out.kept hg7 (fun k hk => hk.elim) (.inr (fun e => Nat.not_succ_le_self _ (HS6.out.own _ e).1)))
           have oR7 := oR6.kept hg7 HN2.out
           clear hg7)
        | ((with_reducible show wpList _ _ _ (Oper.mk _ (Op.call { callee := Callee.builtin Builtin.max, args := _, argTypes := _ }) _ _ _ _ :: _) _ _); refine wpList_run rfl (run_max rfl rfl rfl _) ?_; rw [HMX.out])
        | ((with_reducible show wpList _ _ _ (Oper.mk _ (Op.slice _ _ _ _ _) _ _ _ _ :: _) _ _); refine st_slice T.seens (LP.length + 1 - 5) (LP.length + 1) c6 ?_)
        | ((with_reducible show wpList _ _ _ (Oper.mk _ (Op.store _ _ _) _ _ _ _ :: _) _ _); refine st_store1 (o := 2) oE7 T.seensSize (by simp) ?_; intro w8 oE8 hg8
           have z0 := oE8.cell (j := 0) rfl
           have z1 := oE8.cell (j := 1) rfl
           have z2 := oE8.cell (j := 2) rfl
           have HX8 := Lib.hid (HX7.out.grown hg8 HGW.out)
           have HO8 := Lib.hid (HO7.out.kept hg8 HLO.out (.inr HNG.out))
           have HS8 := Lib.hid (HS7.out.kept hg8 (fun k hk => hk.elim) (.inr (fun e => Nat.not_succ_le_self _ (HS7.out.own _ e).1)))
           have oR8 := oR7.kept hg8 HN2.out
           obtain ⟨g9, c9, C9, e9, hB9, hh9, hl9, hset⟩ := (HO8.out.mono (T := fun k => (S k ∧ k < w.heap.size) ∨ w.heap.size + 3 ≤ k) (fun k _ hk => .inl hk)).setAt HII.out
           cases e9
           have HSET := Lib.hid hset
           have HL9 := Lib.hid hl9
           have HH9 := Lib.hid hh9
           clear hg8 hset hl9 hh9 hB9)
        | ((with_reducible show wpList _ _ _ (Oper.mk _ (Op.store _ _ _) _ _ _ _ :: _) _ _); refine st_store (vs := entCells ⟨b2, b3, []⟩ (.slice (cutA 3 p6 c6 (LP.length + 1 - 5)) (LP.length + 1 - (LP.length + 1 - 5)) (c6 - (LP.length + 1 - 5)))) HH9.out T.entSize (by have h1 := HL9.out; have h2 := HII.out; show i * 3 + 3 ≤ _; omega) (fun u hu => by simp only [entCells, List.mem_cons, List.not_mem_nil, or_false] at hu; rcases hu with rfl | rfl | rfl <;> rfl) ?_; intro w9 hh hg9
           have HG9 := Lib.hid hg9
           have HHN := Lib.hid hh
           have oR9 := oR8.kept hg9 (fun e => by have h4 := Option.some.inj e; have := HBG.out; omega)
           have hfo := oR9.free 0
           have hco := oR9.cell (j := 0) rfl
           have ho10 := oR9.store 0 (.slice (some ⟨g, 0, none⟩) tt.length cg)
           clear hh hg9 oR9))
      refine bodyPost_ret (tab_results rfl _ _ (w.heap.size + 2) _ _ rfl ho10) rfl ?_
      have hLN : lastN LP ⟨b0, b1, b2, b3, b4, rs⟩ = (LP ++ [(⟨b4, b1, b0⟩ : Sn)]).drop (LP.length + 1 - 5) := rfl
      have hen : entP t ⟨b0, b1, b2, b3, b4, rs⟩ = ⟨b2, b3, lastN LP ⟨b0, b1, b2, b3, b4, rs⟩⟩ := by unfold entP; rw [HLPE.out]
      rw [HRUN.out, hen, hLN]
      have hrow := HSET.out w9 (entCells ⟨b2, b3, []⟩ (.slice (cutA 3 p6 c6 (LP.length + 1 - 5)) (LP.length + 1 - (LP.length + 1 - 5)) (c6 - (LP.length + 1 - 5)))) ⟨b2, b3, (LP ++ [(⟨b4, b1, b0⟩ : Sn)]).drop (LP.length + 1 - 5)⟩ rfl (fun u hu => by simp only [entCells, List.mem_cons, List.not_mem_nil, or_false] at hu; rcases hu with rfl | rfl | rfl <;> rfl) HHN.out HG9.out (fun w' kk => ⟨_, rfl, by
        have hw := (SnO.under HS8.out) w' (kk.mono fun k _ hk => by
          have h1 := (HS8.out.own k hk).1
          have h2 := HGE.out
          have h3 := HGL.out
          exact ⟨.inr (by omega), fun e => by have h4 : k = g := Option.some.inj e; omega⟩)
        have h2 := hw.drop (k := LP.length + 1 - 5) (by rw [List.length_append, List.length_singleton]; omega)
        exact h2⟩)
      have hk := hrow.kept (g := some (w.heap.size + 2)) (grown_set w9 ⟨w.heap.size + 2, 0, none⟩ (.slice (some ⟨g, 0, none⟩) tt.length cg)) (fun k hk e => by have h1 := Option.some.inj e; rcases hk with hk | hk <;> omega) (.inr (fun e => by
        have h4 : g = w.heap.size + 2 := Option.some.inj e
        have := HBG.out
        omega))
      refine ⟨_, rfl, (ORow.view hk).mono fun k _ hk => hk.1.elim (fun h => .inl h.1) (fun h => .inr (by omega)), fun k e => by have h1 : g = k := Option.some.inj e; have := HBG.out; omega, ?_⟩
      have h9 : Ext w w9 := HX8.out.grown HG9.out (by have := HBG.out; omega)
      exact h9.store (p := ⟨w.heap.size + 2, 0, none⟩) (by show _ ≤ w.heap.size + 2; omega) _
    case' true =>
      apply wp_region_dag (X := Ext) (by kernel_rfl) (by kernel_rfl) (fun _ _ _ => Ext.trans) (Ext.drew1 _)
      apply dag_val Ext.refl rfl (by intro W hW H; go_simp <;> rfl)
      simp only [Act.put, List.setIfInBounds_toArray, List.set_cons_zero, List.set_cons_succ]
      apply dag_val Ext.refl rfl (by intro W hW H; go_simp <;> rfl)
      simp only [Act.put, List.setIfInBounds_toArray, List.set_cons_zero, List.set_cons_succ]
      apply dag_val Ext.refl rfl (by intro W hW H; have q0 := hW.cell m1'; go_simp <;> rfl)
      simp only [Act.put, List.setIfInBounds_toArray, List.set_cons_zero, List.set_cons_succ]
      apply dag_val Ext.refl rfl (by intro W hW H; go_simp <;> rfl)
      simp only [Act.put, List.setIfInBounds_toArray, List.set_cons_zero, List.set_cons_succ]
      apply dag_val Ext.refl rfl (by intro W hW H; have q0 := hW.cell m1'; go_simp <;> rfl)
      simp only [Act.put, List.setIfInBounds_toArray, List.set_cons_zero, List.set_cons_succ]
      apply dag_val Ext.refl rfl (by intro W hW H; go_simp <;> rfl)
      simp only [Act.put, List.setIfInBounds_toArray, List.set_cons_zero, List.set_cons_succ]
      apply dag_val Ext.refl rfl (by intro W hW H; have q0 := hW.cell d3'; go_simp <;> rfl)
      simp only [Act.put, List.setIfInBounds_toArray, List.set_cons_zero, List.set_cons_succ]
      apply dag_val Ext.refl rfl (by intro W hW H; go_simp <;> rfl)
      simp only [Act.put, List.setIfInBounds_toArray, List.set_cons_zero, List.set_cons_succ]
      refine dag_end fun W hW H => ?_
      have oEW := oE.ext hW
      have HOW := Lib.hid ((HO.out.keep hxB).keep hW)
      have hxW := HXA.out.trans (hxB.trans hW)
      have x0 := hxW.cell d0
      have x1 := hxW.cell d1
      have x4 := hxW.cell d4
      have oRW := o3.ext hxW
      have oBW := o2.ext hxW
      have HXW := Lib.hid (hx0.trans hxW)
      have HSW := Lib.hid (Nat.le_trans (show wA.heap.size + 1 ≤ _ by simp) hW.size)
      have y2 := (hxB.trans hW).cell m2
      have K1 := cloneS_any (R := RSn) (S := fun _ => False) _ l W (sn_any (hsn.ext (hxB.trans hW))) (by have := HTA.out; omega)
      have HLPE : Hid (lastP t ⟨b0, b1, b2, b3, b4, rs⟩ = l) := Lib.hid (by rw [HLQ.out, he]; rfl)
      have HLN : Hid (l.length ≤ 1000) := HTA
      have HMX : Hid (max (0 : Int) ((l.length : Int) + 1 - 5) = ((l.length + 1 - 5 : Nat) : Int)) := Lib.hid (by omega)
      clear hxB oE hW m1' d3' m1 d3 hxW hsn hdm
      go_wp2_with (first
        | (go_at_call 36; refine K1.mono ?_; rintro e w3 ⟨lv3, rfl, ho3, hx3⟩
           obtain ⟨p2, c2, e5, _, _⟩ := ho3.view.slice
           subst e5
           have oE3 := oEW.ext hx3
           have HS3 := Lib.hid (ho3.base HSW.out)
           clear ho3)
        | ((with_reducible show wpList _ _ _ (Oper.mk _ (Op.store _ _ _) _ _ _ _ :: _) _ _); refine st_store1 (o := 2) oE3 T.seensSize (by simp) ?_; intro w4 oE4 hg4
           have x0 := (oBW.ext hx3).kept hg4 HN1.out |>.cell (j := 0) rfl
           have x1 := (oBW.ext hx3).kept hg4 HN1.out |>.cell (j := 1) rfl
           have x4 := (oBW.ext hx3).kept hg4 HN1.out |>.cell (j := 4) rfl
           have HX4 := Lib.hid ((HXW.out.trans hx3).grown hg4 HGW.out)
           have HO4 := Lib.hid ((HOW.out.keep hx3).kept hg4 HLO.out (.inr HNG.out))
           have HS4 := Lib.hid (HS3.out.kept hg4 (fun k hk => hk.elim) (.inr (fun e => Nat.not_succ_le_self _ (HS3.out.own _ e).1)))
           have oR4 := (oRW.ext hx3).kept hg4 HN2.out
           have HG4 := Lib.hid (Nat.le_trans HSW.out (Nat.le_trans hx3.size hg4.size))
           have k2 := oE4.cell (j := 2) rfl
           have hx5 := Ext.alloc w4 (.cells #[.int .i64 b4, .int .i64 b1, .int .i64 b0] 73)
           have hl5 : SRow 3 RSn (fun k => False ∧ some k ≠ (Value.slice p2 l.length c2).ownBlock) (w4.alloc (.cells #[.int .i64 b4, .int .i64 b1, .int .i64 b0] 73)) (.slice (some ⟨w4.heap.size, 0, none⟩) 1 1) [(⟨b4, b1, b0⟩ : Sn)] := sn_lit1 _ _ _ ⟨b4, b1, b0⟩
           have HG5 := Lib.hid (Nat.le_trans HG4.out hx5.size)
           have HNE : Hid (∀ k, k < wA.heap.size + 1 → some k ≠ (Value.slice p2 l.length c2).ownBlock) := Lib.hid (fun k hk e => by have := (HS4.out.own k e.symm).1; omega)
           have HBE : Hid (∀ k, (Value.slice p2 l.length c2).ownBlock = some k → w.heap.size ≤ k) := Lib.hid (fun k e => by have h1 := (HS4.out.own k e).1; have h2 := HGE.out; omega)
           clear hg4)
        | (at_builtin; refine st_items T.seens (HS4.out.keep hx5) hl5 ?_ (by have := HLN.out; simp [maxLen]; omega) (by have := HLN.out; simp; omega) HG5.out; intro v6 w6 ho6 hg6 hw6
           obtain ⟨p6, c6, e6, hc6, _⟩ := ho6.view.slice
           rw [List.length_append, List.length_singleton] at e6 hc6
           subst e6
           have oE6 := (oE4.ext hx5).kept hg6 (HNE.out _ (Nat.le_refl _))
           have HX6 : Hid (Ext w w6) := Lib.hid (Below.grown (HX4.out.trans hx5) hg6 (HX4.out.trans hx5).size HBE.out)
           have HO6 := Lib.hid (ORow.kept (HO4.out.keep hx5) hg6 (fun k hk => HNE.out k (by have := hk.2; have := HGE.out; omega)) (.inr (fun e => HNE.out g (Nat.lt_succ_of_lt HGL.out) e)))
           have oR6 := (oR4.ext hx5).kept hg6 (HNE.out _ (by have := HGE.out; omega))
           have HS6 := Lib.hid ho6
           clear ho6 hg6 hw6 hl5)
        | ((with_reducible show wpList _ _ _ (Oper.mk _ (Op.store _ _ _) _ _ _ _ :: _) _ _); refine st_store1 (o := 2) oE6 T.seensSize (by simp) ?_; intro w7 oE7 hg7
           have k7 := oE7.cell (j := 2) rfl
           have HX7 := Lib.hid (HX6.out.grown hg7 HGW.out)
           have HO7 := Lib.hid (HO6.out.kept hg7 HLO.out (.inr HNG.out))
           have HS7 := Lib.hid (HS6.out.kept hg7 (fun k hk => hk.elim) (.inr (fun e => Nat.not_succ_le_self _ (HS6.out.own _ e).1)))
           have oR7 := oR6.kept hg7 HN2.out
           clear hg7)
        | ((with_reducible show wpList _ _ _ (Oper.mk _ (Op.call { callee := Callee.builtin Builtin.max, args := _, argTypes := _ }) _ _ _ _ :: _) _ _); refine wpList_run rfl (run_max rfl rfl rfl _) ?_; rw [HMX.out])
        | ((with_reducible show wpList _ _ _ (Oper.mk _ (Op.slice _ _ _ _ _) _ _ _ _ :: _) _ _); refine st_slice T.seens (l.length + 1 - 5) (l.length + 1) c6 ?_)
        | ((with_reducible show wpList _ _ _ (Oper.mk _ (Op.store _ _ _) _ _ _ _ :: _) _ _); refine st_store1 (o := 2) oE7 T.seensSize (by simp) ?_; intro w8 oE8 hg8
           have z0 := oE8.cell (j := 0) rfl
           have z1 := oE8.cell (j := 1) rfl
           have z2 := oE8.cell (j := 2) rfl
           have HX8 := Lib.hid (HX7.out.grown hg8 HGW.out)
           have HO8 := Lib.hid (HO7.out.kept hg8 HLO.out (.inr HNG.out))
           have HS8 := Lib.hid (HS7.out.kept hg8 (fun k hk => hk.elim) (.inr (fun e => Nat.not_succ_le_self _ (HS7.out.own _ e).1)))
           have oR8 := oR7.kept hg8 HN2.out
           obtain ⟨g9, c9, C9, e9, hB9, hh9, hl9, hset⟩ := (HO8.out.mono (T := fun k => (S k ∧ k < w.heap.size) ∨ w.heap.size + 3 ≤ k) (fun k _ hk => .inl hk)).setAt HII.out
           cases e9
           have HSET := Lib.hid hset
           have HL9 := Lib.hid hl9
           have HH9 := Lib.hid hh9
           clear hg8 hset hl9 hh9 hB9)
        | ((with_reducible show wpList _ _ _ (Oper.mk _ (Op.store _ _ _) _ _ _ _ :: _) _ _); refine st_store (vs := entCells ⟨b2, b3, []⟩ (.slice (cutA 3 p6 c6 (l.length + 1 - 5)) (l.length + 1 - (l.length + 1 - 5)) (c6 - (l.length + 1 - 5)))) HH9.out T.entSize (by have h1 := HL9.out; have h2 := HII.out; show i * 3 + 3 ≤ _; omega) (fun u hu => by simp only [entCells, List.mem_cons, List.not_mem_nil, or_false] at hu; rcases hu with rfl | rfl | rfl <;> rfl) ?_; intro w9 hh hg9
           have HG9 := Lib.hid hg9
           have HHN := Lib.hid hh
           have oR9 := oR8.kept hg9 (fun e => by have h4 := Option.some.inj e; have := HBG.out; omega)
           have hfo := oR9.free 0
           have hco := oR9.cell (j := 0) rfl
           have ho10 := oR9.store 0 (.slice (some ⟨g, 0, none⟩) tt.length cg)
           clear hh hg9 oR9))
      refine bodyPost_ret (tab_results rfl _ _ (w.heap.size + 2) _ _ rfl ho10) rfl ?_
      have hLN : lastN l ⟨b0, b1, b2, b3, b4, rs⟩ = (l ++ [(⟨b4, b1, b0⟩ : Sn)]).drop (l.length + 1 - 5) := rfl
      have hen : entP t ⟨b0, b1, b2, b3, b4, rs⟩ = ⟨b2, b3, lastN l ⟨b0, b1, b2, b3, b4, rs⟩⟩ := by unfold entP; rw [HLPE.out]
      rw [HRUN.out, hen, hLN]
      have hrow := HSET.out w9 (entCells ⟨b2, b3, []⟩ (.slice (cutA 3 p6 c6 (l.length + 1 - 5)) (l.length + 1 - (l.length + 1 - 5)) (c6 - (l.length + 1 - 5)))) ⟨b2, b3, (l ++ [(⟨b4, b1, b0⟩ : Sn)]).drop (l.length + 1 - 5)⟩ rfl (fun u hu => by simp only [entCells, List.mem_cons, List.not_mem_nil, or_false] at hu; rcases hu with rfl | rfl | rfl <;> rfl) HHN.out HG9.out (fun w' kk => ⟨_, rfl, by
        have hw := (SnO.under HS8.out) w' (kk.mono fun k _ hk => by
          have h1 := (HS8.out.own k hk).1
          have h2 := HGE.out
          have h3 := HGL.out
          exact ⟨.inr (by omega), fun e => by have h4 : k = g := Option.some.inj e; omega⟩)
        have h2 := hw.drop (k := l.length + 1 - 5) (by rw [List.length_append, List.length_singleton]; omega)
        exact h2⟩)
      have hk := hrow.kept (g := some (w.heap.size + 2)) (grown_set w9 ⟨w.heap.size + 2, 0, none⟩ (.slice (some ⟨g, 0, none⟩) tt.length cg)) (fun k hk e => by have h1 := Option.some.inj e; rcases hk with hk | hk <;> omega) (.inr (fun e => by
        have h4 : g = w.heap.size + 2 := Option.some.inj e
        have := HBG.out
        omega))
      refine ⟨_, rfl, (ORow.view hk).mono fun k _ hk => hk.1.elim (fun h => .inl h.1) (fun h => .inr (by omega)), fun k e => by have h1 : g = k := Option.some.inj e; have := HBG.out; omega, ?_⟩
      have h9 : Ext w w9 := HX8.out.grown HG9.out (by have := HBG.out; omega)
      exact h9.store (p := ⟨w.heap.size + 2, 0, none⟩) (by show _ ≤ w.heap.size + 2; omega) _
end Go.Proofs.Ythiaaoiaabocfaa
