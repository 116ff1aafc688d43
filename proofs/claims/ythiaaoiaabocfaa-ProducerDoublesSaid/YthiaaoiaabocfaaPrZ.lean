/- What the document's Put of layer 13 computes. -/
import Derived.Test.YthiaaoiaabocfaaPrX
import Derived.Test.YthiaaoiaabocfaaPrP
import Derived.Test.YthiaaoiaabocfaaInsF
namespace Go.Proofs.Ythiaaoiaabocfaa
open Go.RowKit

theorem T.rseensSize : (Try.prog.info? 46).map (·.size) = some 1 := by kernel_rfl
theorem ent_one (a b : Int) (l : List Sn) (p : Option Addr) {n c : Nat} : ∀ u ∈ entCells ⟨a, b, l⟩ (.slice p n c), u.oneCell' = true := fun u hu => by
  simp only [entCells, List.mem_cons, List.not_mem_nil, or_false] at hu
  rcases hu with rfl | rfl | rfl <;> rfl
theorem three {p : Prop} (is eq : Bool) (A : is = true → eq = true → p) (B : is = true → eq = false → p) (C : is = false → p) : p := by
  cases is
  · exact C rfl
  · cases eq
    · exact B rfl rfl
    · exact A rfl rfl
theorem highP_at {t : List Ent} {id : Int} {j : Nat} (hj : j ≤ t.length) (h1 : ∀ i x, i < j → t[i]? = some x → isHigh id x = false) (h2 : ∀ h : j < t.length, isHigh id t[j] = true) : highP t id = j := by
  unfold highP
  by_cases hlt : j < t.length
  · rw [find_found hlt (h2 hlt) h1]; rfl
  · have : j = t.length := by omega
    subst this
    rw [find_none fun i x hx => h1 i x (List.getElem?_eq_some_iff.1 hx).1 hx]; rfl
set_option maxRecDepth 20000 in
set_option maxHeartbeats 16000000 in
theorem rput_any {S : Nat → Prop} (v : Value) (t : List Ent) (b : Bat) (bp : Option Addr) (bn bc : Nat) (w : World) (h : SRow 3 REnt S w v t) (hl : t.length ≤ 1000) (hf : FewT 1000 t) :
    Calls Try.prog 18 #[.agg #[v], batv b (.slice bp bn bc)] w fun e w' => ∃ v', e = .returned (.agg #[v']) ∧ SRow 3 REnt (fun k => S k ∨ w.heap.size ≤ k) w' v' (putT t b) ∧ (∀ k, v'.ownBlock = some k → v.ownBlock = some k ∨ w.heap.size ≤ k) ∧ Ext w w' := by
  obtain ⟨b0, b1, b2, b3, b4, rs⟩ := b
  obtain ⟨q, c, rfl, hn, hc⟩ := h.slice
  obtain ⟨o1, o2, o3, hx0, hsz⟩ := objs3 w 24 27 24 [.slice q t.length c] [.int .i64 b0, .int .i64 b1, .int .i64 b2, .int .i64 b3, .int .i64 b4, .slice bp bn bc] [.slice none 0 0]
  have c1 := o1.cell (j := 0) rfl
  have d0 := o2.cell (j := 0) rfl
  have d1 := o2.cell (j := 1) rfl
  have d2 := o2.cell (j := 2) rfl
  have d3 := o2.cell (j := 3) rfl
  have d4 := o2.cell (j := 4) rfl
  have HSZ := Lib.hid hsz
  have HL := Lib.hid hl
  have HF := Lib.hid hf
  clear hsz hf hl o1 o2
  by_cases hp : b2 = 0
  case pos =>
    subst hp
    have hput : putT t ⟨b0, b1, 0, b3, b4, rs⟩ = t := by unfold putT; rw [if_pos rfl]
    rw [hput]
    obtain ⟨_, _, ho6, hx6, _⟩ := objs3 w 24 27 24 [.slice q t.length c] [.int .i64 b0, .int .i64 b1, .int .i64 0, .int .i64 b3, .int .i64 b4, .slice bp bn bc] [.slice q t.length c]
    clear hput
    go_enter Try.func18, Try.ntmps18
    go_wp2_with fail
    refine bodyPost_ret (rtab_results rfl _ _ (w.heap.size + 2) _ _ rfl ho6) rfl ?_
    exact ⟨_, rfl, (h.ext hx6).mono fun k _ hk => .inl hk, fun k e => .inl e, hx6⟩
  have hpe : (b2 == 0) = false := by simp [hp]
  have F1 := rfind_any _ t b2 _ ((TabV.any h).ext hx0)
  have HH : Hid (SRow 3 REnt (fun k => S k ∧ k < w.heap.size) _ (.slice q t.length c) t) := Lib.hid ((h.mono (T := fun k => S k ∧ k < w.heap.size) fun k hk hs => ⟨hs, hk⟩).ext hx0)
  have HST := Lib.hid hn
  have HX0 := Lib.hid hx0
  have HMC := Lib.hid hc
  clear hn hc h hx0
  have hfe : (findE t b2).1.last.length ≤ 1000 := by
    cases hfi : t.findIdx? (isId b2) with
    | none => rw [(findE_none hfi).1]; simp [ent0]
    | some j => obtain ⟨hj, e, _⟩ := findE_some hfi; rw [e]; exact HF.out _ (List.getElem_mem hj)
  have hres : (∃ i, ∃ _ : i < t.length, (findE t b2).2 = true ∧ placeF (isId b2) t = (i : Int) ∧ putT t ⟨b0, b1, b2, b3, b4, rs⟩ = t.set i (entP t ⟨b0, b1, b2, b3, b4, rs⟩)) ∨ ((findE t b2).2 = false ∧ putT t ⟨b0, b1, b2, b3, b4, rs⟩ = t.take (highP t b2) ++ entP t ⟨b0, b1, b2, b3, b4, rs⟩ :: t.drop (highP t b2)) := by
    cases hfi : t.findIdx? (isId b2) with
    | none => exact .inr ⟨by rw [(findE_none hfi).1], putT_none (b := ⟨b0, b1, b2, b3, b4, rs⟩) hp hfi⟩
    | some j => obtain ⟨hj, e, e2⟩ := findE_some hfi; exact .inl ⟨j, hj, by rw [e], e2, putT_some (b := ⟨b0, b1, b2, b3, b4, rs⟩) hp hfi⟩
  have hlp : lastP t ⟨b0, b1, b2, b3, b4, rs⟩ = if ((findE t b2).2 && (findE t b2).1.epoch == b3) = true then (findE t b2).1.last else [] := rfl
  generalize findE t b2 = fe at *
  obtain ⟨⟨e0, e1, l⟩, is⟩ := fe
  simp only at hfe hres hlp F1
  have HRES := Lib.hid hres
  have HLPQ := Lib.hid hlp
  have HFE := Lib.hid hfe
  clear hp hres hlp hfe
  have HLE : Hid (∀ LP : List Sn, LP = [] ∨ LP = l → LP.length ≤ 1000) := Lib.hid (fun LP h => by rcases h with rfl | rfl; simp; exact HFE.out)
  refine three is (e1 == b3) ?A ?B ?C
  case A =>
    intro his he
    subst his
    have hidx : ∃ i, ∃ _ : i < t.length, placeF (isId b2) t = (i : Int) ∧ putT t ⟨b0, b1, b2, b3, b4, rs⟩ = t.set i (entP t ⟨b0, b1, b2, b3, b4, rs⟩) := by
      rcases HRES.out with ⟨i, hi, _, h1, h2⟩ | ⟨h1, _⟩
      · exact ⟨i, hi, h1, h2⟩
      · cases h1
    obtain ⟨i, hi, hpl, hput⟩ := hidx
    have HPUT := Lib.hid hput
    have HPL := Lib.hid hpl
    have HII := Lib.hid hi
    clear hput hpl
    obtain ⟨LP, HLPN⟩ : ∃ LP : List Sn, Hid (LP = l) := ⟨l, Lib.hid rfl⟩
    have HLPE : Hid (lastP t ⟨b0, b1, b2, b3, b4, rs⟩ = LP) := Lib.hid (by rw [HLPQ.out]; rw [HLPN.out, he]; rfl)
    have hln : l.length ≤ 1000 := HFE.out
    have HLN := Lib.hid hln
    obtain ⟨n5, HKK⟩ : ∃ n5, Hid (l.length + 1 - 5 = n5) := ⟨_, Lib.hid rfl⟩
    have hkl : n5 ≤ l.length + 1 := by have := HKK.out; omega
    have HMX : Hid (max (0 : Int) ((l.length : Int) + 1 - 5) = (n5 : Int)) := Lib.hid (by have := HKK.out; omega)
    rw [HLPN.out] at HLPE
    go_enter Try.func18, Try.ntmps18
    go_wp2_with (first
      | (go_at_call 15; refine F1.mono ?_; rintro e w1 ⟨v1, rfl, hs1, hx1⟩
         obtain ⟨p1, c1', e5, _, hcm⟩ := hs1.slice
         subst e5
         unfold maxLen at hcm
         have hx2 := Ext.alloc w1 (.cells #[.int .i64 e0, .int .i64 e1, .slice p1 l.length c1'] 48)
         have o4 : ObjAt (w1.alloc (.cells #[.int .i64 e0, .int .i64 e1, .slice p1 l.length c1'] 48)) w1.heap.size 48 [.int .i64 e0, .int .i64 e1, .slice p1 l.length c1'] := heap_alloc_new w1 _
         have k1 := o4.cell (j := 1) rfl
         have k2 := o4.cell (j := 2) rfl
         have hxa := hx1.trans hx2
         have y0 := hxa.cell d0
         have y1 := hxa.cell d1
         have y2 := hxa.cell d2
         have y3 := hxa.cell d3
         have y4 := hxa.cell d4
         have HSA := Lib.hid (sn_any (T := fun k => False ∧ some k ≠ (Value.slice none 0 0).ownBlock) (hs1.ext hx2))
         have HXA := Lib.hid hxa
         have HX1 : Hid (w.heap.size + 3 ≤ w1.heap.size) := Lib.hid (by have h1 := HSZ.out; have h2 := hx1.size; omega)
         have HSW : Hid ((w1.alloc (.cells #[.int .i64 e0, .int .i64 e1, .slice p1 l.length c1'] 48)).heap.size = w1.heap.size + 1) := Lib.hid (by simp)
         clear hx2 o4 hxa hs1)
      | (at_builtin; refine st_items (S := fun _ => False) (B := w1.heap.size + 1) (xs := ([] : List Sn)) T.rseens (ORow.nil _ _ _) HSA.out ?_ (by have := HFE.out; simp [maxLen]; omega) (by have := HFE.out; simp; omega) (by rw [HSW.out]; exact Nat.le_refl _); intro v4 w4 ho4 hg4 hw4
         rw [List.nil_append] at ho4
         obtain ⟨p2, c2, e5, _, _⟩ := ho4.view.slice
         subst e5
         have hx4 : Ext (w1.alloc (.cells #[.int .i64 e0, .int .i64 e1, .slice p1 l.length c1'] 48)) w4 := (Below.refl _ _).grown hg4 (Nat.le_refl _) (fun _ h => by cases h)
         have HX4 := Lib.hid (HXA.out.trans hx4)
         have HS4 := Lib.hid ho4
         have HB4 : Hid (w1.heap.size + 1 ≤ w4.heap.size) := Lib.hid (by have := hx4.size; rw [HSW.out] at this; exact this)
         have y0 := hx4.cell y0
         have y1 := hx4.cell y1
         have y4 := hx4.cell y4
         have hx5 := Ext.alloc w4 (.cells #[.int .i64 b4, .int .i64 b1, .int .i64 b0] 68)
         have hl5 : SRow 3 RSn (fun k => False ∧ some k ≠ (Value.slice p2 l.length c2).ownBlock) (w4.alloc (.cells #[.int .i64 b4, .int .i64 b1, .int .i64 b0] 68)) (.slice (some ⟨w4.heap.size, 0, none⟩) 1 1) [(⟨b4, b1, b0⟩ : Sn)] := sn_lit1 _ _ _ ⟨b4, b1, b0⟩
         have HG5 : Hid (w1.heap.size + 1 ≤ (w4.alloc (.cells #[.int .i64 b4, .int .i64 b1, .int .i64 b0] 68)).heap.size) := Lib.hid (Nat.le_trans HB4.out hx5.size)
         clear ho4 hg4 hw4 hx4)
      | (at_builtin; refine st_items T.rseens (HS4.out.keep hx5) hl5 ?_ (by have := HLN.out; simp [maxLen]; omega) (by have := HLN.out; simp; omega) HG5.out; intro v6 w6 ho6 hg6 hw6
         obtain ⟨p6, c6, e6, hc6, _⟩ := ho6.view.slice
         rw [List.length_append, List.length_singleton] at e6 hc6
         subst e6
         have HX6 : Hid (Ext _ w6) := Lib.hid (Below.grown (HX4.out.trans hx5) hg6 (HX4.out.trans hx5).size (fun k e => by have h1 := (HS4.out.own k e).1; have h2 := HX1.out; have h3 := HSZ.out; omega))
         have z2 := HX6.out.cell d2
         have z3 := HX6.out.cell d3
         have HS6 := Lib.hid ho6
         clear ho6 hg6 hw6 hl5 hx5)
      | ((with_reducible show wpList _ _ _ (Oper.mk _ (Op.call { callee := Callee.builtin Builtin.max, args := _, argTypes := _ }) _ _ _ _ :: _) _ _); refine wpList_run rfl (run_max rfl rfl rfl _) ?_; rw [HMX.out])
      | ((with_reducible show wpList _ _ _ (Oper.mk _ (Op.slice _ _ _ _ _) _ _ _ _ :: _) _ _); refine st_slice T.rseens n5 (l.length + 1) c6 ?_
         have hx7 := Ext.alloc w6 (.cells #[.int .i64 b2, .int .i64 b3, .slice (cutA 3 p6 c6 n5) (l.length + 1 - n5) (c6 - n5)] 48)
         have o7 : ObjAt (w6.alloc (.cells #[.int .i64 b2, .int .i64 b3, .slice (cutA 3 p6 c6 n5) (l.length + 1 - n5) (c6 - n5)] 48)) w6.heap.size 48 [.int .i64 b2, .int .i64 b3, .slice (cutA 3 p6 c6 n5) (l.length + 1 - n5) (c6 - n5)] := heap_alloc_new w6 _
         have HX7 := Lib.hid (HX6.out.trans hx7)
         have r1 := HX7.out.cell c1
         have hr7 := HH.out.ext HX7.out
         have HSX := Lib.hid hx7
         clear hx7)
      | (at_builtin; refine st_items (S := fun k => S k ∧ k < w.heap.size) (B := w.heap.size + 3) (xs := ([] : List Ent)) T.rents (ORow.nil _ _ _) (hr7.mono (fun k _ hk => ⟨hk, fun e => by cases e⟩)) ?_ (by have := HL.out; simp [maxLen]; omega) (by have := HL.out; simp; omega) (by have h1 := HX7.out.size; have h2 := HSZ.out; omega); intro v8 w8 ho8 hg8 hw8
         rw [List.nil_append] at ho8
         have hx8 : Ext _ w8 := (Below.refl _ _).grown hg8 (Nat.le_refl _) (fun _ h => by cases h)
         have HO8 := Lib.hid ho8
         have HX8 := Lib.hid (HX7.out.trans hx8)
         have o8 := o7.ext hx8
         have r1' := HX8.out.cell c1
         have r2 := HX8.out.cell d2
         have HSY := Lib.hid (HSX.out.trans hx8)
         have HNG : Hid (∀ k, v8.ownBlock = some k → w6.heap.size ≤ k) := Lib.hid (by
           rcases hw8 with h | h
           · intro k e; rw [h] at e; cases e
           · intro k e; rw [h] at e; have e2 := Option.some.inj e; have e3 := HSX.out.size; omega)
         clear ho8 hg8 hw8 hr7 hx8))
    obtain ⟨g, cg, C0, e9, hBg, _, _, _⟩ := HO8.out.setAt HII.out
    subst e9
    have hii : (i : Int) < (t.length : Int) := by have := HII.out; omega
    have x0 := o8.cell (j := 0) rfl
    have x1 := o8.cell (j := 1) rfl
    have x2 := o8.cell (j := 2) rfl
    have R1 := fun W hW => rplace_any (.slice q t.length c) t b2 W hW
    rw [HPL.out] at R1
    have HBG := Lib.hid hBg
    clear hBg
    apply wp_region_dag_tail 7 (X := Ext) (by kernel_rfl) (by kernel_rfl) (by kernel_rfl) (by decide) (fun _ _ _ => Ext.trans) (Ext.drew1 _)
    simp only [List.take_succ_cons, List.take_zero, List.drop_succ_cons, List.drop_zero]
    apply dag_val Ext.refl rfl (by intro W hW H; go_simp <;> rfl)
    simp only [Act.put, List.setIfInBounds_toArray, List.set_cons_zero, List.set_cons_succ]
    apply dag_val Ext.refl rfl (by intro W hW H; have q0 := hW.cell r1'; go_simp <;> rfl)
    simp only [Act.put, List.setIfInBounds_toArray, List.set_cons_zero, List.set_cons_succ]
    apply dag_val Ext.refl rfl (by intro W hW H; go_simp <;> rfl)
    simp only [Act.put, List.setIfInBounds_toArray, List.set_cons_zero, List.set_cons_succ]
    apply dag_val Ext.refl rfl (by intro W hW H; have q0 := hW.cell r2; go_simp <;> rfl)
    simp only [Act.put, List.setIfInBounds_toArray, List.set_cons_zero, List.set_cons_succ]
    refine' dag_call rfl (by intro W; go_simp <;> rfl) (fun W hW H => R1 W (TabV.any ((HH.out.ext HX8.out).ext hW))) _
    rotate_left
    simp only [Act.put, List.setIfInBounds_toArray, List.set_cons_zero, List.set_cons_succ]
    apply dag_val Ext.refl rfl (by intro W hW H; have q0 := hW.cell x0; have q1 := hW.cell x1; have q2 := hW.cell x2; go_simp <;> rfl)
    simp only [Act.put, List.setIfInBounds_toArray, List.set_cons_zero, List.set_cons_succ]
    apply dag_val Ext.refl rfl (by intro W hW H; go_simp <;> rfl)
    simp only [Act.put, List.setIfInBounds_toArray, List.set_cons_zero, List.set_cons_succ]
    refine dag_end fun W hW H => ?_
    clear H
    obtain ⟨g9, c9, C9, e9, _, hh9, hl9, hset⟩ := ((HO8.out.keep hW).mono (T := fun k => (S k ∧ k < w.heap.size) ∨ w.heap.size + 3 ≤ k) (fun k _ hk => .inl hk)).setAt HII.out
    have e91 : g = g9 := Option.some.inj (congrArg Value.ownBlock e9)
    subst e91
    clear e9
    have HSET := Lib.hid hset
    have HSW8 := (HS6.out.keep HSY.out).keep hW
    have HS8 := Lib.hid HSW8
    have oRW := o3.ext (HX8.out.trans hW)
    have HXW := Lib.hid ((HX0.out.trans HX8.out).trans hW)
    clear hset
    go_wp2_with ((with_reducible show wpList _ _ _ (Oper.mk _ (Op.store _ _ _) _ _ _ _ :: _) _ _); refine st_store (vs := entCells ⟨b2, b3, []⟩ (.slice (cutA 3 p6 c6 n5) (l.length + 1 - n5) (c6 - n5))) hh9 T.rentSize (by have h2 := HII.out; show i * 3 + 3 ≤ _; omega) (fun u hu => by simp only [entCells, List.mem_cons, List.not_mem_nil, or_false] at hu; rcases hu with rfl | rfl | rfl <;> rfl) ?_; intro w9 hh hg9
                 have HG9 := Lib.hid hg9
                 have HHN := Lib.hid hh
                 have oR9 := oRW.kept hg9 (fun e => by have h4 := Option.some.inj e; have := HBG.out; omega)
                 have hfo := oR9.free 0
                 have hco := oR9.cell (j := 0) rfl
                 have ho10 := oR9.store 0 (.slice (some ⟨g, 0, none⟩) t.length cg)
                 clear hh hg9 oR9)
    refine bodyPost_ret (rtab_results rfl _ _ (w.heap.size + 2) _ _ rfl ho10) rfl ?_
    have hLN : lastN l ⟨b0, b1, b2, b3, b4, rs⟩ = (l ++ [(⟨b4, b1, b0⟩ : Sn)]).drop n5 := by rw [← HKK.out]; rfl
    have hen : entP t ⟨b0, b1, b2, b3, b4, rs⟩ = ⟨b2, b3, lastN l ⟨b0, b1, b2, b3, b4, rs⟩⟩ := by unfold entP; rw [HLPE.out]
    rw [HPUT.out, hen, hLN]
    have hrow := HSET.out w9 (entCells ⟨b2, b3, []⟩ (.slice (cutA 3 p6 c6 n5) (l.length + 1 - n5) (c6 - n5))) ⟨b2, b3, (l ++ [(⟨b4, b1, b0⟩ : Sn)]).drop n5⟩ rfl (fun u hu => by simp only [entCells, List.mem_cons, List.not_mem_nil, or_false] at hu; rcases hu with rfl | rfl | rfl <;> rfl) HHN.out HG9.out (fun w' kq => ⟨_, rfl, by
      have HSW8 := HS8.out
      have hw := (SnO.under HSW8) w' (kq.mono fun k hk0 hk => by
        have h1 := (HSW8.own k hk).1
        have h2 := HX1.out
        refine ⟨.inr (by omega), fun e => ?_⟩
        have h4 : k = g := Option.some.inj e
        have h5 := (HS6.out.own k hk).2
        have h6 := HNG.out g rfl
        omega)
      have h2 := hw.drop (k := n5) (by rw [List.length_append, List.length_singleton]; omega)
      exact h2⟩)
    have hk := hrow.kept (g := some (w.heap.size + 2)) (grown_set w9 ⟨w.heap.size + 2, 0, none⟩ (.slice (some ⟨g, 0, none⟩) t.length cg)) (fun k hk e => by have h1 := Option.some.inj e; rcases hk with hk | hk <;> omega) (.inr (fun e => by
      have h4 : g = w.heap.size + 2 := Option.some.inj e
      have := HBG.out
      omega))
    refine ⟨_, rfl, (ORow.view hk).mono fun k _ hk => hk.1.elim (fun h => .inl h.1) (fun h => .inr (by omega)), fun k e => .inr (by have h1 : g = k := Option.some.inj e; have := HBG.out; omega), ?_⟩
    have h9 : Ext w w9 := HXW.out.grown HG9.out (by have := HBG.out; omega)
    exact h9.store (p := ⟨w.heap.size + 2, 0, none⟩) (by show _ ≤ w.heap.size + 2; omega) _
  case B =>
    intro his he
    subst his
    have hidx : ∃ i, ∃ _ : i < t.length, placeF (isId b2) t = (i : Int) ∧ putT t ⟨b0, b1, b2, b3, b4, rs⟩ = t.set i (entP t ⟨b0, b1, b2, b3, b4, rs⟩) := by
      rcases HRES.out with ⟨i, hi, _, h1, h2⟩ | ⟨h1, _⟩
      · exact ⟨i, hi, h1, h2⟩
      · cases h1
    obtain ⟨i, hi, hpl, hput⟩ := hidx
    have HPUT := Lib.hid hput
    have HPL := Lib.hid hpl
    have HII := Lib.hid hi
    clear hput hpl
    obtain ⟨LP, HLPN⟩ : ∃ LP : List Sn, Hid (LP = []) := ⟨[], Lib.hid rfl⟩
    have HLPE : Hid (lastP t ⟨b0, b1, b2, b3, b4, rs⟩ = LP) := Lib.hid (by rw [HLPQ.out]; rw [HLPN.out, he]; rfl)
    have hln : LP.length ≤ 1000 := HLE.out LP (.inl HLPN.out)
    have HLN := Lib.hid hln
    obtain ⟨n5, HKK⟩ : ∃ n5, Hid (LP.length + 1 - 5 = n5) := ⟨_, Lib.hid rfl⟩
    have hkl : n5 ≤ LP.length + 1 := by have := HKK.out; omega
    have HMX : Hid (max (0 : Int) ((LP.length : Int) + 1 - 5) = (n5 : Int)) := Lib.hid (by have := HKK.out; omega)
    go_enter Try.func18, Try.ntmps18
    go_wp2_with (first
      | (go_at_call 15; refine F1.mono ?_; rintro e w1 ⟨v1, rfl, hs1, hx1⟩
         obtain ⟨p1, c1', e5, _, hcm⟩ := hs1.slice
         subst e5
         unfold maxLen at hcm
         have hx2 := Ext.alloc w1 (.cells #[.int .i64 e0, .int .i64 e1, .slice p1 l.length c1'] 48)
         have o4 : ObjAt (w1.alloc (.cells #[.int .i64 e0, .int .i64 e1, .slice p1 l.length c1'] 48)) w1.heap.size 48 [.int .i64 e0, .int .i64 e1, .slice p1 l.length c1'] := heap_alloc_new w1 _
         have k1 := o4.cell (j := 1) rfl
         have k2 := o4.cell (j := 2) rfl
         have hxa := hx1.trans hx2
         have y0 := hxa.cell d0
         have y1 := hxa.cell d1
         have y2 := hxa.cell d2
         have y3 := hxa.cell d3
         have y4 := hxa.cell d4
         have HSA := Lib.hid (sn_any (T := fun k => False ∧ some k ≠ (Value.slice none 0 0).ownBlock) (hs1.ext hx2))
         have HXA := Lib.hid hxa
         have HX1 : Hid (w.heap.size + 3 ≤ w1.heap.size) := Lib.hid (by have h1 := HSZ.out; have h2 := hx1.size; omega)
         have HSW : Hid ((w1.alloc (.cells #[.int .i64 e0, .int .i64 e1, .slice p1 l.length c1'] 48)).heap.size = w1.heap.size + 1) := Lib.hid (by simp)
         have HS4 : Hid (SnO 68 (w1.alloc (.cells #[.int .i64 e0, .int .i64 e1, .slice p1 l.length c1'] 48)) (w1.heap.size + 1) (.slice none 0 0) LP) := Lib.hid (by rw [HLPN.out]; exact ORow.nil _ _ _)
         have HX4 := HXA
         have HB4 : Hid (w1.heap.size + 1 ≤ (w1.alloc (.cells #[.int .i64 e0, .int .i64 e1, .slice p1 l.length c1'] 48)).heap.size) := Lib.hid (by rw [HSW.out]; exact Nat.le_refl _)
         have hx5 := Ext.alloc (w1.alloc (.cells #[.int .i64 e0, .int .i64 e1, .slice p1 l.length c1'] 48)) (.cells #[.int .i64 b4, .int .i64 b1, .int .i64 b0] 68)
         have hl5 : SRow 3 RSn (fun k => False ∧ some k ≠ (Value.slice none 0 0).ownBlock) ((w1.alloc (.cells #[.int .i64 e0, .int .i64 e1, .slice p1 l.length c1'] 48)).alloc (.cells #[.int .i64 b4, .int .i64 b1, .int .i64 b0] 68)) (.slice (some ⟨w1.heap.size + 1, 0, none⟩) 1 1) [(⟨b4, b1, b0⟩ : Sn)] := by
           have := sn_lit1 68 (fun k => False ∧ some k ≠ (Value.slice none 0 0).ownBlock) (w1.alloc (.cells #[.int .i64 e0, .int .i64 e1, .slice p1 l.length c1'] 48)) ⟨b4, b1, b0⟩
           rw [HSW.out] at this
           exact this
         have HG5 : Hid (w1.heap.size + 1 ≤ ((w1.alloc (.cells #[.int .i64 e0, .int .i64 e1, .slice p1 l.length c1'] 48)).alloc (.cells #[.int .i64 b4, .int .i64 b1, .int .i64 b0] 68)).heap.size) := Lib.hid (Nat.le_trans HB4.out hx5.size)
         clear hx2 o4 hxa hs1)
      | (at_builtin; refine st_items T.rseens (HS4.out.keep hx5) hl5 ?_ (by have := HLN.out; simp [maxLen]; omega) (by have := HLN.out; simp; omega) HG5.out; intro v6 w6 ho6 hg6 hw6
         obtain ⟨p6, c6, e6, hc6, _⟩ := ho6.view.slice
         rw [List.length_append, List.length_singleton] at e6 hc6
         subst e6
         have HX6 : Hid (Ext _ w6) := Lib.hid (Below.grown (HX4.out.trans hx5) hg6 (HX4.out.trans hx5).size (fun k e => by have h1 := (HS4.out.own k e).1; have h2 := HX1.out; have h3 := HSZ.out; omega))
         have z2 := HX6.out.cell d2
         have z3 := HX6.out.cell d3
         have HS6 := Lib.hid ho6
         clear ho6 hg6 hw6 hl5 hx5)
      | ((with_reducible show wpList _ _ _ (Oper.mk _ (Op.call { callee := Callee.builtin Builtin.max, args := _, argTypes := _ }) _ _ _ _ :: _) _ _); refine wpList_run rfl (run_max rfl rfl rfl _) ?_; rw [HMX.out])
      | ((with_reducible show wpList _ _ _ (Oper.mk _ (Op.slice _ _ _ _ _) _ _ _ _ :: _) _ _); refine st_slice T.rseens n5 (LP.length + 1) c6 ?_
         have hx7 := Ext.alloc w6 (.cells #[.int .i64 b2, .int .i64 b3, .slice (cutA 3 p6 c6 n5) (LP.length + 1 - n5) (c6 - n5)] 48)
         have o7 : ObjAt (w6.alloc (.cells #[.int .i64 b2, .int .i64 b3, .slice (cutA 3 p6 c6 n5) (LP.length + 1 - n5) (c6 - n5)] 48)) w6.heap.size 48 [.int .i64 b2, .int .i64 b3, .slice (cutA 3 p6 c6 n5) (LP.length + 1 - n5) (c6 - n5)] := heap_alloc_new w6 _
         have HX7 := Lib.hid (HX6.out.trans hx7)
         have r1 := HX7.out.cell c1
         have hr7 := HH.out.ext HX7.out
         have HSX := Lib.hid hx7
         clear hx7)
      | (at_builtin; refine st_items (S := fun k => S k ∧ k < w.heap.size) (B := w.heap.size + 3) (xs := ([] : List Ent)) T.rents (ORow.nil _ _ _) (hr7.mono (fun k _ hk => ⟨hk, fun e => by cases e⟩)) ?_ (by have := HL.out; simp [maxLen]; omega) (by have := HL.out; simp; omega) (by have h1 := HX7.out.size; have h2 := HSZ.out; omega); intro v8 w8 ho8 hg8 hw8
         rw [List.nil_append] at ho8
         have hx8 : Ext _ w8 := (Below.refl _ _).grown hg8 (Nat.le_refl _) (fun _ h => by cases h)
         have HO8 := Lib.hid ho8
         have HX8 := Lib.hid (HX7.out.trans hx8)
         have o8 := o7.ext hx8
         have r1' := HX8.out.cell c1
         have r2 := HX8.out.cell d2
         have HSY := Lib.hid (HSX.out.trans hx8)
         have HNG : Hid (∀ k, v8.ownBlock = some k → w6.heap.size ≤ k) := Lib.hid (by
           rcases hw8 with h | h
           · intro k e; rw [h] at e; cases e
           · intro k e; rw [h] at e; have e2 := Option.some.inj e; have e3 := HSX.out.size; omega)
         clear ho8 hg8 hw8 hr7 hx8))
    obtain ⟨g, cg, C0, e9, hBg, _, _, _⟩ := HO8.out.setAt HII.out
    subst e9
    have hii : (i : Int) < (t.length : Int) := by have := HII.out; omega
    have x0 := o8.cell (j := 0) rfl
    have x1 := o8.cell (j := 1) rfl
    have x2 := o8.cell (j := 2) rfl
    have R1 := fun W hW => rplace_any (.slice q t.length c) t b2 W hW
    rw [HPL.out] at R1
    have HBG := Lib.hid hBg
    clear hBg
    apply wp_region_dag_tail 7 (X := Ext) (by kernel_rfl) (by kernel_rfl) (by kernel_rfl) (by decide) (fun _ _ _ => Ext.trans) (Ext.drew1 _)
    simp only [List.take_succ_cons, List.take_zero, List.drop_succ_cons, List.drop_zero]
    apply dag_val Ext.refl rfl (by intro W hW H; go_simp <;> rfl)
    simp only [Act.put, List.setIfInBounds_toArray, List.set_cons_zero, List.set_cons_succ]
    apply dag_val Ext.refl rfl (by intro W hW H; have q0 := hW.cell r1'; go_simp <;> rfl)
    simp only [Act.put, List.setIfInBounds_toArray, List.set_cons_zero, List.set_cons_succ]
    apply dag_val Ext.refl rfl (by intro W hW H; go_simp <;> rfl)
    simp only [Act.put, List.setIfInBounds_toArray, List.set_cons_zero, List.set_cons_succ]
    apply dag_val Ext.refl rfl (by intro W hW H; have q0 := hW.cell r2; go_simp <;> rfl)
    simp only [Act.put, List.setIfInBounds_toArray, List.set_cons_zero, List.set_cons_succ]
    refine' dag_call rfl (by intro W; go_simp <;> rfl) (fun W hW H => R1 W (TabV.any ((HH.out.ext HX8.out).ext hW))) _
    rotate_left
    simp only [Act.put, List.setIfInBounds_toArray, List.set_cons_zero, List.set_cons_succ]
    apply dag_val Ext.refl rfl (by intro W hW H; have q0 := hW.cell x0; have q1 := hW.cell x1; have q2 := hW.cell x2; go_simp <;> rfl)
    simp only [Act.put, List.setIfInBounds_toArray, List.set_cons_zero, List.set_cons_succ]
    apply dag_val Ext.refl rfl (by intro W hW H; go_simp <;> rfl)
    simp only [Act.put, List.setIfInBounds_toArray, List.set_cons_zero, List.set_cons_succ]
    refine dag_end fun W hW H => ?_
    clear H
    obtain ⟨g9, c9, C9, e9, _, hh9, hl9, hset⟩ := ((HO8.out.keep hW).mono (T := fun k => (S k ∧ k < w.heap.size) ∨ w.heap.size + 3 ≤ k) (fun k _ hk => .inl hk)).setAt HII.out
    have e91 : g = g9 := Option.some.inj (congrArg Value.ownBlock e9)
    subst e91
    clear e9
    have HSET := Lib.hid hset
    have HSW8 := (HS6.out.keep HSY.out).keep hW
    have HS8 := Lib.hid HSW8
    have oRW := o3.ext (HX8.out.trans hW)
    have HXW := Lib.hid ((HX0.out.trans HX8.out).trans hW)
    clear hset
    go_wp2_with ((with_reducible show wpList _ _ _ (Oper.mk _ (Op.store _ _ _) _ _ _ _ :: _) _ _); refine st_store (vs := entCells ⟨b2, b3, []⟩ (.slice (cutA 3 p6 c6 n5) (LP.length + 1 - n5) (c6 - n5))) hh9 T.rentSize (by have h2 := HII.out; show i * 3 + 3 ≤ _; omega) (fun u hu => by simp only [entCells, List.mem_cons, List.not_mem_nil, or_false] at hu; rcases hu with rfl | rfl | rfl <;> rfl) ?_; intro w9 hh hg9
                 have HG9 := Lib.hid hg9
                 have HHN := Lib.hid hh
                 have oR9 := oRW.kept hg9 (fun e => by have h4 := Option.some.inj e; have := HBG.out; omega)
                 have hfo := oR9.free 0
                 have hco := oR9.cell (j := 0) rfl
                 have ho10 := oR9.store 0 (.slice (some ⟨g, 0, none⟩) t.length cg)
                 clear hh hg9 oR9)
    refine bodyPost_ret (rtab_results rfl _ _ (w.heap.size + 2) _ _ rfl ho10) rfl ?_
    have hLN : lastN LP ⟨b0, b1, b2, b3, b4, rs⟩ = (LP ++ [(⟨b4, b1, b0⟩ : Sn)]).drop n5 := by rw [← HKK.out]; rfl
    have hen : entP t ⟨b0, b1, b2, b3, b4, rs⟩ = ⟨b2, b3, lastN LP ⟨b0, b1, b2, b3, b4, rs⟩⟩ := by unfold entP; rw [HLPE.out]
    rw [HPUT.out, hen, hLN]
    have hrow := HSET.out w9 (entCells ⟨b2, b3, []⟩ (.slice (cutA 3 p6 c6 n5) (LP.length + 1 - n5) (c6 - n5))) ⟨b2, b3, (LP ++ [(⟨b4, b1, b0⟩ : Sn)]).drop n5⟩ rfl (fun u hu => by simp only [entCells, List.mem_cons, List.not_mem_nil, or_false] at hu; rcases hu with rfl | rfl | rfl <;> rfl) HHN.out HG9.out (fun w' kq => ⟨_, rfl, by
      have HSW8 := HS8.out
      have hw := (SnO.under HSW8) w' (kq.mono fun k hk0 hk => by
        have h1 := (HSW8.own k hk).1
        have h2 := HX1.out
        refine ⟨.inr (by omega), fun e => ?_⟩
        have h4 : k = g := Option.some.inj e
        have h5 := (HS6.out.own k hk).2
        have h6 := HNG.out g rfl
        omega)
      have h2 := hw.drop (k := n5) (by rw [List.length_append, List.length_singleton]; omega)
      exact h2⟩)
    have hk := hrow.kept (g := some (w.heap.size + 2)) (grown_set w9 ⟨w.heap.size + 2, 0, none⟩ (.slice (some ⟨g, 0, none⟩) t.length cg)) (fun k hk e => by have h1 := Option.some.inj e; rcases hk with hk | hk <;> omega) (.inr (fun e => by
      have h4 : g = w.heap.size + 2 := Option.some.inj e
      have := HBG.out
      omega))
    refine ⟨_, rfl, (ORow.view hk).mono fun k _ hk => hk.1.elim (fun h => .inl h.1) (fun h => .inr (by omega)), fun k e => .inr (by have h1 : g = k := Option.some.inj e; have := HBG.out; omega), ?_⟩
    have h9 : Ext w w9 := HXW.out.grown HG9.out (by have := HBG.out; omega)
    exact h9.store (p := ⟨w.heap.size + 2, 0, none⟩) (by show _ ≤ w.heap.size + 2; omega) _
  case C =>
    intro his
    subst his
    have HPUT : Hid (putT t ⟨b0, b1, b2, b3, b4, rs⟩ = t.take (highP t b2) ++ entP t ⟨b0, b1, b2, b3, b4, rs⟩ :: t.drop (highP t b2)) := Lib.hid (by
      rcases HRES.out with ⟨i, hi, h0, h1, h2⟩ | ⟨_, h1⟩
      · cases h0
      · exact h1)
    obtain ⟨LP, HLPN⟩ : ∃ LP : List Sn, Hid (LP = []) := ⟨[], Lib.hid rfl⟩
    have HLPE : Hid (lastP t ⟨b0, b1, b2, b3, b4, rs⟩ = LP) := Lib.hid (by rw [HLPQ.out]; rw [HLPN.out]; rfl)
    have hln : LP.length ≤ 1000 := HLE.out LP (.inl HLPN.out)
    have HLN := Lib.hid hln
    obtain ⟨n5, HKK⟩ : ∃ n5, Hid (LP.length + 1 - 5 = n5) := ⟨_, Lib.hid rfl⟩
    have hkl : n5 ≤ LP.length + 1 := by have := HKK.out; omega
    have HMX : Hid (max (0 : Int) ((LP.length : Int) + 1 - 5) = (n5 : Int)) := Lib.hid (by have := HKK.out; omega)
    go_enter Try.func18, Try.ntmps18
    go_wp2_with (first
      | (go_at_call 15; refine F1.mono ?_; rintro e w1 ⟨v1, rfl, hs1, hx1⟩
         obtain ⟨p1, c1', e5, _, hcm⟩ := hs1.slice
         subst e5
         unfold maxLen at hcm
         have hx2 := Ext.alloc w1 (.cells #[.int .i64 e0, .int .i64 e1, .slice p1 l.length c1'] 48)
         have o4 : ObjAt (w1.alloc (.cells #[.int .i64 e0, .int .i64 e1, .slice p1 l.length c1'] 48)) w1.heap.size 48 [.int .i64 e0, .int .i64 e1, .slice p1 l.length c1'] := heap_alloc_new w1 _
         have k1 := o4.cell (j := 1) rfl
         have k2 := o4.cell (j := 2) rfl
         have hxa := hx1.trans hx2
         have y0 := hxa.cell d0
         have y1 := hxa.cell d1
         have y2 := hxa.cell d2
         have y3 := hxa.cell d3
         have y4 := hxa.cell d4
         have HSA := Lib.hid (sn_any (T := fun k => False ∧ some k ≠ (Value.slice none 0 0).ownBlock) (hs1.ext hx2))
         have HXA := Lib.hid hxa
         have HX1 : Hid (w.heap.size + 3 ≤ w1.heap.size) := Lib.hid (by have h1 := HSZ.out; have h2 := hx1.size; omega)
         have HSW : Hid ((w1.alloc (.cells #[.int .i64 e0, .int .i64 e1, .slice p1 l.length c1'] 48)).heap.size = w1.heap.size + 1) := Lib.hid (by simp)
         have HS4 : Hid (SnO 68 (w1.alloc (.cells #[.int .i64 e0, .int .i64 e1, .slice p1 l.length c1'] 48)) (w1.heap.size + 1) (.slice none 0 0) LP) := Lib.hid (by rw [HLPN.out]; exact ORow.nil _ _ _)
         have HX4 := HXA
         have HB4 : Hid (w1.heap.size + 1 ≤ (w1.alloc (.cells #[.int .i64 e0, .int .i64 e1, .slice p1 l.length c1'] 48)).heap.size) := Lib.hid (by rw [HSW.out]; exact Nat.le_refl _)
         have hx5 := Ext.alloc (w1.alloc (.cells #[.int .i64 e0, .int .i64 e1, .slice p1 l.length c1'] 48)) (.cells #[.int .i64 b4, .int .i64 b1, .int .i64 b0] 68)
         have hl5 : SRow 3 RSn (fun k => False ∧ some k ≠ (Value.slice none 0 0).ownBlock) ((w1.alloc (.cells #[.int .i64 e0, .int .i64 e1, .slice p1 l.length c1'] 48)).alloc (.cells #[.int .i64 b4, .int .i64 b1, .int .i64 b0] 68)) (.slice (some ⟨w1.heap.size + 1, 0, none⟩) 1 1) [(⟨b4, b1, b0⟩ : Sn)] := by
           have := sn_lit1 68 (fun k => False ∧ some k ≠ (Value.slice none 0 0).ownBlock) (w1.alloc (.cells #[.int .i64 e0, .int .i64 e1, .slice p1 l.length c1'] 48)) ⟨b4, b1, b0⟩
           rw [HSW.out] at this
           exact this
         have HG5 : Hid (w1.heap.size + 1 ≤ ((w1.alloc (.cells #[.int .i64 e0, .int .i64 e1, .slice p1 l.length c1'] 48)).alloc (.cells #[.int .i64 b4, .int .i64 b1, .int .i64 b0] 68)).heap.size) := Lib.hid (Nat.le_trans HB4.out hx5.size)
         clear hx2 o4 hxa hs1)
      | (at_builtin; refine st_items T.rseens (HS4.out.keep hx5) hl5 ?_ (by have := HLN.out; simp [maxLen]; omega) (by have := HLN.out; simp; omega) HG5.out; intro v6 w6 ho6 hg6 hw6
         obtain ⟨p6, c6, e6, hc6, _⟩ := ho6.view.slice
         rw [List.length_append, List.length_singleton] at e6 hc6
         subst e6
         have HX6 : Hid (Ext _ w6) := Lib.hid (Below.grown (HX4.out.trans hx5) hg6 (HX4.out.trans hx5).size (fun k e => by have h1 := (HS4.out.own k e).1; have h2 := HX1.out; have h3 := HSZ.out; omega))
         have z2 := HX6.out.cell d2
         have z3 := HX6.out.cell d3
         have HS6 := Lib.hid ho6
         clear ho6 hg6 hw6 hl5 hx5)
      | ((with_reducible show wpList _ _ _ (Oper.mk _ (Op.call { callee := Callee.builtin Builtin.max, args := _, argTypes := _ }) _ _ _ _ :: _) _ _); refine wpList_run rfl (run_max rfl rfl rfl _) ?_; rw [HMX.out])
      | ((with_reducible show wpList _ _ _ (Oper.mk _ (Op.slice _ _ _ _ _) _ _ _ _ :: _) _ _); refine st_slice T.rseens n5 (LP.length + 1) c6 ?_
         have hx7 := Ext.alloc w6 (.cells #[.int .i64 b2, .int .i64 b3, .slice (cutA 3 p6 c6 n5) (LP.length + 1 - n5) (c6 - n5)] 48)
         have o7 : ObjAt (w6.alloc (.cells #[.int .i64 b2, .int .i64 b3, .slice (cutA 3 p6 c6 n5) (LP.length + 1 - n5) (c6 - n5)] 48)) w6.heap.size 48 [.int .i64 b2, .int .i64 b3, .slice (cutA 3 p6 c6 n5) (LP.length + 1 - n5) (c6 - n5)] := heap_alloc_new w6 _
         have HX7 := Lib.hid (HX6.out.trans hx7)
         have r1 := HX7.out.cell c1
         have hr7 := HH.out.ext HX7.out
         have HSX := Lib.hid hx7
         clear hx7))
    have HP7 := Lib.hid hr7
    have q0 := HX7.out.cell d0
    have q2 := HX7.out.cell d2
    have k0 := o7.cell (j := 0) rfl
    have k1 := o7.cell (j := 1) rfl
    have k2 := o7.cell (j := 2) rfl
    generalize hW7 : w6.alloc (.cells #[.int .i64 b2, .int .i64 b3, (.slice (cutA 3 p6 c6 n5) (LP.length + 1 - n5) (c6 - n5))] 48) = w7 at *
    unfold maxLen at HMC
    go_loopg [10] (t.length) (fun k s10 wr => ∃ j : Nat, s10 = .int .i64 j ∧ j ≤ t.length ∧ k = t.length - j ∧ Hid (∀ i x, i < j → t[i]? = some x → isHigh b2 x = false) ∧ Ext w7 wr)
    case atStart => exact ⟨0, rfl, Nat.zero_le _, rfl, fun i x hi => by omega, Ext.refl _⟩
    case round =>
      obtain ⟨j, rfl, hj, hk, HA, hxw⟩ := hrel
      have v1 := hxw.cell r1
      have v2 := hxw.cell q2
      have hcb := HMC.out
      have hst := HST.out
      clear k0 k1 k2
      by_cases hlt : j < t.length
      case pos =>
        have hi : (j : Int) < (t.length : Int) := by omega
        obtain ⟨b, o, qe, de, rfl, ⟨m0, m1, m2⟩, hsn, _, hdm⟩ := ent_at (TabV.any (HP7.out.ext hxw)) hlt
        have hget : t[j]? = some t[j] := List.getElem?_eq_getElem hlt
        have HGET := Lib.hid hget
        generalize t[j] = en at *
        obtain ⟨n0, n1, nl⟩ := en
        simp only at m0 m1 m2
        clear hget hsn hdm
        by_cases hid : n0 < b2
        case pos =>
          have HB : Hid (isHigh b2 ⟨n0, n1, nl⟩ = false) := Lib.hid (by unfold isHigh; simp only; rw [decide_eq_false_iff_not]; omega)
          go_wp2_with fail
          apply wp_region_dag (X := Ext) (by kernel_rfl) (by kernel_rfl) (fun _ _ _ => Ext.trans) (Ext.drew1 _)
          apply dag_val Ext.refl rfl (by intro W hW H; go_simp <;> rfl)
          simp only [Act.put, List.setIfInBounds_toArray, List.set_cons_zero, List.set_cons_succ]
          apply dag_val Ext.refl rfl (by intro W hW H; go_simp <;> rfl)
          simp only [Act.put, List.setIfInBounds_toArray, List.set_cons_zero, List.set_cons_succ]
          apply dag_val Ext.refl rfl (by intro W hW H; have q0 := hW.cell v1; go_simp <;> rfl)
          simp only [Act.put, List.setIfInBounds_toArray, List.set_cons_zero, List.set_cons_succ]
          apply dag_val Ext.refl rfl (by intro W hW H; go_simp <;> rfl)
          simp only [Act.put, List.setIfInBounds_toArray, List.set_cons_zero, List.set_cons_succ]
          apply dag_val Ext.refl rfl (by intro W hW H; go_simp <;> rfl)
          simp only [Act.put, List.setIfInBounds_toArray, List.set_cons_zero, List.set_cons_succ]
          apply dag_val Ext.refl rfl (by intro W hW H; go_simp <;> rfl)
          simp only [Act.put, List.setIfInBounds_toArray, List.set_cons_zero, List.set_cons_succ]
          apply dag_val Ext.refl rfl (by intro W hW H; go_simp <;> rfl)
          simp only [Act.put, List.setIfInBounds_toArray, List.set_cons_zero, List.set_cons_succ]
          apply dag_val Ext.refl rfl (by intro W hW H; have q0 := hW.cell v1; go_simp <;> rfl)
          simp only [Act.put, List.setIfInBounds_toArray, List.set_cons_zero, List.set_cons_succ]
          apply dag_val Ext.refl rfl (by intro W hW H; go_simp <;> rfl)
          simp only [Act.put, List.setIfInBounds_toArray, List.set_cons_zero, List.set_cons_succ]
          apply dag_val Ext.refl rfl (by intro W hW H; go_simp <;> rfl)
          simp only [Act.put, List.setIfInBounds_toArray, List.set_cons_zero, List.set_cons_succ]
          apply dag_val Ext.refl rfl (by intro W hW H; go_simp <;> rfl)
          simp only [Act.put, List.setIfInBounds_toArray, List.set_cons_zero, List.set_cons_succ]
          apply dag_val Ext.refl rfl (by intro W hW H; have q0 := hW.cell m0; go_simp <;> rfl)
          simp only [Act.put, List.setIfInBounds_toArray, List.set_cons_zero, List.set_cons_succ]
          apply dag_val Ext.refl rfl (by intro W hW H; go_simp <;> rfl)
          simp only [Act.put, List.setIfInBounds_toArray, List.set_cons_zero, List.set_cons_succ]
          apply dag_val Ext.refl rfl (by intro W hW H; have q0 := hW.cell v2; go_simp <;> rfl)
          simp only [Act.put, List.setIfInBounds_toArray, List.set_cons_zero, List.set_cons_succ]
          apply dag_val Ext.refl rfl (by intro W hW H; go_simp <;> rfl)
          simp only [Act.put, List.setIfInBounds_toArray, List.set_cons_zero, List.set_cons_succ]
          apply dag_val Ext.refl rfl (by intro W hW H; go_simp <;> rfl)
          simp only [Act.put, List.setIfInBounds_toArray, List.set_cons_zero, List.set_cons_succ]
          refine dag_end fun W hW H => ?_
          clear H
          go_wp2_with fail
          go_roundg (t.length - (j + 1))
          case measure => omega
          case rel =>
            refine ⟨j + 1, by go_num, hlt, rfl, fun i x hi hxx => ?_, hxw.trans hW⟩
            by_cases hij : i = j
            · subst hij
              have := HGET.out
              rw [hxx] at this
              cases this
              exact HB.out
            · exact HA.out i x (by omega) hxx
        case neg =>
          have hid' : b2 ≤ n0 := by omega
          have HHP : Hid (highP t b2 = j) := Lib.hid (highP_at hj HA.out (fun h => by
            have := HGET.out
            rw [List.getElem?_eq_getElem h] at this
            rw [Option.some.inj this]
            unfold isHigh
            simp only
            exact decide_eq_true hid'))
          go_wp2_with fail
          apply wp_region_dag (X := Ext) (by kernel_rfl) (by kernel_rfl) (fun _ _ _ => Ext.trans) (Ext.drew1 _)
          apply dag_val Ext.refl rfl (by intro W hW H; go_simp <;> rfl)
          simp only [Act.put, List.setIfInBounds_toArray, List.set_cons_zero, List.set_cons_succ]
          apply dag_val Ext.refl rfl (by intro W hW H; go_simp <;> rfl)
          simp only [Act.put, List.setIfInBounds_toArray, List.set_cons_zero, List.set_cons_succ]
          apply dag_val Ext.refl rfl (by intro W hW H; have q0 := hW.cell v1; go_simp <;> rfl)
          simp only [Act.put, List.setIfInBounds_toArray, List.set_cons_zero, List.set_cons_succ]
          apply dag_val Ext.refl rfl (by intro W hW H; go_simp <;> rfl)
          simp only [Act.put, List.setIfInBounds_toArray, List.set_cons_zero, List.set_cons_succ]
          apply dag_val Ext.refl rfl (by intro W hW H; go_simp <;> rfl)
          simp only [Act.put, List.setIfInBounds_toArray, List.set_cons_zero, List.set_cons_succ]
          apply dag_val Ext.refl rfl (by intro W hW H; go_simp <;> rfl)
          simp only [Act.put, List.setIfInBounds_toArray, List.set_cons_zero, List.set_cons_succ]
          apply dag_val Ext.refl rfl (by intro W hW H; go_simp <;> rfl)
          simp only [Act.put, List.setIfInBounds_toArray, List.set_cons_zero, List.set_cons_succ]
          apply dag_val Ext.refl rfl (by intro W hW H; have q0 := hW.cell v1; go_simp <;> rfl)
          simp only [Act.put, List.setIfInBounds_toArray, List.set_cons_zero, List.set_cons_succ]
          apply dag_val Ext.refl rfl (by intro W hW H; go_simp <;> rfl)
          simp only [Act.put, List.setIfInBounds_toArray, List.set_cons_zero, List.set_cons_succ]
          apply dag_val Ext.refl rfl (by intro W hW H; go_simp <;> rfl)
          simp only [Act.put, List.setIfInBounds_toArray, List.set_cons_zero, List.set_cons_succ]
          apply dag_val Ext.refl rfl (by intro W hW H; go_simp <;> rfl)
          simp only [Act.put, List.setIfInBounds_toArray, List.set_cons_zero, List.set_cons_succ]
          apply dag_val Ext.refl rfl (by intro W hW H; have q0 := hW.cell m0; go_simp <;> rfl)
          simp only [Act.put, List.setIfInBounds_toArray, List.set_cons_zero, List.set_cons_succ]
          apply dag_val Ext.refl rfl (by intro W hW H; go_simp <;> rfl)
          simp only [Act.put, List.setIfInBounds_toArray, List.set_cons_zero, List.set_cons_succ]
          apply dag_val Ext.refl rfl (by intro W hW H; have q0 := hW.cell v2; go_simp <;> rfl)
          simp only [Act.put, List.setIfInBounds_toArray, List.set_cons_zero, List.set_cons_succ]
          apply dag_val Ext.refl rfl (by intro W hW H; go_simp <;> rfl)
          simp only [Act.put, List.setIfInBounds_toArray, List.set_cons_zero, List.set_cons_succ]
          apply dag_val Ext.refl rfl (by intro W hW H; go_simp <;> rfl)
          simp only [Act.put, List.setIfInBounds_toArray, List.set_cons_zero, List.set_cons_succ]
          refine dag_end fun W hW H => ?_
          clear H
          have hxq := hxw.trans hW
          have u1 := hxq.cell r1
          have o7q := o7.ext hxq
          have y0 := o7q.cell (j := 0) rfl
          have y1 := o7q.cell (j := 1) rfl
          have y2 := o7q.cell (j := 2) rfl
          have HPQ := Lib.hid (HP7.out.ext hxq)
          have HXQ := Lib.hid ((HX0.out.trans HX7.out).trans hxq)
          have oRQ := o3.ext (HX7.out.trans hxq)
          have hS7 := HS6.out.keep HSX.out
          have HSQ := Lib.hid ((HS6.out.keep HSX.out).keep hxq)
          have HQ1 : Hid (w.heap.size + 3 ≤ W.heap.size) := Lib.hid (by have h1 := HSZ.out; have h2 := (HX7.out.trans hxq).size; omega)
          clear hS7
          have HTK : Hid (∀ W', Ext W W' → SRow 3 REnt (fun k => ((S k ∧ k < w.heap.size) ∨ w.heap.size + 3 ≤ k) ∧ k < W.heap.size) W' (.slice (some ⟨b, o, none⟩) j c) (t.take j)) := Lib.hid (fun W' hW' => ((HPQ.out.ext hW').take hj (by omega) (Nat.le_refl c)).mono fun k _ hk => ⟨.inl hk, by have := HQ1.out; omega⟩)
          have HTD : Hid (∀ W', Ext W W' → SRow 3 REnt (fun k => ((S k ∧ k < w.heap.size) ∨ w.heap.size + 3 ≤ k) ∧ k < W.heap.size) W' (.slice (cutA 3 (some ⟨b, o, none⟩) c j) (t.length - j) (c - j)) (t.drop j)) := Lib.hid (fun W' hW' => ((HPQ.out.ext hW').drop hj).mono fun k _ hk => ⟨.inl hk, by have := HQ1.out; omega⟩)
          have HUN : Hid (∀ W', Ext W W' → Under (fun k => ((S k ∧ k < w.heap.size) ∨ w.heap.size + 3 ≤ k) ∧ k < W.heap.size) (fun w' => REnt w' (entCells ⟨b2, b3, []⟩ (.slice (cutA 3 p6 c6 n5) (LP.length + 1 - n5) (c6 - n5))) (⟨b2, b3, (LP ++ [(⟨b4, b1, b0⟩ : Sn)]).drop n5⟩ : Ent)) W') := Lib.hid (fun W' hW' w' kq => ⟨_, rfl, by
            have hw := (SnO.under (HSQ.out.keep hW')) w' (kq.mono fun k _ hk => by
              have h1 := (HSQ.out.own k hk)
              have h2 := HX1.out
              exact ⟨.inr (by omega), h1.2⟩)
            have h2 := hw.drop (k := n5) (by rw [List.length_append, List.length_singleton]; omega)
            exact h2⟩)
          obtain ⟨wq, hwq⟩ : ∃ wq, wq = W := ⟨_, rfl⟩
          subst hwq
          go_wp2_with fail
          apply wp_region_dagF 14 (by kernel_rfl) (by kernel_rfl) (by kernel_rfl) (by decide)
          simp only [List.take_succ_cons, List.take_zero, List.drop_succ_cons, List.drop_zero]
          apply dagf_val rfl (by intro W hW H; go_simp <;> rfl)
          simp only [Act.put, List.setIfInBounds_toArray, List.set_cons_zero, List.set_cons_succ]
          apply dagf_val rfl (by intro W hW H; go_simp <;> rfl)
          simp only [Act.put, List.setIfInBounds_toArray, List.set_cons_zero, List.set_cons_succ]
          apply dagf_val rfl (by intro W hW H; have q0 := hW.cell u1; go_simp <;> rfl)
          simp only [Act.put, List.setIfInBounds_toArray, List.set_cons_zero, List.set_cons_succ]
          apply dagf_val rfl (by intro W hW H; go_simp <;> rfl)
          simp only [Act.put, List.setIfInBounds_toArray, List.set_cons_zero, List.set_cons_succ]
          refine' dagf_val rfl (fun W hW H => run_sliceTo T.rents rfl rfl W j c) _
          rotate_left
          simp only [Act.put, List.setIfInBounds_toArray, List.set_cons_zero, List.set_cons_succ]
          refine' dagf_row (fun v W => ORow 48 3 REnt (fun k => ((S k ∧ k < w.heap.size) ∨ w.heap.size + 3 ≤ k) ∧ k < wq.heap.size) W wq.heap.size v (t.take j)) (ORow.resT _ _ _) rfl (fun W hW H => frow_items (vy := .slice (some ⟨b, o, none⟩) j c) T.rents rfl rfl rfl (HTK.out W hW) (by rw [List.length_take]; have := HL.out; simp only [maxLen]; omega) (by rw [List.length_take]; have := HL.out; omega) hW.size) (fun u0 => _)
          rotate_left
          simp only [Act.put, List.setIfInBounds_toArray, List.set_cons_zero, List.set_cons_succ]
          apply dagf_val rfl (by intro W hW H; have q0 := hW.cell y0; have q1 := hW.cell y1; have q2 := hW.cell y2; go_simp <;> rfl)
          simp only [Act.put, List.setIfInBounds_toArray, List.set_cons_zero, List.set_cons_succ]
          refine' dagf_row (fun v W => ORow 48 3 REnt (fun k => ((S k ∧ k < w.heap.size) ∨ w.heap.size + 3 ≤ k) ∧ k < wq.heap.size) W wq.heap.size v [(⟨b2, b3, (LP ++ [(⟨b4, b1, b0⟩ : Sn)]).drop n5⟩ : Ent)]) (ORow.resT _ _ _) rfl (fun W hW H => frow_lit1 (cs := entCells ⟨b2, b3, []⟩ (.slice (cutA 3 p6 c6 n5) (LP.length + 1 - n5) (c6 - n5))) rfl (ent_one _ _ _ _) (HUN.out W hW) hW.size (by go_simp <;> rfl)) (fun u2 => _)
          rotate_left
          simp only [Act.put, List.setIfInBounds_toArray, List.set_cons_zero, List.set_cons_succ]
          refine' dagf_app 5 u0 _ (fun v W => ORow 48 3 REnt (fun k => ((S k ∧ k < w.heap.size) ∨ w.heap.size + 3 ≤ k) ∧ k < wq.heap.size) W wq.heap.size v (t.take j ++ [(⟨b2, b3, (LP ++ [(⟨b4, b1, b0⟩ : Sn)]).drop n5⟩ : Ent)])) (ORow.resT _ _ _) (by kernel_rfl) (by repeat (first | exact List.mem_cons_self | refine mem_keep ?_ (by decide) | apply List.mem_cons_of_mem)) rfl (fun W hW H => fapp_items (vx := u0) (vy := u2) T.rents rfl rfl rfl (H (5, u0, _) (by repeat (first | exact List.mem_cons_self | refine mem_keep ?_ (by decide) | apply List.mem_cons_of_mem)) (by kernel_rfl)) ((ORow.view (H (7, u2, _) (by repeat (first | exact List.mem_cons_self | refine mem_keep ?_ (by decide) | apply List.mem_cons_of_mem)) (by kernel_rfl))).mono fun k _ hk => hk.1) (by rw [List.length_take]; have := HL.out; simp [maxLen]; omega) (by rw [List.length_take]; have := HL.out; simp; omega) hW.size) (fun u3 => _)
          rotate_left
          simp only [Act.put, List.setIfInBounds_toArray, List.set_cons_zero, List.set_cons_succ]
          apply dagf_val rfl (by intro W hW H; go_simp <;> rfl)
          simp only [Act.put, List.setIfInBounds_toArray, List.set_cons_zero, List.set_cons_succ]
          apply dagf_val rfl (by intro W hW H; have q0 := hW.cell u1; go_simp <;> rfl)
          simp only [Act.put, List.setIfInBounds_toArray, List.set_cons_zero, List.set_cons_succ]
          apply dagf_val rfl (by intro W hW H; go_simp <;> rfl)
          simp only [Act.put, List.setIfInBounds_toArray, List.set_cons_zero, List.set_cons_succ]
          refine' dagf_val rfl (fun W hW H => run_slice T.rents rfl rfl W j t.length c) _
          rotate_left
          simp only [Act.put, List.setIfInBounds_toArray, List.set_cons_zero, List.set_cons_succ]
          refine' dagf_app 8 u3 _ (fun v W => ORow 48 3 REnt (fun k => ((S k ∧ k < w.heap.size) ∨ w.heap.size + 3 ≤ k) ∧ k < wq.heap.size) W wq.heap.size v ((t.take j ++ [(⟨b2, b3, (LP ++ [(⟨b4, b1, b0⟩ : Sn)]).drop n5⟩ : Ent)]) ++ t.drop j)) (ORow.resT _ _ _) (by kernel_rfl) (by repeat (first | exact List.mem_cons_self | refine mem_keep ?_ (by decide) | apply List.mem_cons_of_mem)) rfl (fun W hW H => fapp_items (vx := u3) (vy := .slice (cutA 3 (some ⟨b, o, none⟩) c j) (t.length - j) (c - j)) T.rents rfl rfl rfl (H (8, u3, _) (by repeat (first | exact List.mem_cons_self | refine mem_keep ?_ (by decide) | apply List.mem_cons_of_mem)) (by kernel_rfl)) (HTD.out W hW) (by rw [List.length_append, List.length_take, List.length_drop]; have := HL.out; simp [maxLen]; omega) (by rw [List.length_append, List.length_take, List.length_drop]; have := HL.out; simp; omega) hW.size) (fun u4 => _)
          rotate_left
          simp only [Act.put, List.setIfInBounds_toArray, List.set_cons_zero, List.set_cons_succ]
          refine dagf_end fun W2 hW2 H HA => ?_
          have ho9 : ORow 48 3 REnt (fun k => ((S k ∧ k < w.heap.size) ∨ w.heap.size + 3 ≤ k) ∧ k < wq.heap.size) W2 wq.heap.size u4 ((t.take j ++ [(⟨b2, b3, (LP ++ [(⟨b4, b1, b0⟩ : Sn)]).drop n5⟩ : Ent)]) ++ t.drop j) := H (13, u4, _) (by repeat (first | exact List.mem_cons_self | refine mem_keep ?_ (by decide) | apply List.mem_cons_of_mem))
          clear H HA
          obtain ⟨p9, c9, e9, _, _⟩ := ho9.view.slice
          obtain ⟨NL, hNL⟩ : ∃ NL, ((t.take j ++ [(⟨b2, b3, (LP ++ [(⟨b4, b1, b0⟩ : Sn)]).drop n5⟩ : Ent)]) ++ t.drop j).length = NL := ⟨_, rfl⟩
          rw [hNL] at e9
          clear hNL
          subst e9
          have oR9 := oRQ.ext hW2
          have hfo := oR9.free 0
          have hco := oR9.cell (j := 0) rfl
          have ho10 := oR9.store 0 (.slice p9 NL c9)
          go_wp2_with fail
          refine bodyPost_ret (rtab_results rfl _ _ (w.heap.size + 2) _ _ rfl ho10) rfl ?_
          have hLN : lastN LP ⟨b0, b1, b2, b3, b4, rs⟩ = (LP ++ [(⟨b4, b1, b0⟩ : Sn)]).drop n5 := by rw [← HKK.out]; rfl
          have hen : entP t ⟨b0, b1, b2, b3, b4, rs⟩ = ⟨b2, b3, lastN LP ⟨b0, b1, b2, b3, b4, rs⟩⟩ := by unfold entP; rw [HLPE.out]
          have hlist : putT t ⟨b0, b1, b2, b3, b4, rs⟩ = (t.take j ++ [(⟨b2, b3, (LP ++ [(⟨b4, b1, b0⟩ : Sn)]).drop n5⟩ : Ent)]) ++ t.drop j := by rw [HPUT.out, HHP.out, hen, hLN, List.append_assoc]; rfl
          rw [hlist]
          have hk := ho9.kept (g := some (w.heap.size + 2)) (grown_set W2 ⟨w.heap.size + 2, 0, none⟩ (.slice p9 NL c9)) (fun k hk e => by have h1 := Option.some.inj e; rcases hk.1 with hk | hk <;> omega) (.inr (fun e => by
            have h4 := (ho9.own _ e).1
            have := HQ1.out
            omega))
          refine ⟨_, rfl, (ORow.view hk).mono fun k _ hk => hk.1.1.elim (fun h => .inl h.1) (fun h => .inr (by omega)), fun k e => .inr (by have h1 := (ho9.own k e).1; have := HQ1.out; omega), ?_⟩
          exact (HXQ.out.trans hW2).store (p := ⟨w.heap.size + 2, 0, none⟩) (by show _ ≤ w.heap.size + 2; omega) _
      case neg =>
        have hje : j = t.length := by omega
        have HHP : Hid (highP t b2 = j) := Lib.hid (highP_at hj HA.out (fun h => absurd h hlt))
        have hi : ¬ (j : Int) < (t.length : Int) := by omega
        clear hje
        go_wp2_with fail
        apply wp_region_dag (X := Ext) (by kernel_rfl) (by kernel_rfl) (fun _ _ _ => Ext.trans) (Ext.drew1 _)
        apply dag_val Ext.refl rfl (by intro W hW H; go_simp <;> rfl)
        simp only [Act.put, List.setIfInBounds_toArray, List.set_cons_zero, List.set_cons_succ]
        apply dag_val Ext.refl rfl (by intro W hW H; go_simp <;> rfl)
        simp only [Act.put, List.setIfInBounds_toArray, List.set_cons_zero, List.set_cons_succ]
        apply dag_val Ext.refl rfl (by intro W hW H; have q0 := hW.cell v1; go_simp <;> rfl)
        simp only [Act.put, List.setIfInBounds_toArray, List.set_cons_zero, List.set_cons_succ]
        apply dag_val Ext.refl rfl (by intro W hW H; go_simp <;> rfl)
        simp only [Act.put, List.setIfInBounds_toArray, List.set_cons_zero, List.set_cons_succ]
        apply dag_val Ext.refl rfl (by intro W hW H; go_simp <;> rfl)
        simp only [Act.put, List.setIfInBounds_toArray, List.set_cons_zero, List.set_cons_succ]
        apply dag_val Ext.refl rfl (by intro W hW H; go_simp <;> rfl)
        simp only [Act.put, List.setIfInBounds_toArray, List.set_cons_zero, List.set_cons_succ]
        apply dag_not Ext.refl rfl
        simp only [Act.put, List.setIfInBounds_toArray, List.set_cons_zero, List.set_cons_succ]
        apply dag_not Ext.refl rfl
        simp only [Act.put, List.setIfInBounds_toArray, List.set_cons_zero, List.set_cons_succ]
        apply dag_not Ext.refl rfl
        simp only [Act.put, List.setIfInBounds_toArray, List.set_cons_zero, List.set_cons_succ]
        apply dag_not Ext.refl rfl
        simp only [Act.put, List.setIfInBounds_toArray, List.set_cons_zero, List.set_cons_succ]
        apply dag_not Ext.refl rfl
        simp only [Act.put, List.setIfInBounds_toArray, List.set_cons_zero, List.set_cons_succ]
        apply dag_not Ext.refl rfl
        simp only [Act.put, List.setIfInBounds_toArray, List.set_cons_zero, List.set_cons_succ]
        apply dag_not Ext.refl rfl
        simp only [Act.put, List.setIfInBounds_toArray, List.set_cons_zero, List.set_cons_succ]
        apply dag_not Ext.refl rfl
        simp only [Act.put, List.setIfInBounds_toArray, List.set_cons_zero, List.set_cons_succ]
        apply dag_not Ext.refl rfl
        simp only [Act.put, List.setIfInBounds_toArray, List.set_cons_zero, List.set_cons_succ]
        apply dag_val Ext.refl rfl (by intro W hW H; go_simp <;> rfl)
        simp only [Act.put, List.setIfInBounds_toArray, List.set_cons_zero, List.set_cons_succ]
        refine dag_end fun W hW H => ?_
        clear H
        have hxq := hxw.trans hW
        have u1 := hxq.cell r1
        have o7q := o7.ext hxq
        have y0 := o7q.cell (j := 0) rfl
        have y1 := o7q.cell (j := 1) rfl
        have y2 := o7q.cell (j := 2) rfl
        have HPQ := Lib.hid (HP7.out.ext hxq)
        have HXQ := Lib.hid ((HX0.out.trans HX7.out).trans hxq)
        have oRQ := o3.ext (HX7.out.trans hxq)
        have hS7 := HS6.out.keep HSX.out
        have HSQ := Lib.hid ((HS6.out.keep HSX.out).keep hxq)
        have HQ1 : Hid (w.heap.size + 3 ≤ W.heap.size) := Lib.hid (by have h1 := HSZ.out; have h2 := (HX7.out.trans hxq).size; omega)
        clear hS7
        have HTK : Hid (∀ W', Ext W W' → SRow 3 REnt (fun k => ((S k ∧ k < w.heap.size) ∨ w.heap.size + 3 ≤ k) ∧ k < W.heap.size) W' (.slice q j c) (t.take j)) := Lib.hid (fun W' hW' => ((HPQ.out.ext hW').take hj (by omega) (Nat.le_refl c)).mono fun k _ hk => ⟨.inl hk, by have := HQ1.out; omega⟩)
        have HTD : Hid (∀ W', Ext W W' → SRow 3 REnt (fun k => ((S k ∧ k < w.heap.size) ∨ w.heap.size + 3 ≤ k) ∧ k < W.heap.size) W' (.slice (cutA 3 q c j) (t.length - j) (c - j)) (t.drop j)) := Lib.hid (fun W' hW' => ((HPQ.out.ext hW').drop hj).mono fun k _ hk => ⟨.inl hk, by have := HQ1.out; omega⟩)
        have HUN : Hid (∀ W', Ext W W' → Under (fun k => ((S k ∧ k < w.heap.size) ∨ w.heap.size + 3 ≤ k) ∧ k < W.heap.size) (fun w' => REnt w' (entCells ⟨b2, b3, []⟩ (.slice (cutA 3 p6 c6 n5) (LP.length + 1 - n5) (c6 - n5))) (⟨b2, b3, (LP ++ [(⟨b4, b1, b0⟩ : Sn)]).drop n5⟩ : Ent)) W') := Lib.hid (fun W' hW' w' kq => ⟨_, rfl, by
          have hw := (SnO.under (HSQ.out.keep hW')) w' (kq.mono fun k _ hk => by
            have h1 := (HSQ.out.own k hk)
            have h2 := HX1.out
            exact ⟨.inr (by omega), h1.2⟩)
          have h2 := hw.drop (k := n5) (by rw [List.length_append, List.length_singleton]; omega)
          exact h2⟩)
        obtain ⟨wq, hwq⟩ : ∃ wq, wq = W := ⟨_, rfl⟩
        subst hwq
        go_wp2_with fail
        apply wp_region_dagF 14 (by kernel_rfl) (by kernel_rfl) (by kernel_rfl) (by decide)
        simp only [List.take_succ_cons, List.take_zero, List.drop_succ_cons, List.drop_zero]
        apply dagf_val rfl (by intro W hW H; go_simp <;> rfl)
        simp only [Act.put, List.setIfInBounds_toArray, List.set_cons_zero, List.set_cons_succ]
        apply dagf_val rfl (by intro W hW H; go_simp <;> rfl)
        simp only [Act.put, List.setIfInBounds_toArray, List.set_cons_zero, List.set_cons_succ]
        apply dagf_val rfl (by intro W hW H; have q0 := hW.cell u1; go_simp <;> rfl)
        simp only [Act.put, List.setIfInBounds_toArray, List.set_cons_zero, List.set_cons_succ]
        apply dagf_val rfl (by intro W hW H; go_simp <;> rfl)
        simp only [Act.put, List.setIfInBounds_toArray, List.set_cons_zero, List.set_cons_succ]
        refine' dagf_val rfl (fun W hW H => run_sliceTo T.rents rfl rfl W j c) _
        rotate_left
        simp only [Act.put, List.setIfInBounds_toArray, List.set_cons_zero, List.set_cons_succ]
        refine' dagf_row (fun v W => ORow 48 3 REnt (fun k => ((S k ∧ k < w.heap.size) ∨ w.heap.size + 3 ≤ k) ∧ k < wq.heap.size) W wq.heap.size v (t.take j)) (ORow.resT _ _ _) rfl (fun W hW H => frow_items (vy := .slice q j c) T.rents rfl rfl rfl (HTK.out W hW) (by rw [List.length_take]; have := HL.out; simp only [maxLen]; omega) (by rw [List.length_take]; have := HL.out; omega) hW.size) (fun u0 => _)
        rotate_left
        simp only [Act.put, List.setIfInBounds_toArray, List.set_cons_zero, List.set_cons_succ]
        apply dagf_val rfl (by intro W hW H; have q0 := hW.cell y0; have q1 := hW.cell y1; have q2 := hW.cell y2; go_simp <;> rfl)
        simp only [Act.put, List.setIfInBounds_toArray, List.set_cons_zero, List.set_cons_succ]
        refine' dagf_row (fun v W => ORow 48 3 REnt (fun k => ((S k ∧ k < w.heap.size) ∨ w.heap.size + 3 ≤ k) ∧ k < wq.heap.size) W wq.heap.size v [(⟨b2, b3, (LP ++ [(⟨b4, b1, b0⟩ : Sn)]).drop n5⟩ : Ent)]) (ORow.resT _ _ _) rfl (fun W hW H => frow_lit1 (cs := entCells ⟨b2, b3, []⟩ (.slice (cutA 3 p6 c6 n5) (LP.length + 1 - n5) (c6 - n5))) rfl (ent_one _ _ _ _) (HUN.out W hW) hW.size (by go_simp <;> rfl)) (fun u2 => _)
        rotate_left
        simp only [Act.put, List.setIfInBounds_toArray, List.set_cons_zero, List.set_cons_succ]
        refine' dagf_app 5 u0 _ (fun v W => ORow 48 3 REnt (fun k => ((S k ∧ k < w.heap.size) ∨ w.heap.size + 3 ≤ k) ∧ k < wq.heap.size) W wq.heap.size v (t.take j ++ [(⟨b2, b3, (LP ++ [(⟨b4, b1, b0⟩ : Sn)]).drop n5⟩ : Ent)])) (ORow.resT _ _ _) (by kernel_rfl) (by repeat (first | exact List.mem_cons_self | refine mem_keep ?_ (by decide) | apply List.mem_cons_of_mem)) rfl (fun W hW H => fapp_items (vx := u0) (vy := u2) T.rents rfl rfl rfl (H (5, u0, _) (by repeat (first | exact List.mem_cons_self | refine mem_keep ?_ (by decide) | apply List.mem_cons_of_mem)) (by kernel_rfl)) ((ORow.view (H (7, u2, _) (by repeat (first | exact List.mem_cons_self | refine mem_keep ?_ (by decide) | apply List.mem_cons_of_mem)) (by kernel_rfl))).mono fun k _ hk => hk.1) (by rw [List.length_take]; have := HL.out; simp [maxLen]; omega) (by rw [List.length_take]; have := HL.out; simp; omega) hW.size) (fun u3 => _)
        rotate_left
        simp only [Act.put, List.setIfInBounds_toArray, List.set_cons_zero, List.set_cons_succ]
        apply dagf_val rfl (by intro W hW H; go_simp <;> rfl)
        simp only [Act.put, List.setIfInBounds_toArray, List.set_cons_zero, List.set_cons_succ]
        apply dagf_val rfl (by intro W hW H; have q0 := hW.cell u1; go_simp <;> rfl)
        simp only [Act.put, List.setIfInBounds_toArray, List.set_cons_zero, List.set_cons_succ]
        apply dagf_val rfl (by intro W hW H; go_simp <;> rfl)
        simp only [Act.put, List.setIfInBounds_toArray, List.set_cons_zero, List.set_cons_succ]
        refine' dagf_val rfl (fun W hW H => run_slice T.rents rfl rfl W j t.length c) _
        rotate_left
        simp only [Act.put, List.setIfInBounds_toArray, List.set_cons_zero, List.set_cons_succ]
        refine' dagf_app 8 u3 _ (fun v W => ORow 48 3 REnt (fun k => ((S k ∧ k < w.heap.size) ∨ w.heap.size + 3 ≤ k) ∧ k < wq.heap.size) W wq.heap.size v ((t.take j ++ [(⟨b2, b3, (LP ++ [(⟨b4, b1, b0⟩ : Sn)]).drop n5⟩ : Ent)]) ++ t.drop j)) (ORow.resT _ _ _) (by kernel_rfl) (by repeat (first | exact List.mem_cons_self | refine mem_keep ?_ (by decide) | apply List.mem_cons_of_mem)) rfl (fun W hW H => fapp_items (vx := u3) (vy := .slice (cutA 3 q c j) (t.length - j) (c - j)) T.rents rfl rfl rfl (H (8, u3, _) (by repeat (first | exact List.mem_cons_self | refine mem_keep ?_ (by decide) | apply List.mem_cons_of_mem)) (by kernel_rfl)) (HTD.out W hW) (by rw [List.length_append, List.length_take, List.length_drop]; have := HL.out; simp [maxLen]; omega) (by rw [List.length_append, List.length_take, List.length_drop]; have := HL.out; simp; omega) hW.size) (fun u4 => _)
        rotate_left
        simp only [Act.put, List.setIfInBounds_toArray, List.set_cons_zero, List.set_cons_succ]
        refine dagf_end fun W2 hW2 H HA => ?_
        have ho9 : ORow 48 3 REnt (fun k => ((S k ∧ k < w.heap.size) ∨ w.heap.size + 3 ≤ k) ∧ k < wq.heap.size) W2 wq.heap.size u4 ((t.take j ++ [(⟨b2, b3, (LP ++ [(⟨b4, b1, b0⟩ : Sn)]).drop n5⟩ : Ent)]) ++ t.drop j) := H (13, u4, _) (by repeat (first | exact List.mem_cons_self | refine mem_keep ?_ (by decide) | apply List.mem_cons_of_mem))
        clear H HA
        obtain ⟨p9, c9, e9, _, _⟩ := ho9.view.slice
        obtain ⟨NL, hNL⟩ : ∃ NL, ((t.take j ++ [(⟨b2, b3, (LP ++ [(⟨b4, b1, b0⟩ : Sn)]).drop n5⟩ : Ent)]) ++ t.drop j).length = NL := ⟨_, rfl⟩
        rw [hNL] at e9
        clear hNL
        subst e9
        have oR9 := oRQ.ext hW2
        have hfo := oR9.free 0
        have hco := oR9.cell (j := 0) rfl
        have ho10 := oR9.store 0 (.slice p9 NL c9)
        go_wp2_with fail
        refine bodyPost_ret (rtab_results rfl _ _ (w.heap.size + 2) _ _ rfl ho10) rfl ?_
        have hLN : lastN LP ⟨b0, b1, b2, b3, b4, rs⟩ = (LP ++ [(⟨b4, b1, b0⟩ : Sn)]).drop n5 := by rw [← HKK.out]; rfl
        have hen : entP t ⟨b0, b1, b2, b3, b4, rs⟩ = ⟨b2, b3, lastN LP ⟨b0, b1, b2, b3, b4, rs⟩⟩ := by unfold entP; rw [HLPE.out]
        have hlist : putT t ⟨b0, b1, b2, b3, b4, rs⟩ = (t.take j ++ [(⟨b2, b3, (LP ++ [(⟨b4, b1, b0⟩ : Sn)]).drop n5⟩ : Ent)]) ++ t.drop j := by rw [HPUT.out, HHP.out, hen, hLN, List.append_assoc]; rfl
        rw [hlist]
        have hk := ho9.kept (g := some (w.heap.size + 2)) (grown_set W2 ⟨w.heap.size + 2, 0, none⟩ (.slice p9 NL c9)) (fun k hk e => by have h1 := Option.some.inj e; rcases hk.1 with hk | hk <;> omega) (.inr (fun e => by
          have h4 := (ho9.own _ e).1
          have := HQ1.out
          omega))
        refine ⟨_, rfl, (ORow.view hk).mono fun k _ hk => hk.1.1.elim (fun h => .inl h.1) (fun h => .inr (by omega)), fun k e => .inr (by have h1 := (ho9.own k e).1; have := HQ1.out; omega), ?_⟩
        exact (HXQ.out.trans hW2).store (p := ⟨w.heap.size + 2, 0, none⟩) (by show _ ≤ w.heap.size + 2; omega) _
end Go.Proofs.Ythiaaoiaabocfaa
