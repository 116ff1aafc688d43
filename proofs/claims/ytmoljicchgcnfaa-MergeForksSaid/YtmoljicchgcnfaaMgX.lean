/- What Next of layer 34 tells, and what it leaves. -/
import Derived.Test.YtmoljicchgcnfaaMgP
namespace Go.Proofs.Ytmoljicchgcnfaa
open Go.RowKit

theorem itm_results2 {fn : Func} {p u : Tmp} (h : fn.results = #[.cell p 36, .tmp u]) (tmps : Array Value) (w : World) (g : Nat) (x : Itm)
    (hp : tmps.getD p undef = .pointer (some ⟨g, 0, none⟩)) (hg : ObjAt w g 36 (itmCells x)) :
    (results fn tmps).run Try.prog w = .ok (.tuple #[itmv x, tmps.getD u undef]) w :=
  results_row_tmp h tmps w g _ (itmCells x).toArray _ hp hg Try.underlying36 rfl (show _ = some 9 from by kernel_rfl)

set_option maxHeartbeats 1000000 in
theorem next_none (B : Nat) (m : Nat) (v : Value) (gs : List Nat) (nw : Int) (w : World) (h : Heap B w m v gs [] nw) :
    Calls Try.prog 15 #[.pointer (some ⟨m, 0, none⟩)] w fun e w' => e = .returned (.tuple #[itmv itm0, .bool false]) ∧ Ext w w' := by
  obtain ⟨p, c, rfl, _, _⟩ := h.shape
  have hx0 := Ext.alloc w (.cells #[.int .i64 0, .int .i64 0, .int .i64 0, .int .i64 0, .int .i64 0, .bool false, .string ⟨#[]⟩, .bool false, .string ⟨#[]⟩] 36)
  have cv := (h.box.ext hx0).cell (j := 0) rfl
  have hw : ObjAt (w.alloc (.cells (itmCells itm0).toArray 36)) w.heap.size 36 (itmCells itm0) := heap_alloc_new w _
  simp only [List.length_nil] at cv
  go_enter Try.func15, Try.ntmps15
  go_wp2_with fail
  refine bodyPost_ret (itm_results2 rfl _ _ w.heap.size itm0 rfl hw) rfl ?_
  exact ⟨rfl, hx0⟩

theorem Chg.thenNew {X : Nat → Prop} {a b c : World} (h : Chg X a b) (k : Chg (fun q => q = a.heap.size) b c) : Chg X a c :=
  ⟨k.os.trans h.os, k.tape.trans h.tape, k.output.trans h.output, Nat.le_trans h.size k.size, fun i hi hx => (k.block i (Nat.lt_of_lt_of_le hi h.size) (by omega)).trans (h.block i hi hx)⟩
theorem chg_cell {X : Nat → Prop} {w w' : World} (k : Chg X w w') {a : Addr} {v : Value} (hc : w.cell? a = some v) (hx : ¬ X a.block) : w'.cell? a = some v := Keeps.cell k.keeps hx hc
theorem Heap.src0 {B : Nat} {w : World} {m : Nat} {v : Value} {gs : List Nat} {hs : List Src} {nw : Int} (h : Heap B w m v gs hs nw) (hpos : 0 < hs.length) : ∃ b c g u, v = .slice (some ⟨b, 0, none⟩) hs.length c ∧ gs[0]? = some g ∧ w.cell? ⟨b, 0, none⟩ = some (srcv g) ∧ ObjAt w g 59 [u] ∧ ItmV w u (at_ hs 0) ∧ at_ hs 0 ≠ [] ∧ ∀ k, u.ownBlock = some k → ¬ Own m v gs k := by
  obtain ⟨b, c, g, _, hv, hg, hc, _, _, hne⟩ := h.src hpos
  obtain ⟨u, o1, o2, o3⟩ := h.each 0 g hg
  exact ⟨b, c, g, u, hv, hg, hc, o1, o2, hne, o3⟩

set_option maxRecDepth 20000 in
set_option maxHeartbeats 8000000 in
theorem next_some (B : Nat) (m : Nat) (v : Value) (gs : List Nat) (hs : List Src) (nw : Int) (w : World) (P : Nat → Prop) (h : Heap B w m v gs hs nw) (hne : hs ≠ []) (hb : hs.length ≤ 1000) (ht : Tops P w gs) (hT : ∀ k, P k → k < w.heap.size) :
    Calls Try.prog 15 #[.pointer (some ⟨m, 0, none⟩)] w fun e w' => e = .returned (.tuple #[itmv (topH hs), .bool true]) ∧ ∃ v' gs', Heap B w' m v' gs' (nextH hs) (max nw (topH hs).time) ∧ (∀ k, Own m v' gs' k → Own m v gs k) ∧ Chg (Own m v gs) w w' ∧ Tops P w' gs' := by
  have hpos : 0 < hs.length := List.length_pos_iff.2 hne
  obtain ⟨b, c, g, u, hve, hg0, cs0, ou, hu, hs0, hub⟩ := h.src0 hpos
  obtain ⟨v0, hv0⟩ : ∃ v0, v0 = v := ⟨_, rfl⟩
  have HOL := Lib.hid (show ∀ k, Own m v0 gs k → k < w.heap.size from by rw [hv0]; exact h.own_lt)
  have hx0 := Ext.alloc w (.cells #[.int .i64 0, .int .i64 0, .int .i64 0, .int .i64 0, .int .i64 0, .bool false, .string ⟨#[]⟩, .bool false, .string ⟨#[]⟩] 36)
  have oR0 : ObjAt (w.alloc (.cells #[.int .i64 0, .int .i64 0, .int .i64 0, .int .i64 0, .int .i64 0, .bool false, .string ⟨#[]⟩, .bool false, .string ⟨#[]⟩] 36)) w.heap.size 36 [.int .i64 0, .int .i64 0, .int .i64 0, .int .i64 0, .int .i64 0, .bool false, .string ⟨#[]⟩, .bool false, .string ⟨#[]⟩] := heap_alloc_new w _
  have hD0 : dropH hs = if (at_ hs 0).tail.isEmpty then (hs.set 0 (at_ hs (hs.length - 1))).take (hs.length - 1) else hs.set 0 (at_ hs 0).tail := rfl
  have htop : topH hs = hd (at_ hs 0) := rfl
  have hnx : nextH hs = downI (dropH hs) 0 := rfl
  have hdl : (dropH hs).length ≤ 1000 := by rw [hD0]; split <;> simp <;> omega
  rw [htop, hnx]
  have HA1 := fun W o v => head_any g (at_ hs 0) u W o v hs0
  have DR1 := fun W o v => drop_any g (at_ hs 0) u W o v hs0
  have cm0 := (h.box.ext hx0).cell (j := 0) rfl
  have cs00 := hx0.cell cs0
  have mh := method_head
  have md := method_drop
  have hposI : (0 : Int) < (hs.length : Int) := by omega
  have hgm : g ∈ gs := List.mem_of_getElem? hg0
  have hgmm : g ≠ m := fun e => h.mg (e ▸ hgm)
  have hgb : b ≠ g := fun e => h.vg g hgm (by rw [hve, e]; rfl)
  have HGM := Lib.hid hgmm
  have HGB := Lib.hid hgb
  clear hgmm hgb
  have HPOS := Lib.hid hpos
  have hnz : ((hs.length : Int) == 0) = false := by rw [beq_eq_false_iff_ne]; omega
  have HTO := Lib.hid ht
  have HTT := Lib.hid hT
  clear ht hT
  have htt : ∃ t, (at_ hs 0).tail = t := ⟨_, rfl⟩
  obtain ⟨t, ht⟩ := htt
  rw [ht] at hD0 DR1
  have HHX := Lib.hid h
  generalize hd (at_ hs 0) = x at *
  have hh0 := h.ext hx0
  cases hte : t.isEmpty with
  | false =>
    rw [hte] at hD0 DR1
    simp only [Bool.not_false, Bool.false_eq_true, if_false] at hD0 DR1
    have htne : t ≠ [] := fun e => by rw [e] at hte; cases hte
    have HD0 := Lib.hid hD0
    have HTN := Lib.hid htne
    have HDL := Lib.hid hdl
    have HUB := Lib.hid hub
    subst hve
    obtain ⟨vq, hvq⟩ : ∃ vq, vq = v0 := ⟨_, rfl⟩
    have HVQ := Lib.hid (hvq.trans hv0)
    have HSUB := Lib.hid (show ∀ k, Own m vq gs k → Own m v0 gs k from by rw [hvq]; exact fun _ h => h)
    have HV0 := Lib.hid hv0
    clear hD0 htne hdl hub hte hne hpos h hvq hv0 htop hnx
    go_enter Try.func15, Try.ntmps15
    go_wp2_with (first
      | (go_at_call 47; refine (HA1 _ (ou.ext hx0) (hu.ext hx0)).mono ?_; rintro e w1 ⟨rfl, hx1⟩
         have hx1a := (hx0.trans hx1).trans (Ext.alloc w1 (.cells #[.int .i64 x.list, .int .i64 x.off, .int .i64 x.time, .int .i64 x.rcd.delta, .int .i64 x.rcd.time, .bool x.rcd.keyed, .string ⟨x.rcd.key.toArray⟩, .bool x.rcd.dead, .string ⟨x.rcd.value.toArray⟩] 36))
         have oX1 : ObjAt (w1.alloc (.cells #[.int .i64 x.list, .int .i64 x.off, .int .i64 x.time, .int .i64 x.rcd.delta, .int .i64 x.rcd.time, .bool x.rcd.keyed, .string ⟨x.rcd.key.toArray⟩, .bool x.rcd.dead, .string ⟨x.rcd.value.toArray⟩] 36)) w1.heap.size 36 (itmCells x) := heap_alloc_new w1 _
         have oR1 := oR0.ext (hx1.trans (Ext.alloc w1 (.cells #[.int .i64 x.list, .int .i64 x.off, .int .i64 x.time, .int .i64 x.rcd.delta, .int .i64 x.rcd.time, .bool x.rcd.keyed, .string ⟨x.rcd.key.toArray⟩, .bool x.rcd.dead, .string ⟨x.rcd.value.toArray⟩] 36)))
         have cm1 := (HHX.out.ext hx1a).box.cell (j := 0) rfl
         have cs1 := hx1a.cell cs0
         have HW1 := Lib.hid (hx0.trans hx1).size)
      | (go_at_call 45; refine (DR1 _ (ou.ext hx1a) (hu.ext hx1a)).mono ?_; rintro e w2 ⟨u', rfl, rfl, hu', hub'⟩
         have hD2 := Heap.shorter (t := t) (HHX.out.ext hx1a) hg0 hu' HTN.out (fun k e => HUB.out k (hub' k e))
         rw [← HD0.out] at hD2
         have hgw := HOL.out g (.inr (.inr hgm))
         have c2 : Chg (fun k => k = g) (w1.alloc (.cells #[.int .i64 x.list, .int .i64 x.off, .int .i64 x.time, .int .i64 x.rcd.delta, .int .i64 x.rcd.time, .bool x.rcd.keyed, .string ⟨x.rcd.key.toArray⟩, .bool x.rcd.dead, .string ⟨x.rcd.value.toArray⟩] 36)) ((w1.alloc (.cells #[.int .i64 x.list, .int .i64 x.off, .int .i64 x.time, .int .i64 x.rcd.delta, .int .i64 x.rcd.time, .bool x.rcd.keyed, .string ⟨x.rcd.key.toArray⟩, .bool x.rcd.dead, .string ⟨x.rcd.value.toArray⟩] 36)).setCell ⟨g, 0, none⟩ u') := Chg.set _ _ _ rfl
         have oR2 := oR1.chg c2 (fun e => by omega)
         have oX2 := oX1.chg c2 (fun e => by have := HW1.out; omega)
         have hq2 : Chg (Own m v0 gs) w _ := hx1a.chg.trans (c2.mono fun k _ e => .inr (.inr (e ▸ hgm)))
         rw [← HVQ.out] at hD2
         have D1 := down_any B m vq gs (dropH hs) nw 0 _ hD2 HDL.out (by omega)
         have ht2 := Tops.set (HTO.out.ext hx1a (fun y hy => HOL.out y (.inr (.inr hy)))) hgm (ou.ext hx1a) hub' (fun y hy => Nat.lt_of_lt_of_le (HOL.out y (.inr (.inr hy))) hx1a.size)
         clear hgw c2)
      | (go_at_call 23; refine D1.mono ?_; rintro e w3 ⟨rfl, gs3, hp3, h3, hx3⟩
         have oR3 := oR2.chg hx3 (fun e => by have := HOL.out _ (HSUB.out _ (.inr (.inl e))); omega)
         have oX3 := oX2.chg hx3 (fun e => by have := HOL.out _ (HSUB.out _ (.inr (.inl e))); have := HW1.out; omega)
         have hq3 := hq2.trans (hx3.mono fun k _ e => HSUB.out k (.inr (.inl e)))
         have ht3 := (ht2.chg hx3 (fun y hy => hD2.vg y hy) (fun y hy => hD2.own_lt y (.inr (.inr hy)))).sub (fun y hy => hp3.mem_iff.1 hy)
         have cn := h3.box.cell (j := 1) rfl
         have xt := oX3.cell (j := 2) rfl))
    apply wp_region_dag_tail 10 (X := Ext) (by kernel_rfl) (by kernel_rfl) (by kernel_rfl) (by decide) (fun _ _ _ => Ext.trans) (Ext.drew1 _)
    simp only [List.take_succ_cons, List.take_zero, List.drop_succ_cons, List.drop_zero]
    apply dag_val Ext.refl rfl (by intro W hW H; go_simp <;> rfl)
    simp only [Act.put, List.setIfInBounds_toArray, List.set_cons_zero, List.set_cons_succ]
    apply dag_val Ext.refl rfl (by intro W hW H; go_simp <;> rfl)
    simp only [Act.put, List.setIfInBounds_toArray, List.set_cons_zero, List.set_cons_succ]
    apply dag_val Ext.refl rfl (by intro W hW H; go_simp <;> rfl)
    simp only [Act.put, List.setIfInBounds_toArray, List.set_cons_zero, List.set_cons_succ]
    apply dag_val Ext.refl rfl (by intro W hW H; go_simp <;> rfl)
    simp only [Act.put, List.setIfInBounds_toArray, List.set_cons_zero, List.set_cons_succ]
    apply dag_val Ext.refl rfl (by intro W hW H; have q0 := hW.cell cn; go_simp <;> rfl)
    simp only [Act.put, List.setIfInBounds_toArray, List.set_cons_zero, List.set_cons_succ]
    apply dag_val Ext.refl rfl (by intro W hW H; go_simp <;> rfl)
    simp only [Act.put, List.setIfInBounds_toArray, List.set_cons_zero, List.set_cons_succ]
    apply dag_val Ext.refl rfl (by intro W hW H; have q0 := hW.cell xt; go_simp <;> rfl)
    simp only [Act.put, List.setIfInBounds_toArray, List.set_cons_zero, List.set_cons_succ]
    refine' dag_val Ext.refl rfl (fun W hW H => run_max rfl rfl rfl W) _
    rotate_left
    simp only [Act.put, List.setIfInBounds_toArray, List.set_cons_zero, List.set_cons_succ]
    apply dag_val Ext.refl rfl (by intro W hW H; go_simp <;> rfl)
    simp only [Act.put, List.setIfInBounds_toArray, List.set_cons_zero, List.set_cons_succ]
    apply dag_val Ext.refl rfl (by intro W hW H; go_simp <;> rfl)
    simp only [Act.put, List.setIfInBounds_toArray, List.set_cons_zero, List.set_cons_succ]
    refine dag_end fun W hW H => ?_
    clear H
    have hhW := h3.ext hW
    have cm := hhW.box.cell (j := 1) rfl
    have fm := hhW.box.free 1
    have hnew := hhW.newer (max nw x.time)
    have hsub : ∀ k, Own m vq gs3 k → Own m v0 gs k := fun k hk => HSUB.out k ((own_perm hp3 k).1 hk)
    have c9 : Chg (fun k => k = m) W (W.setCell ⟨m, 1, none⟩ (.int .i64 (max nw x.time))) := Chg.set _ _ _ rfl
    have hrm : ¬ w.heap.size = m := fun e => by have := HOL.out m (.inl rfl); omega
    have hxm : ¬ w1.heap.size = m := fun e => by have := HOL.out m (.inl rfl); have := HW1.out; omega
    have or9 := (oR3.ext hW).chg c9 hrm
    have ox9 := (oX3.ext hW).chg c9 hxm
    have ht9 := (ht3.ext hW (fun y hy => h3.own_lt y (.inr (.inr hy)))).chg c9 (fun y hy e => hhW.mg (e ▸ hy)) (fun y hy => hhW.own_lt y (.inr (.inr hy)))
    have HT9 := Lib.hid ht9
    clear ht9 ht3
    have y0 := ox9.cell (j := 0) rfl
    have y1 := ox9.cell (j := 1) rfl
    have y2 := ox9.cell (j := 2) rfl
    have y3 := ox9.cell (j := 3) rfl
    have y4 := ox9.cell (j := 4) rfl
    have y5 := ox9.cell (j := 5) rfl
    have y6 := ox9.cell (j := 6) rfl
    have y7 := ox9.cell (j := 7) rfl
    have y8 := ox9.cell (j := 8) rfl
    have s0 := or9.cell (j := 0) rfl
    have z0 := or9.free 0
    have or9_0 := or9.store 0 (.int .i64 x.list)
    have s1 := or9_0.cell (j := 1) rfl
    have z1 := or9_0.free 1
    have or9_1 := or9_0.store 1 (.int .i64 x.off)
    have s2 := or9_1.cell (j := 2) rfl
    have z2 := or9_1.free 2
    have or9_2 := or9_1.store 2 (.int .i64 x.time)
    have s3 := or9_2.cell (j := 3) rfl
    have z3 := or9_2.free 3
    have or9_3 := or9_2.store 3 (.int .i64 x.rcd.delta)
    have s4 := or9_3.cell (j := 4) rfl
    have z4 := or9_3.free 4
    have or9_4 := or9_3.store 4 (.int .i64 x.rcd.time)
    have s5 := or9_4.cell (j := 5) rfl
    have z5 := or9_4.free 5
    have or9_5 := or9_4.store 5 (.bool x.rcd.keyed)
    have s6 := or9_5.cell (j := 6) rfl
    have z6 := or9_5.free 6
    have or9_6 := or9_5.store 6 (.string ⟨x.rcd.key.toArray⟩)
    have s7 := or9_6.cell (j := 7) rfl
    have z7 := or9_6.free 7
    have or9_7 := or9_6.store 7 (.bool x.rcd.dead)
    have s8 := or9_7.cell (j := 8) rfl
    have z8 := or9_7.free 8
    have or9_8 := or9_7.store 8 (.string ⟨x.rcd.value.toArray⟩)
    have HN := Lib.hid hnew
    have OF : ObjAt _ w.heap.size 36 (itmCells x) := or9_8
    have HSB := Lib.hid hsub
    have hq3S := Lib.hid hq3
    have HQ9 := Lib.hid ((hq3.trans hW.chg).trans (c9.mono (Y := Own m v0 gs) fun k _ e => .inl e))
    clear hnew or9 or9_0 or9_1 or9_2 or9_3 or9_4 or9_5 or9_6 or9_7 or9_8 hsub ox9 c9 oR3 oX3 hq3 cn xt
    have HS9 := Lib.hid (Nat.le_trans ((hq3S.out.trans hW.chg).size) (Nat.le_of_eq (show W.heap.size = (W.setCell ⟨m, 1, none⟩ (.int .i64 (max nw x.time))).heap.size from by simp)))
    go_wp2_with fail
    refine bodyPost_ret (itm_results2 rfl _ _ w.heap.size x rfl OF) rfl ?_
    have cF : Chg (fun k => k = w.heap.size) (W.setCell ⟨m, 1, none⟩ (.int .i64 (max nw x.time))) _ := ((((((((Chg.set (X := fun k => k = w.heap.size) _ ⟨w.heap.size, 0, none⟩ (.int .i64 x.list) rfl).trans (Chg.set _ ⟨w.heap.size, 1, none⟩ (.int .i64 x.off) rfl)).trans (Chg.set _ ⟨w.heap.size, 2, none⟩ (.int .i64 x.time) rfl)).trans (Chg.set _ ⟨w.heap.size, 3, none⟩ (.int .i64 x.rcd.delta) rfl)).trans (Chg.set _ ⟨w.heap.size, 4, none⟩ (.int .i64 x.rcd.time) rfl)).trans (Chg.set _ ⟨w.heap.size, 5, none⟩ (.bool x.rcd.keyed) rfl)).trans (Chg.set _ ⟨w.heap.size, 6, none⟩ (.string ⟨x.rcd.key.toArray⟩) rfl)).trans (Chg.set _ ⟨w.heap.size, 7, none⟩ (.bool x.rcd.dead) rfl)).trans (Chg.set _ ⟨w.heap.size, 8, none⟩ (.string ⟨x.rcd.value.toArray⟩) rfl)
    have hno : ∀ q, Own m vq gs3 q → ¬ q = w.heap.size := fun q hq e => by have := HOL.out q (HSB.out q hq); omega
    have hFin := HN.out.chg cF hno (fun j y z hy hz q hq e => by have := HTT.out q (HT9.out y (List.mem_of_getElem? hy) z hz q hq); omega)
    have hFt := HT9.out.chg cF (fun y hy e => hno y (.inr (.inr hy)) e) (fun y hy => HN.out.own_lt y (.inr (.inr hy)))
    exact ⟨rfl, vq, gs3, hFin, fun k hk => by rw [← HV0.out]; exact HSB.out k hk, by rw [← HV0.out]; exact HQ9.out.thenNew cF, hFt⟩
  | true =>
    rw [hte] at hD0 DR1
    simp only [Bool.not_true, if_true] at hD0 DR1
    obtain ⟨n, hn⟩ : ∃ n, n = hs.length - 1 := ⟨_, rfl⟩
    have hn1 : hs.length = n + 1 := by omega
    rw [← hn] at hD0
    obtain ⟨_, _, g', _, hve2, hg', csn0, _, _, _⟩ := h.src (j := n) (by omega)
    rw [hve] at hve2
    cases hve2
    have hgm' : g' ∈ gs := List.mem_of_getElem? hg'
    have csn1 := csn0
    have hwn : IntKind.i64.wrap ((hs.length : Int) - 1) = (n : Int) := by rw [IntKind.wrap_i64]; have := h.shape; obtain ⟨_, _, _, _, hh⟩ := this; unfold maxLen at hh; omega
    have hni : (n : Int) < (hs.length : Int) := by omega
    have hnc : n ≤ c := by obtain ⟨_, _, e9, hh, _⟩ := h.shape; rw [hve] at e9; cases e9; omega
    have HD0 := Lib.hid hD0
    have HDL := Lib.hid hdl
    have HUB := Lib.hid hub
    have HN1 := Lib.hid hn1
    subst hve
    obtain ⟨vq, hvq⟩ : ∃ vq, vq = Value.slice (some ⟨b, 0, none⟩) n c := ⟨_, rfl⟩
    obtain ⟨gq, hgq⟩ : ∃ gq, gq = (gs.set 0 g').take n := ⟨_, rfl⟩
    have HVQ := Lib.hid hvq
    have HGQ := Lib.hid hgq
    have HSUB := Lib.hid (show ∀ k, Own m vq gq k → Own m v0 gs k from by rw [hvq, hgq, hv0, hn1]; exact own_sub hgm')
    have HV0 := Lib.hid hv0
    clear hD0 hdl hub hte hne hpos h hvq hgq hv0 htop hnx hn hn1
    go_enter Try.func15, Try.ntmps15
    go_wp2_with (first
      | (go_at_call 47; refine (HA1 _ (ou.ext hx0) (hu.ext hx0)).mono ?_; rintro e w1 ⟨rfl, hx1⟩
         have hx1a := (hx0.trans hx1).trans (Ext.alloc w1 (.cells #[.int .i64 x.list, .int .i64 x.off, .int .i64 x.time, .int .i64 x.rcd.delta, .int .i64 x.rcd.time, .bool x.rcd.keyed, .string ⟨x.rcd.key.toArray⟩, .bool x.rcd.dead, .string ⟨x.rcd.value.toArray⟩] 36))
         have oX1 : ObjAt (w1.alloc (.cells #[.int .i64 x.list, .int .i64 x.off, .int .i64 x.time, .int .i64 x.rcd.delta, .int .i64 x.rcd.time, .bool x.rcd.keyed, .string ⟨x.rcd.key.toArray⟩, .bool x.rcd.dead, .string ⟨x.rcd.value.toArray⟩] 36)) w1.heap.size 36 (itmCells x) := heap_alloc_new w1 _
         have oR1 := oR0.ext (hx1.trans (Ext.alloc w1 (.cells #[.int .i64 x.list, .int .i64 x.off, .int .i64 x.time, .int .i64 x.rcd.delta, .int .i64 x.rcd.time, .bool x.rcd.keyed, .string ⟨x.rcd.key.toArray⟩, .bool x.rcd.dead, .string ⟨x.rcd.value.toArray⟩] 36)))
         have cm1 := (HHX.out.ext hx1a).box.cell (j := 0) rfl
         have cs1 := hx1a.cell cs0
         have HW1 := Lib.hid (hx0.trans hx1).size)
      | (go_at_call 45; refine (DR1 _ (ou.ext hx1a) (hu.ext hx1a)).mono ?_; rintro e w2 ⟨u', rfl, rfl, hu', hub'⟩
         have c2 : Chg (fun k => k = g) (w1.alloc (.cells #[.int .i64 x.list, .int .i64 x.off, .int .i64 x.time, .int .i64 x.rcd.delta, .int .i64 x.rcd.time, .bool x.rcd.keyed, .string ⟨x.rcd.key.toArray⟩, .bool x.rcd.dead, .string ⟨x.rcd.value.toArray⟩] 36)) ((w1.alloc (.cells #[.int .i64 x.list, .int .i64 x.off, .int .i64 x.time, .int .i64 x.rcd.delta, .int .i64 x.rcd.time, .bool x.rcd.keyed, .string ⟨x.rcd.key.toArray⟩, .bool x.rcd.dead, .string ⟨x.rcd.value.toArray⟩] 36)).setCell ⟨g, 0, none⟩ u') := Chg.set _ _ _ rfl
         have cm2 := ((HHX.out.ext hx1a).box.chg c2 (fun e => HGM.out e.symm)).cell (j := 0) rfl))
    have hgw := HOL.out g (.inr (.inr hgm))
    have oR2 := oR1.chg c2 (fun e => by omega)
    have oX2 := oX1.chg c2 (fun e => by have := HW1.out; omega)
    have hq2 : Chg (Own m v0 gs) w _ := hx1a.chg.trans (c2.mono fun k _ e => .inr (.inr (e ▸ hgm)))
    have ht2 := Tops.set (HTO.out.ext hx1a (fun y hy => HOL.out y (.inr (.inr hy)))) hgm (ou.ext hx1a) hub' (fun y hy => Nat.lt_of_lt_of_le (HOL.out y (.inr (.inr hy))) hx1a.size)
    have csn2 := chg_cell c2 (hx1a.cell csn0) (fun e => HGB.out e)
    have cs02 := chg_cell c2 (hx1a.cell cs0) (fun e => HGB.out e)
    have hr2 := owns_chg (HHX.out.ext hx1a).row c2 (fun k e e2 => HGB.out (by cases e; exact e2))
    rw [HHX.out.len] at hr2
    generalize hW2 : (w1.alloc (.cells #[.int .i64 x.list, .int .i64 x.off, .int .i64 x.time, .int .i64 x.rcd.delta, .int .i64 x.rcd.time, .bool x.rcd.keyed, .string ⟨x.rcd.key.toArray⟩, .bool x.rcd.dead, .string ⟨x.rcd.value.toArray⟩] 36)).setCell ⟨g, 0, none⟩ u' = w2 at *
    have HW2 := Lib.hid hW2
    clear hW2 hgw
    apply wp_region_dag_tail 12 (X := Ext) (by kernel_rfl) (by kernel_rfl) (by kernel_rfl) (by decide) (fun _ _ _ => Ext.trans) (Ext.drew1 _)
    simp only [List.take_succ_cons, List.take_zero, List.drop_succ_cons, List.drop_zero]
    apply dag_val Ext.refl rfl (by intro W hW H; go_simp <;> rfl)
    simp only [Act.put, List.setIfInBounds_toArray, List.set_cons_zero, List.set_cons_succ]
    apply dag_val Ext.refl rfl (by intro W hW H; go_simp <;> rfl)
    simp only [Act.put, List.setIfInBounds_toArray, List.set_cons_zero, List.set_cons_succ]
    apply dag_val Ext.refl rfl (by intro W hW H; go_simp <;> rfl)
    simp only [Act.put, List.setIfInBounds_toArray, List.set_cons_zero, List.set_cons_succ]
    apply dag_val Ext.refl rfl (by intro W hW H; have q0 := hW.cell cm2; go_simp <;> rfl)
    simp only [Act.put, List.setIfInBounds_toArray, List.set_cons_zero, List.set_cons_succ]
    apply dag_val Ext.refl rfl (by intro W hW H; go_simp <;> rfl)
    simp only [Act.put, List.setIfInBounds_toArray, List.set_cons_zero, List.set_cons_succ]
    apply dag_val Ext.refl rfl (by intro W hW H; go_simp <;> rfl)
    simp only [Act.put, List.setIfInBounds_toArray, List.set_cons_zero, List.set_cons_succ]
    apply dag_val Ext.refl rfl (by intro W hW H; go_simp <;> rfl)
    simp only [Act.put, List.setIfInBounds_toArray, List.set_cons_zero, List.set_cons_succ]
    apply dag_val Ext.refl rfl (by intro W hW H; have q0 := hW.cell cm2; go_simp <;> rfl)
    simp only [Act.put, List.setIfInBounds_toArray, List.set_cons_zero, List.set_cons_succ]
    apply dag_val Ext.refl rfl (by intro W hW H; go_simp <;> rfl)
    simp only [Act.put, List.setIfInBounds_toArray, List.set_cons_zero, List.set_cons_succ]
    apply dag_val Ext.refl rfl (by intro W hW H; go_simp <;> rfl)
    simp only [Act.put, List.setIfInBounds_toArray, List.set_cons_zero, List.set_cons_succ]
    apply dag_val Ext.refl rfl (by intro W hW H; have q0 := hW.cell csn2; go_simp <;> rfl)
    simp only [Act.put, List.setIfInBounds_toArray, List.set_cons_zero, List.set_cons_succ]
    apply dag_val Ext.refl rfl (by intro W hW H; have q0 := HPOS.out; go_simp <;> rfl)
    simp only [Act.put, List.setIfInBounds_toArray, List.set_cons_zero, List.set_cons_succ]
    refine dag_end fun W6 hW6 H => ?_
    clear H
    have hr6 := owns_chg hr2 (X := fun _ => False) hW6.chg (fun _ _ h => h)
    have cs06 := hW6.cell cs02
    have f06 := World.ownsRow.frozenAt hr6 0
    have c7 : Chg (fun k => k = b) W6 (W6.setCell ⟨b, 0, none⟩ (srcv g')) := Chg.set _ _ _ rfl
    have hbm : ¬ m = b := fun e => HHX.out.mv (by rw [e]; rfl)
    have HBM := Lib.hid hbm
    have ob7 := (((HHX.out.ext hx1a).box.chg c2 (fun e => HGM.out e.symm)))
    have ob7' := (ob7.ext hW6).chg c7 hbm
    have cm7 := ob7'.cell (j := 0) rfl
    have fm7 := ob7'.free 0
    have c8 : Chg (fun k => k = m) (W6.setCell ⟨b, 0, none⟩ (srcv g')) ((W6.setCell ⟨b, 0, none⟩ (srcv g')).setCell ⟨m, 0, none⟩ (.slice (some ⟨b, 0, none⟩) n c)) := Chg.set _ _ _ rfl
    have hD8 : Heap B ((W6.setCell ⟨b, 0, none⟩ (srcv g')).setCell ⟨m, 0, none⟩ (.slice (some ⟨b, 0, none⟩) n c)) m vq gq (dropH hs) nw := by
      rw [HVQ.out, HGQ.out]
      have hh1 : Heap B (w1.alloc (.cells #[.int .i64 x.list, .int .i64 x.off, .int .i64 x.time, .int .i64 x.rcd.delta, .int .i64 x.rcd.time, .bool x.rcd.keyed, .string ⟨x.rcd.key.toArray⟩, .bool x.rcd.dead, .string ⟨x.rcd.value.toArray⟩] 36)) m (.slice (some ⟨b, 0, none⟩) (n + 1) c) gs hs nw := by rw [← HN1.out]; exact HHX.out.ext hx1a
      exact Heap.fewer hh1 hg0 hg' (u := u') (by rw [HW2.out]; exact hW6) (Ext.refl _) HN1.out HD0.out
    have hbw : b < w.heap.size := (HHX.out.row.lt b rfl).2
    have hmw := HOL.out m (.inl rfl)
    have oR8 := ((oR2.ext hW6).chg c7 (fun e => by omega)).chg c8 (fun e => by omega)
    have oX8 := ((oX2.ext hW6).chg c7 (fun e => by have := HW1.out; omega)).chg c8 (fun e => by have := HW1.out; omega)
    have hq8 : Chg (Own m v0 gs) w _ := ((hq2.trans hW6.chg).trans (c7.mono (Y := Own m v0 gs) fun k _ e => .inr (.inl (by rw [HV0.out, e]; rfl)))).trans (c8.mono (Y := Own m v0 gs) fun k _ e => .inl e)
    have hl2 : ∀ y ∈ gs, y < w2.heap.size := fun y hy => Nat.lt_of_lt_of_le (HOL.out y (.inr (.inr hy))) (Nat.le_trans hx1a.size c2.size)
    have hgb : ∀ y ∈ gs, ¬ y = b := fun y hy e => HHX.out.vg y hy (by rw [e]; rfl)
    have hgm2 : ∀ y ∈ gs, ¬ y = m := fun y hy e => HHX.out.mg (e ▸ hy)
    have ht8 : Tops P _ gq := (((ht2.ext hW6 hl2).chg c7 hgb (fun y hy => Nat.lt_of_lt_of_le (hl2 y hy) hW6.size)).chg c8 hgm2 (fun y hy => Nat.lt_of_lt_of_le (Nat.lt_of_lt_of_le (hl2 y hy) hW6.size) c7.size)).sub (fun y hy => by rw [HGQ.out] at hy; exact (List.mem_or_eq_of_mem_set (List.mem_of_mem_take hy)).elim (fun h9 => h9) fun h9 => by rw [h9]; exact hgm')
    have D1 := down_any B m vq gq (dropH hs) nw 0 _ hD8 HDL.out (by omega)
    have HQ8 := Lib.hid hq8
    have HT8 := Lib.hid ht8
    have HH8 := Lib.hid hD8
    clear c7 c8 hbm ob7 ob7' hr6 hr2 hbw hmw hl2 hgb hgm2 hq8 ht8 hD8 cm2 csn2 cs02 ht2 hq2 oR2 oX2
    go_wp2_with (first
      | ((with_reducible show wpList _ _ _ (Oper.mk _ (Op.slice _ _ _ _ _) _ _ _ _ :: _) _ _); refine st_sliceTo T.sources n c ?_)
      | (go_at_call 23; refine D1.mono ?_; rintro e w3 ⟨rfl, gs3, hp3, h3, hx3⟩
         have oR3 := oR8.chg hx3 (fun e => by have := HOL.out _ (HSUB.out _ (.inr (.inl e))); omega)
         have oX3 := oX8.chg hx3 (fun e => by have := HOL.out _ (HSUB.out _ (.inr (.inl e))); have := HW1.out; omega)
         have hq3 := HQ8.out.trans (hx3.mono fun k _ e => HSUB.out k (.inr (.inl e)))
         have ht3 := (HT8.out.chg hx3 (fun y hy => HH8.out.vg y hy) (fun y hy => HH8.out.own_lt y (.inr (.inr hy)))).sub (fun y hy => hp3.mem_iff.1 hy)
         have cn := h3.box.cell (j := 1) rfl
         have xt := oX3.cell (j := 2) rfl))
    apply wp_region_dag_tail 10 (X := Ext) (by kernel_rfl) (by kernel_rfl) (by kernel_rfl) (by decide) (fun _ _ _ => Ext.trans) (Ext.drew1 _)
    simp only [List.take_succ_cons, List.take_zero, List.drop_succ_cons, List.drop_zero]
    apply dag_val Ext.refl rfl (by intro W hW H; go_simp <;> rfl)
    simp only [Act.put, List.setIfInBounds_toArray, List.set_cons_zero, List.set_cons_succ]
    apply dag_val Ext.refl rfl (by intro W hW H; go_simp <;> rfl)
    simp only [Act.put, List.setIfInBounds_toArray, List.set_cons_zero, List.set_cons_succ]
    apply dag_val Ext.refl rfl (by intro W hW H; go_simp <;> rfl)
    simp only [Act.put, List.setIfInBounds_toArray, List.set_cons_zero, List.set_cons_succ]
    apply dag_val Ext.refl rfl (by intro W hW H; go_simp <;> rfl)
    simp only [Act.put, List.setIfInBounds_toArray, List.set_cons_zero, List.set_cons_succ]
    apply dag_val Ext.refl rfl (by intro W hW H; have q0 := hW.cell cn; go_simp <;> rfl)
    simp only [Act.put, List.setIfInBounds_toArray, List.set_cons_zero, List.set_cons_succ]
    apply dag_val Ext.refl rfl (by intro W hW H; go_simp <;> rfl)
    simp only [Act.put, List.setIfInBounds_toArray, List.set_cons_zero, List.set_cons_succ]
    apply dag_val Ext.refl rfl (by intro W hW H; have q0 := hW.cell xt; go_simp <;> rfl)
    simp only [Act.put, List.setIfInBounds_toArray, List.set_cons_zero, List.set_cons_succ]
    refine' dag_val Ext.refl rfl (fun W hW H => run_max rfl rfl rfl W) _
    rotate_left
    simp only [Act.put, List.setIfInBounds_toArray, List.set_cons_zero, List.set_cons_succ]
    apply dag_val Ext.refl rfl (by intro W hW H; go_simp <;> rfl)
    simp only [Act.put, List.setIfInBounds_toArray, List.set_cons_zero, List.set_cons_succ]
    apply dag_val Ext.refl rfl (by intro W hW H; go_simp <;> rfl)
    simp only [Act.put, List.setIfInBounds_toArray, List.set_cons_zero, List.set_cons_succ]
    refine dag_end fun W hW H => ?_
    clear H
    have hhW := h3.ext hW
    have cm := hhW.box.cell (j := 1) rfl
    have fm := hhW.box.free 1
    have hnew := hhW.newer (max nw x.time)
    have hsub : ∀ k, Own m vq gs3 k → Own m v0 gs k := fun k hk => HSUB.out k ((own_perm hp3 k).1 hk)
    have c9 : Chg (fun k => k = m) W (W.setCell ⟨m, 1, none⟩ (.int .i64 (max nw x.time))) := Chg.set _ _ _ rfl
    have hrm : ¬ w.heap.size = m := fun e => by have := HOL.out m (.inl rfl); omega
    have hxm : ¬ w1.heap.size = m := fun e => by have := HOL.out m (.inl rfl); have := HW1.out; omega
    have or9 := (oR3.ext hW).chg c9 hrm
    have ox9 := (oX3.ext hW).chg c9 hxm
    have ht9 := (ht3.ext hW (fun y hy => h3.own_lt y (.inr (.inr hy)))).chg c9 (fun y hy e => hhW.mg (e ▸ hy)) (fun y hy => hhW.own_lt y (.inr (.inr hy)))
    have HT9 := Lib.hid ht9
    clear ht9 ht3
    have y0 := ox9.cell (j := 0) rfl
    have y1 := ox9.cell (j := 1) rfl
    have y2 := ox9.cell (j := 2) rfl
    have y3 := ox9.cell (j := 3) rfl
    have y4 := ox9.cell (j := 4) rfl
    have y5 := ox9.cell (j := 5) rfl
    have y6 := ox9.cell (j := 6) rfl
    have y7 := ox9.cell (j := 7) rfl
    have y8 := ox9.cell (j := 8) rfl
    have s0 := or9.cell (j := 0) rfl
    have z0 := or9.free 0
    have or9_0 := or9.store 0 (.int .i64 x.list)
    have s1 := or9_0.cell (j := 1) rfl
    have z1 := or9_0.free 1
    have or9_1 := or9_0.store 1 (.int .i64 x.off)
    have s2 := or9_1.cell (j := 2) rfl
    have z2 := or9_1.free 2
    have or9_2 := or9_1.store 2 (.int .i64 x.time)
    have s3 := or9_2.cell (j := 3) rfl
    have z3 := or9_2.free 3
    have or9_3 := or9_2.store 3 (.int .i64 x.rcd.delta)
    have s4 := or9_3.cell (j := 4) rfl
    have z4 := or9_3.free 4
    have or9_4 := or9_3.store 4 (.int .i64 x.rcd.time)
    have s5 := or9_4.cell (j := 5) rfl
    have z5 := or9_4.free 5
    have or9_5 := or9_4.store 5 (.bool x.rcd.keyed)
    have s6 := or9_5.cell (j := 6) rfl
    have z6 := or9_5.free 6
    have or9_6 := or9_5.store 6 (.string ⟨x.rcd.key.toArray⟩)
    have s7 := or9_6.cell (j := 7) rfl
    have z7 := or9_6.free 7
    have or9_7 := or9_6.store 7 (.bool x.rcd.dead)
    have s8 := or9_7.cell (j := 8) rfl
    have z8 := or9_7.free 8
    have or9_8 := or9_7.store 8 (.string ⟨x.rcd.value.toArray⟩)
    have HN := Lib.hid hnew
    have OF : ObjAt _ w.heap.size 36 (itmCells x) := or9_8
    have HSB := Lib.hid hsub
    have hq3S := Lib.hid hq3
    have HQ9 := Lib.hid ((hq3.trans hW.chg).trans (c9.mono (Y := Own m v0 gs) fun k _ e => .inl e))
    clear hnew or9 or9_0 or9_1 or9_2 or9_3 or9_4 or9_5 or9_6 or9_7 or9_8 hsub ox9 c9 oR3 oX3 hq3 cn xt
    have HS9 := Lib.hid (Nat.le_trans ((hq3S.out.trans hW.chg).size) (Nat.le_of_eq (show W.heap.size = (W.setCell ⟨m, 1, none⟩ (.int .i64 (max nw x.time))).heap.size from by simp)))
    go_wp2_with fail
    refine bodyPost_ret (itm_results2 rfl _ _ w.heap.size x rfl OF) rfl ?_
    have cF : Chg (fun k => k = w.heap.size) (W.setCell ⟨m, 1, none⟩ (.int .i64 (max nw x.time))) _ := ((((((((Chg.set (X := fun k => k = w.heap.size) _ ⟨w.heap.size, 0, none⟩ (.int .i64 x.list) rfl).trans (Chg.set _ ⟨w.heap.size, 1, none⟩ (.int .i64 x.off) rfl)).trans (Chg.set _ ⟨w.heap.size, 2, none⟩ (.int .i64 x.time) rfl)).trans (Chg.set _ ⟨w.heap.size, 3, none⟩ (.int .i64 x.rcd.delta) rfl)).trans (Chg.set _ ⟨w.heap.size, 4, none⟩ (.int .i64 x.rcd.time) rfl)).trans (Chg.set _ ⟨w.heap.size, 5, none⟩ (.bool x.rcd.keyed) rfl)).trans (Chg.set _ ⟨w.heap.size, 6, none⟩ (.string ⟨x.rcd.key.toArray⟩) rfl)).trans (Chg.set _ ⟨w.heap.size, 7, none⟩ (.bool x.rcd.dead) rfl)).trans (Chg.set _ ⟨w.heap.size, 8, none⟩ (.string ⟨x.rcd.value.toArray⟩) rfl)
    have hno : ∀ q, Own m vq gs3 q → ¬ q = w.heap.size := fun q hq e => by have := HOL.out q (HSB.out q hq); omega
    have hFin := HN.out.chg cF hno (fun j y z hy hz q hq e => by have := HTT.out q (HT9.out y (List.mem_of_getElem? hy) z hz q hq); omega)
    have hFt := HT9.out.chg cF (fun y hy e => hno y (.inr (.inr hy)) e) (fun y hy => HN.out.own_lt y (.inr (.inr hy)))
    exact ⟨rfl, vq, gs3, hFin, fun k hk => by rw [← HV0.out]; exact HSB.out k hk, by rw [← HV0.out]; exact HQ9.out.thenNew cF, hFt⟩
end Go.Proofs.Ytmoljicchgcnfaa
