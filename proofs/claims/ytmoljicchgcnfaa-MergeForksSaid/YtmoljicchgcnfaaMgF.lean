/- What Fork of layer 34 makes: a merger of its own. -/
import Derived.Test.YtmoljicchgcnfaaLaw34
namespace Go.Proofs.Ytmoljicchgcnfaa
open Go.RowKit

theorem itm_free {S T : Nat → Prop} {w : World} {v : Value} {xs : List Itm} (h : SRow 9 RItm S w v xs) : SRow 9 RItm T w v xs := by
  obtain ⟨css, p, c, h1, h2, h3, h4, h5, h6⟩ := h
  exact ⟨css, p, c, h1, h2, h3, h4, h5, h6.1, fun j cs x hc hx w' _ => (h6.2 j cs x hc hx).now⟩
set_option maxHeartbeats 1000000 in
theorem sclone_any (v : Value) (l : List Itm) (w : World) (h : ItmV w v l) (hl : l.length ≤ 100000) :
    Calls Try.prog 49 #[v] w fun e w' => ∃ v', e = .returned v' ∧ ItmO w' w.heap.size v' l ∧ Ext w w' := by
  obtain ⟨p, c, rfl, _, hcm⟩ := h.slice
  unfold maxLen at hcm
  have qT : ∀ (w : World) (a : Option Addr) (n c n' c' : Nat), (binOp .eql 31 (.slice a n c) (.slice none n' c')).run Try.prog w = .ok (.bool a.isNone) w := fun w a n c n' c' => Lib.run_eql_slice_nil w _ _ a n c n' c' Try.underlying31
  cases p with
  | none =>
    have hn : l = [] := by
      cases l with
      | nil => rfl
      | cons x r =>
        obtain ⟨b, o, e, _⟩ := itm_at h (j := 0) (by simp)
        cases e
    subst hn
    go_enter Try.func49, Try.ntmps49
    go_wp2_with fail
    go_ret
    exact ⟨_, rfl, ORow.nil _ _ _, Ext.refl _⟩
  | some ad =>
    have hx0 := Ext.alloc w (.cells #[] 36)
    have h1 : SRow 9 RItm (fun k => False ∧ some k ≠ (Value.slice (some ⟨w.heap.size, 0, none⟩) 0 0).ownBlock) (w.alloc (.cells #[] 36)) (.slice (some ad) l.length c) l := itm_free (h.ext hx0)
    have hown : ItmO (w.alloc (.cells #[] 36)) w.heap.size (.slice (some ⟨w.heap.size, 0, none⟩) 0 0) [] := ORow.lit0 _ w (Nat.le_refl _)
    go_enter Try.func49, Try.ntmps49
    go_wp2_with (at_builtin; refine st_items T.items hown h1 ?_ (by simp [maxLen]; omega) (by simp; omega) (by simp); intro v2 w2 ho2 hg2 hw2; have hx2 := hown.grown hx0 hg2)
    go_ret
    exact ⟨_, rfl, by simpa using ho2, hx2⟩
set_option maxHeartbeats 1000000 in
theorem fork_any (g : Nat) (l : Src) (v : Value) (w : World) (ho : ObjAt w g 59 [v]) (hv : ItmV w v l) (hl : l.length ≤ 100000) :
    Calls Try.prog 46 #[.pointer (some ⟨g, 0, none⟩)] w fun e w' => ∃ g' v', e = .returned (srcv g') ∧ ObjAt w' g' 59 [v'] ∧ ItmV w' v' l ∧ w.heap.size ≤ g' ∧ (∀ k, v'.ownBlock = some k → w.heap.size ≤ k ∧ k ≠ g' ∧ k < w'.heap.size) ∧ Ext w w' := by
  have C1 := fun W h => sclone_any v l W h hl
  obtain ⟨p, c, rfl, _, _⟩ := hv.slice
  have cv := ho.cell (j := 0) rfl
  go_enter Try.func46, Try.ntmps46
  go_wp2_with (go_at_call 49; refine (C1 _ hv).mono ?_; rintro e w1 ⟨v1, rfl, ho1, hx1⟩
               obtain ⟨p1, c1, e1, _, _⟩ := (itm_view ho1).slice
               subst e1)
  go_ret
  have hxb := Ext.alloc w1 (.cells #[.slice p1 l.length c1] 59)
  refine ⟨_, _, rfl, heap_alloc_new w1 _, (itm_view ho1).ext hxb, hx1.size, fun k e => ?_, hx1.trans hxb⟩
  have := ho1.own k e
  exact ⟨this.1, by omega, by simp; omega⟩

/-- What a fork is made of: a box, its items. -/
def Forked (w0 : World) (l : Src) (g : Nat) (u : Value) (W : World) : Prop := ObjAt W g 59 [u] ∧ ItmV W u l ∧ w0.heap.size ≤ g ∧ ∀ k, u.ownBlock = some k → w0.heap.size ≤ k ∧ k ≠ g
theorem Forked.ext {w0 W W' : World} {l : Src} {g : Nat} {u : Value} (h : Forked w0 l g u W) (hx : Ext W W') : Forked w0 l g u W' := ⟨h.1.ext hx, h.2.1.ext hx, h.2.2.1, h.2.2.2⟩
theorem Forked.grown {w0 W W' : World} {l : Src} {g : Nat} {u hv : Value} (h : Forked w0 l g u W) (hz : W.grownBy W' hv.ownBlock) (hl : ∀ k, hv.ownBlock = some k → k < w0.heap.size) : Forked w0 l g u W' := by
  have c7 : Chg (fun k => hv.ownBlock = some k) W W' := ⟨hz.os, hz.tape, hz.output, hz.size, fun k hk hn => hz.block k hk fun e => hn e.symm⟩
  exact ⟨h.1.chg c7 (fun e => by have := hl _ e; have := h.2.2.1; omega), itm_chg h.2.1 c7 (fun b hb e => by have := hl _ e; have := (h.2.2.2 b hb).1; omega), h.2.2⟩
/-- A literal of one fork. -/
def LitS (w0 W : World) (l : Src) (v : Value) : Prop := ∃ b g u, v = .slice (some ⟨b, 0, none⟩) 1 1 ∧ w0.heap.size ≤ b ∧ W.cell? ⟨b, 0, none⟩ = some (srcv g) ∧ Forked w0 l g u W
theorem LitS.ext {w0 W W' : World} {l : Src} {v : Value} (h : LitS w0 W l v) (hx : Ext W W') : LitS w0 W' l v := by
  obtain ⟨b, g, u, h1, h2, h3, h4⟩ := h
  exact ⟨b, g, u, h1, h2, hx.cell h3, h4.ext hx⟩
theorem LitS.grown {w0 W W' : World} {l : Src} {v hv : Value} (h : LitS w0 W l v) (hz : W.grownBy W' hv.ownBlock) (hl : ∀ k, hv.ownBlock = some k → k < w0.heap.size) : LitS w0 W' l v := by
  obtain ⟨b, g, u, h1, h2, h3, h4⟩ := h
  exact ⟨b, g, u, h1, h2, (keeps_grown hz).cell (fun e => by have := hl b e.symm; omega) h3, h4.grown hz hl⟩
theorem LitS.new {w0 W : World} {l : Src} {g : Nat} {u : Value} (hx : Ext w0 W) (hf : Forked w0 l g u W) : LitS w0 (W.alloc (.cells #[srcv g] 62)) l (.slice (some ⟨W.heap.size, 0, none⟩) 1 1) :=
  ⟨_, g, u, rfl, hx.size, ObjAt.cell (t := 62) (cs := [srcv g]) (heap_alloc_new W _) (j := 0) rfl, hf.ext (Ext.alloc _ _)⟩
theorem LitS.row {w0 W : World} {l : Src} {v : Value} (h : LitS w0 W l v) (S : Nat → Prop) : ∃ g u, SRow 1 RG S W v [g] ∧ Forked w0 l g u W := by
  obtain ⟨b, g, u, rfl, h2, h3, h4⟩ := h
  refine ⟨g, u, ⟨[[srcv g]], _, 1, fun cs hcs => ?_, rfl, Nat.le_refl _, by simp [maxLen], fun _ => ⟨b, 0, rfl, fun j u hu => ?_⟩, Items.one fun w' _ => rfl⟩, h4⟩
  · simp at hcs; subst hcs; exact ⟨rfl, fun u hu => by simp at hu; subst hu; rfl⟩
  · cases j with
    | zero => simp at hu; subst hu; exact h3
    | succ j => simp at hu
/-- A row of sources, one fork longer. -/
def Pushed (w0 W : World) (B : Nat) (hv v : Value) (gs : List Nat) (l : Src) : Prop := ∃ Wb g u, Ext w0 Wb ∧ Forked w0 l g u Wb ∧ GRow W B v (gs ++ [g]) ∧ Wb.grownBy W hv.ownBlock ∧ (v.ownBlock = hv.ownBlock ∨ v.ownBlock = some Wb.heap.size)
theorem Pushed.ext {w0 W W' : World} {B : Nat} {hv v : Value} {gs : List Nat} {l : Src} (h : Pushed w0 W B hv v gs l) (hx : Ext W W') : Pushed w0 W' B hv v gs l := by
  obtain ⟨Wb, g, u, h1, h2, h3, h4, h5⟩ := h
  exact ⟨Wb, g, u, h1, h2, h3.keep hx, grown_ext h4 hx, h5⟩
theorem pushes {o : Oper} {a : Act} {x y : Operand} (ho : o.op = .call { callee := .builtin .append, args := #[x, y], argTypes := #[54, 54] })
    {w0 W : World} {B : Nat} {hv vy : Value} {gs : List Nat} {l : Src} (ex : a.eval x = hv) (ey : a.eval y = vy) (h0 : GRow W B hv gs) (hx : Ext w0 W) (hy : LitS w0 W l vy) (hlen : gs.length ≤ 1000) (hB : B ≤ w0.heap.size) :
    ∃ v W', (execOp a.eval o).run Try.prog W = .ok (.value v) W' ∧ W.grownBy W' hv.ownBlock ∧ Pushed w0 W' B hv v gs l := by
  obtain ⟨g, u, hs, hf⟩ := hy.row (fun k => False ∧ some k ≠ hv.ownBlock)
  obtain ⟨v', w', hr, h1, h2, h3⟩ := run_append_items T.sources o.type h0 hs (by simp [maxLen]; omega) (by simp; omega) (Nat.le_trans hB hx.size)
  exact ⟨v', w', run_op_append ho ex ey hr, h2, W, g, u, hx, hf, h1, h2, h3⟩
set_option maxRecDepth 20000 in
set_option maxHeartbeats 8000000 in
theorem mfork_any (B : Nat) (m : Nat) (v : Value) (gs : List Nat) (hs : List Src) (nw : Int) (w : World) (h : Heap B w m v gs hs nw) (hn : hs.length ≤ 1000) (hb : leftH hs ≤ 100000) :
    Calls Try.prog 16 #[.pointer (some ⟨m, 0, none⟩)] w fun e w' => ∃ m2 v2 gs2, e = .returned (.pointer (some ⟨m2, 0, none⟩)) ∧ Heap w.heap.size w' m2 v2 gs2 hs nw ∧ Tops (fun k => w.heap.size ≤ k) w' gs2 ∧ Ext w w' := by
  obtain ⟨p, c, rfl, hlc, hcm⟩ := h.shape
  unfold maxLen at hcm
  have cv := h.box.cell (j := 0) rfl
  have cn := h.box.cell (j := 1) rfl
  have mf := method_fork
  have hx0 := Ext.alloc w (.cells #[.slice none 0 0, .int .i64 nw] 56)
  have cv0 := hx0.cell cv
  have h0 : Heap w.heap.size (w.alloc (.cells #[.slice none 0 0, .int .i64 nw] 56)) w.heap.size (.slice none 0 0) [] (hs.take 0) nw := by
    refine ⟨heap_alloc_new w _, World.ownsRow_nil _ _ _ _, rfl, ?_, ?_, Nat.le_refl _, ?_, List.nodup_nil, ?_, ?_, ?_⟩
    · intro j g hg; simp at hg
    · intro s hs; simp at hs
    · intro g hg; simp at hg
    · intro hg; simp at hg
    · intro e; cases e
    · intro g hg; simp at hg
  have ht0 : Tops (fun k => w.heap.size ≤ k) (w.alloc (.cells #[.slice none 0 0, .int .i64 nw] 56)) [] := fun g hg => by simp at hg
  go_enter Try.func16, Try.ntmps16
  go_wp2_with fail
  go_loopg [19] (hs.length) (fun k s19 wr => ∃ (j : Nat) (hv : Value) (gs2 : List Nat), s19 = .int .i64 j ∧ j ≤ hs.length ∧ k = hs.length - j ∧ Hid (Heap w.heap.size wr w.heap.size hv gs2 (hs.take j) nw) ∧ Hid (Tops (fun k => w.heap.size ≤ k) wr gs2) ∧ Ext w wr)
  case atStart => exact ⟨0, _, _, rfl, Nat.zero_le _, rfl, Lib.hid h0, Lib.hid ht0, hx0⟩
  case round =>
    obtain ⟨j, hv, gs2, rfl, hj, hk, HH, HT, hx⟩ := hrel
    by_cases hlt : j < hs.length
    case pos =>
      have hi : (j : Int) < (hs.length : Int) := by omega
      obtain ⟨b, c', g, u, e9, hg, cs, ou, hu, hne⟩ := h.src hlt
      cases e9
      have csr := hx.cell cs
      have hlen : (at_ hs j).length ≤ 100000 := by
        have h1 := flat_take hlt
        have h2 := flat_le hs (j + 1)
        omega
      have F1 := fun W o v => fork_any g (at_ hs j) u W o v hlen
      have hcm0 := HH.out.box.cell (j := 0) rfl
      have htk : hs.take (j + 1) = hs.take j ++ [at_ hs j] := by
        rw [List.take_succ_eq_append_getElem hlt]
        unfold at_
        rw [List.getD_eq_getElem?_getD, List.getElem?_eq_getElem hlt]
        rfl
      have HTK := Lib.hid htk
      have HNE := Lib.hid hne
      have hglen : gs2.length ≤ 1000 := by rw [HH.out.len, List.length_take]; omega
      have HGL := Lib.hid hglen
      have HLS := Lib.hid hx.size
      have HVL := Lib.hid (fun k e => HH.out.own_lt k (.inr (.inl e)))
      generalize at_ hs j = l at *
      have our := ou.ext hx
      have hur := hu.ext hx
      clear htk hne hlen hglen ou hu cs
      go_wp2_with fail
      apply wp_region_dagK 8 11 (fun a b => a.grownBy b hv.ownBlock) (X := Ext) (by kernel_rfl) (by kernel_rfl) (by kernel_rfl) (by decide) (by decide) (fun _ _ _ => Ext.trans) (Ext.drew1 _)
      simp only [List.take_succ_cons, List.take_zero, List.drop_succ_cons, List.drop_zero]
      apply dagk_val Ext.refl rfl (by intro W hW H; go_simp <;> rfl)
      simp only [Act.put, List.setIfInBounds_toArray, List.set_cons_zero, List.set_cons_succ]
      apply dagk_val Ext.refl rfl (by intro W hW H; go_simp <;> rfl)
      simp only [Act.put, List.setIfInBounds_toArray, List.set_cons_zero, List.set_cons_succ]
      apply dagk_val Ext.refl rfl (by intro W hW H; go_simp <;> rfl)
      simp only [Act.put, List.setIfInBounds_toArray, List.set_cons_zero, List.set_cons_succ]
      apply dagk_val Ext.refl rfl (by intro W hW H; go_simp <;> rfl)
      simp only [Act.put, List.setIfInBounds_toArray, List.set_cons_zero, List.set_cons_succ]
      apply dagk_val Ext.refl rfl (by intro W hW H; have hW := hW (by kernel_rfl); have q0 := hW.cell hcm0; go_simp <;> rfl)
      simp only [Act.put, List.setIfInBounds_toArray, List.set_cons_zero, List.set_cons_succ]
      apply dagk_val Ext.refl rfl (by intro W hW H; go_simp <;> rfl)
      simp only [Act.put, List.setIfInBounds_toArray, List.set_cons_zero, List.set_cons_succ]
      refine' dagk_calls (fun v W => ∃ g' u', v = srcv g' ∧ Forked wr l g' u' W) (fun v W W' hs ⟨g', u', e, hb⟩ => ⟨g', u', e, hs.elim (fun hx => hb.ext hx) fun hz => hb.grown hz.2 HVL.out⟩) rfl (by intro W; go_simp <;> rfl) (fun W hW H => (F1 W (our.ext (hW (by kernel_rfl))) (hur.ext (hW (by kernel_rfl)))).mono (by rintro e w' ⟨g', u', rfl, o1, o2, o3, o4, o5⟩; exact ⟨_, rfl, ⟨g', u', rfl, o1, o2, Nat.le_trans (hW (by kernel_rfl)).size o3, fun k e => ⟨Nat.le_trans (hW (by kernel_rfl)).size (o4 k e).1, (o4 k e).2.1⟩⟩, stepk_x o5 (by decide)⟩)) (fun r => _)
      rotate_left
      simp only [Act.put, List.setIfInBounds_toArray, List.set_cons_zero, List.set_cons_succ]
      refine' dagk_run (fun v W => LitS wr W l v) (fun v W W' hs h => hs.elim (fun hx => h.ext hx) fun hz => h.grown hz.2 HVL.out) rfl (fun W hW H => (show ∃ g' u', r = srcv g' ∧ Forked wr l g' u' W from H 6 (by kernel_rfl)).elim fun g' hq => hq.elim fun u' hq2 => by obtain ⟨rfl, hf⟩ := hq2; exact ⟨.slice (some ⟨W.heap.size, 0, none⟩) 1 1, W.alloc (.cells #[srcv g'] 62), (by go_simp <;> rfl), stepk_x (Ext.alloc _ _) (by decide), LitS.new (hW (by kernel_rfl)) hf⟩) (fun u7 => _)
      rotate_left
      simp only [Act.put, List.setIfInBounds_toArray, List.set_cons_zero, List.set_cons_succ]
      refine' dagk_run (fun v W => Pushed wr W w.heap.size hv v gs2 l) (fun v W W' hs h => hs.elim (fun hx => h.ext hx) fun hz => absurd rfl hz.1) rfl (fun W hW H => (pushes (hv := hv) (vy := u7) rfl rfl rfl (GOwn.row (HH.out.ext (hW (by kernel_rfl))).row) (hW (by kernel_rfl)) (show LitS wr W l u7 from H 7 (by kernel_rfl)) HGL.out HLS.out).imp fun v hvv => hvv.imp fun W' hw => ⟨hw.1, stepk_z hw.2.1, hw.2.2⟩) (fun v7 => _)
      rotate_left
      simp only [Act.put, List.setIfInBounds_toArray, List.set_cons_zero, List.set_cons_succ]
      apply dagk_val Ext.refl rfl (by intro W hW H; go_simp <;> rfl)
      simp only [Act.put, List.setIfInBounds_toArray, List.set_cons_zero, List.set_cons_succ]
      apply dagk_val Ext.refl rfl (by intro W hW H; go_simp <;> rfl)
      simp only [Act.put, List.setIfInBounds_toArray, List.set_cons_zero, List.set_cons_succ]
      refine dagk_end fun w7 H => ?_
      obtain ⟨W, g', u', hW, hfk, ho7, hg7, hw7⟩ : Pushed wr w7 w.heap.size hv v7 gs2 l := H 8
      clear H
      have hhW := HH.out.ext hW
      have hpush := Heap.push HH.out hW hfk.2.2.1 hfk.1 hfk.2.1 HNE.out hfk.2.2.2 ho7 hg7 hw7
      have htp : Tops (fun k => w.heap.size ≤ k) (w7.setCell ⟨w.heap.size, 0, none⟩ v7) (gs2 ++ [g']) := by
        have c7 : Chg (fun k => hv.ownBlock = some k) W w7 := ⟨hg7.os, hg7.tape, hg7.output, hg7.size, fun k hk hn => hg7.block k hk fun e => hn e.symm⟩
        have c8 : Chg (fun k => k = w.heap.size) w7 (w7.setCell ⟨w.heap.size, 0, none⟩ v7) := Chg.set _ _ _ rfl
        have hl0 : ∀ y ∈ gs2, y < W.heap.size := fun y hy => hhW.own_lt y (.inr (.inr hy))
        have h1 := ((HT.out.ext hW (fun y hy => HH.out.own_lt y (.inr (.inr hy)))).chg c7 (fun y hy => hhW.vg y hy) hl0).chg c8 (fun y hy e => hhW.mg (e ▸ hy)) (fun y hy => Nat.lt_of_lt_of_le (hl0 y hy) c7.size)
        have hgv : ¬ hv.ownBlock = some g' := fun e => by have := HH.out.own_lt g' (.inr (.inl e)); have := hfk.2.2.1; omega
        have hgm : ¬ g' = w.heap.size := fun e => by have := HH.out.box.lt; have := hfk.2.2.1; omega
        intro y hy z hz k hk2
        rcases List.mem_append.1 hy with hy | hy
        · exact h1 y hy z hz k hk2
        · rw [List.mem_singleton] at hy
          subst hy
          have o9 := (hfk.1.chg c7 hgv).chg c8 hgm
          have e9 := obj_one hz o9
          subst e9
          exact Nat.le_trans hx.size (hfk.2.2.2 k hk2).1
      have ob7 : ObjAt w7 w.heap.size 56 [hv, .int .i64 nw] := hhW.box.kept hg7 (fun e => HH.out.mv e.symm)
      have c7' := ob7.cell (j := 0) rfl
      have f7 := ob7.free 0
      have hx7 : Ext w w7 := (⟨hg7.os, hg7.tape, hg7.output, hg7.size, fun k hk hn => hg7.block k hk fun e => hn e.symm⟩ : Chg (fun k => hv.ownBlock = some k) W w7).ext (hx.trans hW) (fun k e => (HH.out.row.lt k e).1)
      obtain ⟨p7, d7, e7, _, _⟩ := (ORow.view ho7).slice
      rw [show (gs2 ++ [g']).length = gs2.length + 1 from by simp] at e7
      subst e7
      have HP := Lib.hid hpush
      have HTP := Lib.hid htp
      clear hpush htp
      go_wp2_with fail
      go_roundg (hs.length - (j + 1))
      case measure => omega
      case rel => exact ⟨j + 1, _, _, by go_num, hlt, rfl, Lib.hid (by rw [HTK.out]; exact HP.out), HTP, (Chg.set (X := fun k => k = w.heap.size) w7 ⟨w.heap.size, 0, none⟩ _ rfl).ext hx7 (fun k e => by omega)⟩
    case neg =>
      have hje : j = hs.length := by omega
      subst hje
      have hi : ¬ (hs.length : Int) < (hs.length : Int) := by omega
      have hfin := HH.out
      rw [List.take_length] at hfin
      have HF := Lib.hid hfin
      clear hfin hlt
      go_wp2_with fail
      go_ret
      exact ⟨_, rfl, _, _, HF.out, HT.out, hx⟩

/-! ### A merger that is not there -/
set_option maxHeartbeats 400000 in
theorem next_nil (w : World) : Calls Try.prog 15 #[.pointer none] w fun e w' => e = .returned (.tuple #[itmv itm0, .bool false]) ∧ Ext w w' := by
  have hx0 := Ext.alloc w (.cells #[.int .i64 0, .int .i64 0, .int .i64 0, .int .i64 0, .int .i64 0, .bool false, .string ⟨#[]⟩, .bool false, .string ⟨#[]⟩] 36)
  have hw : ObjAt (w.alloc (.cells (itmCells itm0).toArray 36)) w.heap.size 36 (itmCells itm0) := heap_alloc_new w _
  go_enter Try.func15, Try.ntmps15
  go_wp2_with fail
  refine bodyPost_ret (itm_results2 rfl _ _ w.heap.size itm0 rfl hw) rfl ?_
  exact ⟨rfl, hx0⟩
set_option maxHeartbeats 400000 in
theorem left_nil (w : World) : Calls Try.prog 17 #[.pointer none] w fun e w' => e = .returned (.int .i64 0) ∧ w' = w := by
  go_enter Try.func17, Try.ntmps17
  go_wp2_with fail
  go_ret
  exact ⟨rfl, rfl⟩
set_option maxHeartbeats 400000 in
theorem newest_nil (w : World) : Calls Try.prog 18 #[.pointer none] w fun e w' => e = .returned (.int .i64 (-1)) ∧ w' = w := by
  go_enter Try.func18, Try.ntmps18
  go_wp2_with fail
  go_ret
  exact ⟨rfl, rfl⟩
set_option maxHeartbeats 400000 in
theorem fork_nil (w : World) : Calls Try.prog 16 #[.pointer none] w fun e w' => e = .returned (.pointer none) ∧ w' = w := by
  go_enter Try.func16, Try.ntmps16
  go_wp2_with fail
  go_ret
  exact ⟨rfl, rfl⟩

/-! ### Mergers beside each other -/
/-- A merger whose blocks are of D, and whose items lie in blocks of P. -/
def Live (B : Nat) (P D : Nat → Prop) (w : World) (m : Nat) (hs : List Src) (nw : Int) : Prop := ∃ v gs, Heap B w m v gs hs nw ∧ Tops P w gs ∧ ∀ k, Own m v gs k → D k
section
variable {B : Nat} {P D : Nat → Prop} {w w' : World} {m : Nat} {hs : List Src} {nw : Int}
theorem Live.keep {X : Nat → Prop} (h : Live B P D w m hs nw) (k : Chg X w w') (hd : ∀ q, D q → ¬ X q) (hp : ∀ q, P q → ¬ X q) : Live B P D w' m hs nw := by
  obtain ⟨v, gs, h1, h2, h3⟩ := h
  exact ⟨v, gs, h1.chg k (fun b hb => hd b (h3 b hb)) (fun j g u hg hu b hb => hp b (h2 g (List.mem_of_getElem? hg) u hu b hb)), h2.chg k (fun g hg => hd g (h3 g (.inr (.inr hg)))) (fun g hg => h1.own_lt g (.inr (.inr hg))), h3⟩
theorem Live.ext (h : Live B P D w m hs nw) (k : Ext w w') : Live B P D w' m hs nw := h.keep (X := fun _ => False) k.chg (fun _ _ h => h) (fun _ _ h => h)
theorem Live.full (h : Live B P D w m hs nw) : Full hs := by obtain ⟨_, _, h1, _⟩ := h; exact h1.full
theorem live_next (h : Live B P D w m hs nw) (hne : hs ≠ []) (hb : hs.length ≤ 1000) (hP : ∀ k, P k → k < w.heap.size) :
    Calls Try.prog 15 #[.pointer (some ⟨m, 0, none⟩)] w fun e w' => e = .returned (.tuple #[itmv (topH hs), .bool true]) ∧ Live B P D w' m (nextH hs) (max nw (topH hs).time) ∧ Chg D w w' := by
  obtain ⟨v, gs, h1, h2, h3⟩ := h
  refine (next_some B m v gs hs nw w P h1 hne hb h2 hP).mono ?_
  rintro e w' ⟨rfl, v', gs', k1, k2, k3, k4⟩
  exact ⟨rfl, ⟨v', gs', k1, k4, fun k hk => h3 k (k2 k hk)⟩, k3.mono fun k _ hk => h3 k hk⟩
theorem live_none (h : Live B P D w m [] nw) : Calls Try.prog 15 #[.pointer (some ⟨m, 0, none⟩)] w fun e w' => e = .returned (.tuple #[itmv itm0, .bool false]) ∧ Ext w w' := by
  obtain ⟨v, gs, h1, _⟩ := h
  exact next_none B m v gs nw w h1
theorem live_left (h : Live B P D w m hs nw) (hb : leftH hs ≤ 100000) (hn : hs.length ≤ 1000) : Calls Try.prog 17 #[.pointer (some ⟨m, 0, none⟩)] w fun e w' => e = .returned (.int .i64 (leftH hs : Int)) ∧ w' = w := by
  obtain ⟨v, gs, h1, _⟩ := h
  exact mleft_any B m v gs hs nw w h1 hb hn
theorem live_newest (h : Live B P D w m hs nw) : Calls Try.prog 18 #[.pointer (some ⟨m, 0, none⟩)] w fun e w' => e = .returned (.int .i64 nw) ∧ w' = w := by
  obtain ⟨v, gs, h1, _⟩ := h
  exact newest_any B m v gs hs nw w h1
theorem live_fork (h : Live B P D w m hs nw) (hn : hs.length ≤ 1000) (hb : leftH hs ≤ 100000) :
    Calls Try.prog 16 #[.pointer (some ⟨m, 0, none⟩)] w fun e w' => ∃ m2, e = .returned (.pointer (some ⟨m2, 0, none⟩)) ∧ Live w.heap.size (fun k => w.heap.size ≤ k ∧ k < w'.heap.size) (fun k => w.heap.size ≤ k ∧ k < w'.heap.size) w' m2 hs nw ∧ Ext w w' := by
  obtain ⟨v, gs, h1, _⟩ := h
  refine (mfork_any B m v gs hs nw w h1 hn hb).mono ?_
  rintro e w' ⟨m2, v2, gs2, rfl, k1, k2, k3⟩
  have k4 := k1.tops
  exact ⟨m2, rfl, ⟨v2, gs2, k1, fun g hg u hu k hk => ⟨k2 g hg u hu k hk, k4 g hg u hu k hk⟩, fun k hk => ⟨k1.own_low k hk, k1.own_lt k hk⟩⟩, k3⟩
end
end Go.Proofs.Ytmoljicchgcnfaa
