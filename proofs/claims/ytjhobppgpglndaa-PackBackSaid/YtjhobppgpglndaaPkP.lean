/- What the program's functions of layer 32 compute: the packer's methods. -/
import Derived.Test.YtjhobppgpglndaaObj
import Derived.Test.YtjhobppgpglndaaPkM
import Derived.Test.YtjhobppgpglndaaFix
namespace Go.Proofs.Ytjhobppgpglndaa
open Go.RowKit

/-- The packer at block g: what is laid, and the run; all of it from block B on. -/
structure PK (w : World) (B g : Nat) (vo vr : Value) (out run : List UInt8) : Prop where
  obj : ObjAt w g 41 [vo, vr]
  base : B ≤ g
  o : FB w B vo out
  r : FB w B vr run
  og : vo.ownBlock ≠ some g
  rg : vr.ownBlock ≠ some g
  or : vo.ownBlock = none ∨ vo.ownBlock ≠ vr.ownBlock
theorem PK.lt {w : World} {B g : Nat} {vo vr : Value} {out run : List UInt8} (h : PK w B g vo vr out run) : B ≤ w.heap.size := Nat.le_of_lt (Nat.lt_of_le_of_lt h.base h.obj.lt)

theorem PK.setOut {w W : World} {B g : Nat} {vo vr v : Value} {out run out' : List UInt8} (h : PK w B g vo vr out run) (k : Grew w W B vo v out') : PK (W.setCell ⟨g, 0, none⟩ v) B g v vr out' run ∧ Below B w (W.setCell ⟨g, 0, none⟩ v) := by
  have hlt := h.obj.lt
  have hvg : v.ownBlock ≠ some g := by
    rcases k.own with e | ⟨j, e, hj⟩
    · rw [e]; exact h.og
    · rw [e]; intro e2; cases e2; omega
  refine ⟨⟨(h.obj.kept k.grown h.og.symm).store 0 v, h.base, k.row.far hvg _, ((h.r.kept k.grown ?_).far h.rg _), hvg, h.rg, ?_⟩, ?_⟩
  · rcases h.or with e | e
    · cases hr : vr.ownBlock with
      | none => exact .inl rfl
      | some j => exact .inr (by rw [e]; simp)
    · exact .inr e.symm
  · rcases k.own with e | ⟨j, e, hj⟩
    · rw [e]; exact h.or
    · refine .inr fun e2 => ?_
      rw [e] at e2
      have := (h.r.lt j e2.symm).2
      omega
  · exact (grown_below k.grown h.lt fun j e => (h.o.lt j e).1).trans (grown_below (grown_set W ⟨g, 0, none⟩ v) (Nat.le_trans h.lt k.grown.size) fun j e => by cases e; exact h.base)
theorem PK.setRun {w W : World} {B g : Nat} {vo vr v : Value} {out run run' : List UInt8} (h : PK w B g vo vr out run) (k : Grew w W B vr v run') : PK (W.setCell ⟨g, 1, none⟩ v) B g vo v out run' ∧ Below B w (W.setCell ⟨g, 1, none⟩ v) := by
  have hlt := h.obj.lt
  have hvg : v.ownBlock ≠ some g := by
    rcases k.own with e | ⟨j, e, hj⟩
    · rw [e]; exact h.rg
    · rw [e]; intro e2; cases e2; omega
  refine ⟨⟨(h.obj.kept k.grown h.rg.symm).store 1 v, h.base, ((h.o.kept k.grown h.or).far h.og _), k.row.far hvg _, h.og, hvg, ?_⟩, ?_⟩
  · rcases k.own with e | ⟨j, e, hj⟩
    · rw [e]; exact h.or
    · refine .inr fun e2 => ?_
      rw [e] at e2
      have := (h.o.lt j e2).2
      omega
  · exact (grown_below k.grown h.lt fun j e => (h.r.lt j e).1).trans (grown_below (grown_set W ⟨g, 1, none⟩ v) (Nat.le_trans h.lt k.grown.size) fun j e => by cases e; exact h.base)

set_option maxHeartbeats 1000000 in
theorem flush_any (B g : Nat) (vo vr : Value) (out run : List UInt8) (w : World) (h : PK w B g vo vr out run) (hr : run.length ≤ 128) (ho : out.length ≤ 1000000) :
    Calls Try.prog 22 #[.pointer (some ⟨g, 0, none⟩)] w fun e w' => (∃ r, e = .returned r) ∧ (∃ vo' vr', PK w' B g vo' vr' (out ++ flushB run) []) ∧ Below B w w' := by
  have hc0 := h.obj.cell (j := 0) (u := vo) rfl
  have hc1 := h.obj.cell (j := 1) (u := vr) rfl
  obtain ⟨p1, c1, rfl, hlr, hcr, _⟩ := h.r.slice
  by_cases h0 : run = []
  · subst h0
    go_enter Try.func22, Try.ntmps22
    go_wp2_with fail
    refine bodyPost_ret (results_none rfl _ _ _) rfl ?_
    refine ⟨⟨_, rfl⟩, ⟨vo, .slice p1 ([] : List UInt8).length c1, ?_⟩, Below.refl _ _⟩
    simpa [flushB] using h
  have hpos : 0 < run.length := List.length_pos_iff.2 h0
  obtain ⟨x, hx, HX⟩ : ∃ x : UInt8, IntKind.u8.wrap ((run.length : Int) - 1) = (x.toNat : Int) ∧ Hid (x = UInt8.ofNat (run.length - 1)) :=
    ⟨UInt8.ofNat (run.length - 1), by rw [toNat_ofNat8, IntKind.wrap_u8]; omega, rfl⟩
  have hz : ((run.length : Int) == 0) = false := by rw [beq_eq_false_iff_ne]; omega
  have hw64 : IntKind.i64.wrap ((run.length : Int) - 1) = (run.length : Int) - 1 := by rw [IntKind.wrap_i64]; omega
  go_enter Try.func22, Try.ntmps22
  go_wp2_with fail
  have hlt := h.obj.lt
  apply wp_region_dagK 13 16 (fun a b => a.grownBy b vo.ownBlock) (X := Ext) (by kernel_rfl) (by kernel_rfl) (by kernel_rfl) (by decide) (by decide) (fun _ _ _ => Ext.trans) (Ext.drew1 _)
  simp only [List.take_succ_cons, List.take_zero, List.drop_succ_cons, List.drop_zero]
  apply dagk_val Ext.refl rfl (by intro W hW H; go_simp <;> rfl)
  simp only [Act.put, List.setIfInBounds_toArray, List.set_cons_zero, List.set_cons_succ]
  apply dagk_val Ext.refl rfl (by intro W hW H; go_simp <;> rfl)
  simp only [Act.put, List.setIfInBounds_toArray, List.set_cons_zero, List.set_cons_succ]
  apply dagk_val Ext.refl rfl (by intro W hW H; go_simp <;> rfl)
  simp only [Act.put, List.setIfInBounds_toArray, List.set_cons_zero, List.set_cons_succ]
  apply dagk_val Ext.refl rfl (by intro W hW H; go_simp <;> rfl)
  simp only [Act.put, List.setIfInBounds_toArray, List.set_cons_zero, List.set_cons_succ]
  apply dagk_val Ext.refl rfl (by intro W hW H; have hW := hW (by kernel_rfl); have hq := hW.cell hc0; go_simp <;> rfl)
  simp only [Act.put, List.setIfInBounds_toArray, List.set_cons_zero, List.set_cons_succ]
  apply dagk_val Ext.refl rfl (by intro W hW H; go_simp <;> rfl)
  simp only [Act.put, List.setIfInBounds_toArray, List.set_cons_zero, List.set_cons_succ]
  apply dagk_val Ext.refl rfl (by intro W hW H; go_simp <;> rfl)
  simp only [Act.put, List.setIfInBounds_toArray, List.set_cons_zero, List.set_cons_succ]
  apply dagk_val Ext.refl rfl (by intro W hW H; go_simp <;> rfl)
  simp only [Act.put, List.setIfInBounds_toArray, List.set_cons_zero, List.set_cons_succ]
  apply dagk_val Ext.refl rfl (by intro W hW H; have hW := hW (by kernel_rfl); have hq := hW.cell hc1; go_simp <;> rfl)
  simp only [Act.put, List.setIfInBounds_toArray, List.set_cons_zero, List.set_cons_succ]
  apply dagk_val Ext.refl rfl (by intro W hW H; go_simp <;> rfl)
  simp only [Act.put, List.setIfInBounds_toArray, List.set_cons_zero, List.set_cons_succ]
  apply dagk_val Ext.refl rfl (by intro W hW H; go_simp <;> rfl)
  simp only [Act.put, List.setIfInBounds_toArray, List.set_cons_zero, List.set_cons_succ]
  apply dagk_val Ext.refl rfl (by intro W hW H; go_simp <;> rfl)
  simp only [Act.put, List.setIfInBounds_toArray, List.set_cons_zero, List.set_cons_succ]
  refine' dagk_run (fun v W => FB W w.heap.size v [x]) (fb_stable h.o) rfl (fun W hW H => ⟨.slice (some ⟨W.heap.size, 0, none⟩) 1 1, W.alloc (.cells #[bv x] 5), (by go_simp <;> rfl), stepk_x (Ext.alloc _ _) (by decide), FB.lit1 W (hW (by kernel_rfl)).size x⟩) (fun v1 => _)
  rotate_left
  simp only [Act.put, List.setIfInBounds_toArray, List.set_cons_zero, List.set_cons_succ]
  refine' dagk_run (fun v W => Grew w W B vo v (out ++ [x])) (Grew.stable) rfl (fun W hW H => (run_grows (vx := vo) (vy := v1) (l := out) (m := [x]) T.bytes rfl rfl rfl h.o (hW (by kernel_rfl)) (show FB W w.heap.size v1 [x] from H 12 (by kernel_rfl)).view (by simp; omega) h.lt).imp fun v hv => hv.imp fun W' hw => ⟨hw.1, stepk_z hw.2.1, hw.2.2⟩) (fun v2 => _)
  rotate_left
  simp only [Act.put, List.setIfInBounds_toArray, List.set_cons_zero, List.set_cons_succ]
  apply dagk_val Ext.refl rfl (by intro W hW H; go_simp <;> rfl)
  simp only [Act.put, List.setIfInBounds_toArray, List.set_cons_zero, List.set_cons_succ]
  apply dagk_val Ext.refl rfl (by intro W hW H; go_simp <;> rfl)
  simp only [Act.put, List.setIfInBounds_toArray, List.set_cons_zero, List.set_cons_succ]
  refine dagk_end fun W1 H => ?_
  have hg1 : Grew w W1 B vo v2 (out ++ [x]) := H 13
  obtain ⟨p2, c2, e2, _, _, _⟩ := hg1.row.slice
  generalize (out ++ [x]).length = n2 at e2
  subst e2
  obtain ⟨h2, hb2⟩ := h.setOut hg1
  have ho1 := h.obj.kept hg1.grown h.og.symm
  have hd0 := ho1.cell (j := 0) (u := vo) rfl
  have hf0 := ho1.free 0
  clear H ho1
  go_wp2_with fail
  generalize W1.setCell ⟨g, 0, none⟩ (.slice p2 n2 c2) = W2 at *
  clear hd0 hf0 hc0 hc1 hg1
  have hc0 := h2.obj.cell (j := 0) (u := (.slice p2 n2 c2)) rfl
  have hc1 := h2.obj.cell (j := 1) (u := .slice p1 run.length c1) rfl
  apply wp_region_dagK 9 12 (fun a b => a.grownBy b (Value.slice p2 n2 c2).ownBlock) (X := Ext) (by kernel_rfl) (by kernel_rfl) (by kernel_rfl) (by decide) (by decide) (fun _ _ _ => Ext.trans) (Ext.drew1 _)
  simp only [List.take_succ_cons, List.take_zero, List.drop_succ_cons, List.drop_zero]
  apply dagk_val Ext.refl rfl (by intro W hW H; go_simp <;> rfl)
  simp only [Act.put, List.setIfInBounds_toArray, List.set_cons_zero, List.set_cons_succ]
  apply dagk_val Ext.refl rfl (by intro W hW H; go_simp <;> rfl)
  simp only [Act.put, List.setIfInBounds_toArray, List.set_cons_zero, List.set_cons_succ]
  apply dagk_val Ext.refl rfl (by intro W hW H; go_simp <;> rfl)
  simp only [Act.put, List.setIfInBounds_toArray, List.set_cons_zero, List.set_cons_succ]
  apply dagk_val Ext.refl rfl (by intro W hW H; go_simp <;> rfl)
  simp only [Act.put, List.setIfInBounds_toArray, List.set_cons_zero, List.set_cons_succ]
  apply dagk_val Ext.refl rfl (by intro W hW H; have hW := hW (by kernel_rfl); have hq := hW.cell hc0; go_simp <;> rfl)
  simp only [Act.put, List.setIfInBounds_toArray, List.set_cons_zero, List.set_cons_succ]
  apply dagk_val Ext.refl rfl (by intro W hW H; go_simp <;> rfl)
  simp only [Act.put, List.setIfInBounds_toArray, List.set_cons_zero, List.set_cons_succ]
  apply dagk_val Ext.refl rfl (by intro W hW H; go_simp <;> rfl)
  simp only [Act.put, List.setIfInBounds_toArray, List.set_cons_zero, List.set_cons_succ]
  apply dagk_val Ext.refl rfl (by intro W hW H; go_simp <;> rfl)
  simp only [Act.put, List.setIfInBounds_toArray, List.set_cons_zero, List.set_cons_succ]
  apply dagk_val Ext.refl rfl (by intro W hW H; have hW := hW (by kernel_rfl); have hq := hW.cell hc1; go_simp <;> rfl)
  simp only [Act.put, List.setIfInBounds_toArray, List.set_cons_zero, List.set_cons_succ]
  refine' dagk_run (fun v W => Grew W2 W B (.slice p2 n2 c2) v (out ++ [x] ++ run)) (Grew.stable) rfl (fun W hW H => (run_grows (vx := (.slice p2 n2 c2)) (vy := .slice p1 run.length c1) (l := out ++ [x]) (m := run) T.bytes rfl rfl rfl h2.o (hW (by kernel_rfl)) (h2.r.view.ext (hW (by kernel_rfl))) (by simp; omega) h2.lt).imp fun v hv => hv.imp fun W' hw => ⟨hw.1, stepk_z hw.2.1, hw.2.2⟩) (fun v3 => _)
  rotate_left
  simp only [Act.put, List.setIfInBounds_toArray, List.set_cons_zero, List.set_cons_succ]
  apply dagk_val Ext.refl rfl (by intro W hW H; go_simp <;> rfl)
  simp only [Act.put, List.setIfInBounds_toArray, List.set_cons_zero, List.set_cons_succ]
  apply dagk_val Ext.refl rfl (by intro W hW H; go_simp <;> rfl)
  simp only [Act.put, List.setIfInBounds_toArray, List.set_cons_zero, List.set_cons_succ]
  refine dagk_end fun W3 H => ?_
  have hg1 : Grew W2 W3 B (.slice p2 n2 c2) v3 (out ++ [x] ++ run) := H 9
  obtain ⟨p3, c3, e3, _, _, _⟩ := hg1.row.slice
  generalize (out ++ [x] ++ run).length = n3 at e3
  subst e3
  obtain ⟨h3, hb3⟩ := h2.setOut hg1
  have ho1 := h2.obj.kept hg1.grown h2.og.symm
  have hd0 := ho1.cell (j := 0) (u := (.slice p2 n2 c2)) rfl
  have hf0 := ho1.free 0
  have hd1 := h3.obj.cell (j := 1) (u := .slice p1 run.length c1) rfl
  have hf1 := h3.obj.free 1
  have hcut : Grew (W3.setCell ⟨g, 0, none⟩ (.slice p3 n3 c3)) (W3.setCell ⟨g, 0, none⟩ (.slice p3 n3 c3)) B (.slice p1 run.length c1) (.slice p1 0 c1) [] := ⟨h3.r.cut0, World.grownBy.refl _ _, .inl (by cases p1 <;> rfl)⟩
  obtain ⟨h4, hb4⟩ := h3.setRun hcut
  clear H ho1
  go_wp2_with ((with_reducible show wpList _ _ _ (Oper.mk _ (Op.slice _ _ _ _ _) _ _ _ _ :: _) _ _); refine st_sliceTo T.bytes 0 c1 ?_)
  go_end0
  refine ⟨⟨_, rfl⟩, ⟨(.slice p3 n3 c3), .slice p1 0 c1, ?_⟩, (hb2.trans hb3).trans hb4⟩
  have e : out ++ flushB run = out ++ [x] ++ run := by rw [HX.out]; simp [flushB, h0]
  rw [e]
  exact h4

def oneO (out run : List UInt8) (x : UInt8) : List UInt8 := if (run ++ [x]).length = 128 then out ++ flushB (run ++ [x]) else out
def oneR (run : List UInt8) (x : UInt8) : List UInt8 := if (run ++ [x]).length = 128 then [] else run ++ [x]
set_option maxHeartbeats 1000000 in
theorem one_any (B g : Nat) (vo vr : Value) (out run : List UInt8) (x : UInt8) (w : World) (h : PK w B g vo vr out run) (hr : run.length < 128) (ho : out.length ≤ 900000) :
    Calls Try.prog 20 #[.pointer (some ⟨g, 0, none⟩), bv x] w fun e w' => (∃ r, e = .returned r) ∧ (∃ vo' vr', PK w' B g vo' vr' (oneO out run x) (oneR run x)) ∧ Below B w w' := by
  have hc1 := h.obj.cell (j := 1) (u := vr) rfl
  have hlt := h.lt
  have hlen : (run ++ [x]).length = run.length + 1 := by simp
  rcases (by omega : run.length + 1 = 128 ∨ run.length + 1 ≠ 128) with h128 | h128
  · have hz : ((run.length : Int) + 1 == 128) = true := by rw [beq_iff_eq]; omega
    have e1 : oneO out run x = out ++ flushB (run ++ [x]) := by unfold oneO; rw [if_pos (by rw [hlen]; exact h128)]
    have e2 : oneR run x = [] := by unfold oneR; rw [if_pos (by rw [hlen]; exact h128)]
    rw [e1, e2]
    clear e1 e2 h128
    go_enter Try.func20, Try.ntmps20
    have arm : ∀ v2 w2, FB w2 B v2 (run ++ [x]) → (w.alloc (.cells #[bv x] 5)).grownBy w2 vr.ownBlock → (v2.ownBlock = vr.ownBlock ∨ v2.ownBlock = some (w.alloc (.cells #[bv x] 5)).heap.size) → Grew w w2 B vr v2 (run ++ [x]) :=
      fun v2 w2 hf2 hg2 hw2 => ⟨hf2, ((Ext.alloc w _).grownBy _).trans hg2, hw2.elim .inl fun e => .inr ⟨_, e, by simp⟩⟩
    go_wp2_with (first
      | (at_builtin; refine st_append T.bytes (h.r.keep (Ext.alloc _ _)) (FB.lit1 w (Nat.le_refl _) x).view ?_ (by simp; omega) (by simp; omega); intro v2 w2 hf2 hg2 hw2
         have hG := arm v2 w2 hf2 hg2 hw2
         obtain ⟨p2, c2, rfl, _, _, _⟩ := hf2.slice
         obtain ⟨h2, hb2⟩ := h.setRun hG
         have ho1 := h.obj.kept hG.grown h.rg.symm
         have hd1 := ho1.cell (j := 1) (u := vr) rfl
         have hf1 := ho1.free 1
         have hd3 := h2.obj.cell (j := 1) (u := .slice p2 (run ++ [x]).length c2) rfl
         rw [hlen] at h2 hd3 hb2 ⊢
         clear arm hf2 hg2 hw2 ho1 hG)
      | (go_at_call 22; go_loud (refine (flush_any B g vo _ out (run ++ [x]) _ h2 (by omega) (by omega)).mono ?_; rintro e w3 ⟨⟨r, rfl⟩, ⟨vo', vr', h3⟩, hb3⟩)))
    go_end0
    exact ⟨⟨_, rfl⟩, ⟨vo', vr', h3⟩, hb2.trans hb3⟩
  · have hz : ((run.length : Int) + 1 == 128) = false := by rw [beq_eq_false_iff_ne]; omega
    have e1 : oneO out run x = out := by unfold oneO; rw [if_neg (by rw [hlen]; exact h128)]
    have e2 : oneR run x = run ++ [x] := by unfold oneR; rw [if_neg (by rw [hlen]; exact h128)]
    rw [e1, e2]
    clear e1 e2 h128
    go_enter Try.func20, Try.ntmps20
    have arm : ∀ v2 w2, FB w2 B v2 (run ++ [x]) → (w.alloc (.cells #[bv x] 5)).grownBy w2 vr.ownBlock → (v2.ownBlock = vr.ownBlock ∨ v2.ownBlock = some (w.alloc (.cells #[bv x] 5)).heap.size) → Grew w w2 B vr v2 (run ++ [x]) :=
      fun v2 w2 hf2 hg2 hw2 => ⟨hf2, ((Ext.alloc w _).grownBy _).trans hg2, hw2.elim .inl fun e => .inr ⟨_, e, by simp⟩⟩
    go_wp2_with (first
      | (at_builtin; refine st_append T.bytes (h.r.keep (Ext.alloc _ _)) (FB.lit1 w (Nat.le_refl _) x).view ?_ (by simp; omega) (by simp; omega); intro v2 w2 hf2 hg2 hw2
         have hG := arm v2 w2 hf2 hg2 hw2
         obtain ⟨p2, c2, rfl, _, _, _⟩ := hf2.slice
         obtain ⟨h2, hb2⟩ := h.setRun hG
         have ho1 := h.obj.kept hG.grown h.rg.symm
         have hd1 := ho1.cell (j := 1) (u := vr) rfl
         have hf1 := ho1.free 1
         have hd3 := h2.obj.cell (j := 1) (u := .slice p2 (run ++ [x]).length c2) rfl
         rw [hlen] at h2 hd3 hb2 ⊢
         clear arm hf2 hg2 hw2 ho1 hG))
    go_end0
    exact ⟨⟨_, rfl⟩, ⟨vo, _, h2⟩, hb2⟩
end Go.Proofs.Ytjhobppgpglndaa
