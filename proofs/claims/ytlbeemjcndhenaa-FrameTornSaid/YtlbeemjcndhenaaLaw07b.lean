/- The statements of layer 7: FrameScans: the walk of the law. -/
import Derived.Test.YtlbeemjcndhenaaLaw07
namespace Go.Proofs.Ytlbeemjcndhenaa
open Go.RowKit

theorem scanB_few (ls : List (List UInt8)) : (scanB ls).1.length ≤ ls.length := by
  have : ∀ (f c : Nat) (ls : List (List UInt8)), ls.length ≤ f → (scanF f c ls).1.length ≤ ls.length := by
    intro f
    induction f with
    | zero => intro c ls h; simp [scanF]
    | succ f ih =>
      intro c ls h
      simp only [scanF]
      split
      · simp
      · rename_i he
        have hn := oneB_n ls
        have h1 := hn.2 (Classical.byContradiction fun e => he e)
        have := ih (c + (oneB ls).n) (ls.drop (oneB ls).n) (by rw [List.length_drop]; omega)
        rw [List.length_drop] at this
        simp only [List.length_cons]
        omega
  exact this _ _ _ (Nat.le_refl _)

theorem boxes (w : World) (t : TypeId) (x0 x1 y0 y1 : Value) :
    ((w.alloc (.cells #[x0, x1] t)).alloc (.cells #[y0, y1] t)).cell? ⟨w.heap.size, 0, none⟩ = some x0 ∧ ((w.alloc (.cells #[x0, x1] t)).alloc (.cells #[y0, y1] t)).cell? ⟨w.heap.size, 1, none⟩ = some x1 ∧
    ((w.alloc (.cells #[x0, x1] t)).alloc (.cells #[y0, y1] t)).cell? ⟨w.heap.size + 1, 0, none⟩ = some y0 ∧ ((w.alloc (.cells #[x0, x1] t)).alloc (.cells #[y0, y1] t)).cell? ⟨w.heap.size + 1, 1, none⟩ = some y1 := by
  have h1 : ((w.alloc (.cells #[x0, x1] t)).alloc (.cells #[y0, y1] t)).heap[w.heap.size]? = some (.cells #[x0, x1] t) := by
    rw [Below.heap_alloc _ _ _ (by simp)]; exact heap_alloc_new w _
  have h2 : ((w.alloc (.cells #[x0, x1] t)).alloc (.cells #[y0, y1] t)).heap[w.heap.size + 1]? = some (.cells #[y0, y1] t) := by
    have := heap_alloc_new (w.alloc (.cells #[x0, x1] t)) (.cells #[y0, y1] t)
    rwa [World.size_alloc] at this
  unfold World.cell?
  simp only [h1, h2]
  exact ⟨rfl, rfl, rfl, rfl⟩
theorem SRow.stable2 (xs : List Fnd) : ∀ v W W', Ext W W' → SRow 2 RF (fun _ => True) W v xs → SRow 2 RF (fun _ => True) W' v xs := fun _ _ _ hx h => h.ext hx
theorem RF.lit (W : World) (t : TypeId) (i : Int) (u : Value) (l : List UInt8) (h : BV W u l) : SRow 2 RF (fun _ => True) (W.alloc (.cells #[.int .i64 i, u] t)) (.slice (some ⟨W.heap.size, 0, none⟩) 1 1) [(i, l)] :=
  SRow.lit1 (cs := [.int .i64 i, u]) rfl (fun x hx => (RF.one (x := (i, l)) ⟨_, rfl, h⟩).2 x hx) (h.under.imp fun _ hw => ⟨_, rfl, hw⟩)

set_option maxHeartbeats 2000000 in
theorem frameScans_walk (v : Value) (ls : List (List UInt8)) (a : Fnd) (ua : Value) (b : Fnd) (ub : Value) (w : World) (h : LV w v ls) (ha : BV w ua a.2) (hb : BV w ub b.2) :
    Calls Try.prog 4 #[v, .agg #[.int .i64 a.1, ua], .agg #[.int .i64 b.1, ub]] w fun e w' => e = .returned (.bool true) ∧ Ext w w' := by
  obtain ⟨ia, la⟩ := a
  obtain ⟨ib, lb⟩ := b
  dsimp only at *
  obtain ⟨pa, ca, rfl, _, _, _⟩ := id ha
  obtain ⟨pb, cb, rfl, _, _, _⟩ := id hb
  have hx0 := (Ext.alloc w (.cells #[.int .i64 ia, .slice pa la.length ca] 34)).trans (Ext.alloc (w.alloc (.cells #[.int .i64 ia, .slice pa la.length ca] 34)) (.cells #[.int .i64 ib, .slice pb lb.length cb] 34))
  have L1 := fun w h => blight_any v ls 60 w h
  cases hlt : lightB ls 60 with
  | false =>
    rw [hlt] at L1
    go_enter Try.func4, Try.ntmps4
    go_wp2_with (first
      | (go_at_call 13; refine (L1 _ (h.ext hx0)).mono ?_; rintro e w' ⟨rfl, rfl⟩)
      | (go_at_call 7; refine (awake_any _).mono ?_; rintro e w1 ⟨rfl, hx1⟩))
    go_ret
    exact ⟨rfl, hx0.trans hx1⟩
  | true =>
  rw [hlt] at L1
  have hfew : ls.length ≤ 60 := by
    unfold lightB at hlt
    rw [Bool.and_eq_true] at hlt
    exact of_decide_eq_true hlt.1
  clear hlt
  by_cases h3 : 300 < la.length
  · go_enter Try.func4, Try.ntmps4
    go_wp2_with (first
      | (go_at_call 13; refine (L1 _ (h.ext hx0)).mono ?_; rintro e w' ⟨rfl, rfl⟩)
      | (go_at_call 7; refine (awake_any _).mono ?_; rintro e w1 ⟨rfl, hx1⟩))
    go_ret
    exact ⟨rfl, hx0.trans hx1⟩
  by_cases h4 : 300 < lb.length
  · go_enter Try.func4, Try.ntmps4
    go_wp2_with (first
      | (go_at_call 13; refine (L1 _ (h.ext hx0)).mono ?_; rintro e w' ⟨rfl, rfl⟩)
      | (go_at_call 7; refine (awake_any _).mono ?_; rintro e w1 ⟨rfl, hx1⟩))
    go_ret
    exact ⟨rfl, hx0.trans hx1⟩
  have O1 := fun w h => fone_any v ls w h (by omega)
  have O2 := fun w h => rfone_any v ls w h (by omega)
  have S1 := fun w h => fscan_any v ls w h (by omega)
  have S2 := fun w h => rfscan_any v ls w h (by omega)
  have hsf := scanB_few ls
  generalize oneB ls = o at *
  generalize scanB ls = sc at *
  obtain ⟨ob, on, oe⟩ := o
  obtain ⟨xs, sn⟩ := sc
  dsimp only at *
  go_enter Try.func4, Try.ntmps4
  go_wp2_with (first
    | (go_at_call 13; refine (L1 _ (h.ext hx0)).mono ?_; rintro e w' ⟨rfl, rfl⟩)
    | (go_at_call 14; refine (O1 _ (h.ext hx0)).mono ?_; rintro e w1 ⟨v1, rfl, hf1, hx1⟩)
    | (go_at_call 15; refine (O2 _ ((h.ext hx0).ext hx1)).mono ?_; rintro e w2 ⟨v2, rfl, hf2, hx2⟩)
    | (go_at_call 16; refine (S1 _ (((h.ext hx0).ext hx1).ext hx2)).mono ?_; rintro e w3 ⟨v3, rfl, ho3, hx3⟩)
    | (go_at_call 17; refine (S2 _ ((((h.ext hx0).ext hx1).ext hx2).ext hx3)).mono ?_; rintro e w4 ⟨v4, rfl, ho4, hx4⟩))
  have hx24 := (hx2.trans hx3).trans hx4
  have hx14 := hx1.trans hx24
  have b1 := hf1.view.ext hx24
  have b2 := (hf2.view.ext hx3).ext hx4
  have s3 := (ho3.view.mono (T := fun _ => True) fun _ _ _ => trivial).ext hx4
  have s4 := ho4.view.mono (T := fun _ => True) fun _ _ _ => trivial
  have hx04 := hx0.trans hx14
  obtain ⟨q1, q2, q3, q4⟩ := boxes w 34 (.int .i64 ia) (.slice pa la.length ca) (.int .i64 ib) (.slice pb lb.length cb)
  have k1 := hx14.cell q1
  have k2 := hx14.cell q2
  have k3 := hx14.cell q3
  have k4 := hx14.cell q4
  have SA := fun v5 W h1 h2 => sameAll_any v5 xs v4 xs W h1 h2 (by omega)
  rw [decide_eq_true rfl] at SA
  have e1 : ∀ D : Bool, (D == D) = true := fun D => by simp
  have ed : decide ([(ia, la)] = [(ib, lb)]) = decide ((ia, la) = (ib, lb)) := by
    by_cases h : (ia, la) = (ib, lb)
    · rw [decide_eq_true h]; exact decide_eq_true (by rw [h])
    · rw [decide_eq_false h]; exact decide_eq_false fun e => h (List.cons.inj e).1
  have FS := fun u1 u2 W h1 h2 => fsame_any ia u1 la ib u2 lb W h1 h2
  have SB := fun u1 u2 W h1 h2 => sameAll_any u1 [(ia, la)] u2 [(ib, lb)] W h1 h2 (by simp)
  rw [ed] at SB
  generalize decide ((ia, la) = (ib, lb)) = D at *
  have a4 := ha.ext hx04
  have b4 := hb.ext hx04
  clear q1 q2 q3 q4 ed L1 O1 O2 S1 S2
  apply wp_region_dag (X := Ext) (by kernel_rfl) (by kernel_rfl) (fun _ _ _ => Ext.trans) (Ext.drew1 _)
  apply dag_val Ext.refl rfl (by intro W hW H; go_simp <;> rfl)
  simp only [Act.put, List.setIfInBounds_toArray, List.set_cons_zero, List.set_cons_succ]
  refine' dag_val Ext.refl rfl (fun W hW H => run_op_bytes_string T.bytes T.u8 T.str rfl rfl (v := v1) (l := ob) (by exact b1.ext hW)) _
  rotate_left
  simp only [Act.put, List.setIfInBounds_toArray, List.set_cons_zero, List.set_cons_succ]
  apply dag_val Ext.refl rfl (by intro W hW H; go_simp <;> rfl)
  simp only [Act.put, List.setIfInBounds_toArray, List.set_cons_zero, List.set_cons_succ]
  refine' dag_val Ext.refl rfl (fun W hW H => run_op_bytes_string T.bytes T.u8 T.str rfl rfl (v := v2) (l := ob) (by exact b2.ext hW)) _
  rotate_left
  simp only [Act.put, List.setIfInBounds_toArray, List.set_cons_zero, List.set_cons_succ]
  apply dag_val Ext.refl rfl (by intro W hW H; go_simp <;> rfl)
  simp only [Act.put, List.setIfInBounds_toArray, List.set_cons_zero, List.set_cons_succ]
  apply dag_val Ext.refl rfl (by intro W hW H; go_simp <;> rfl)
  simp only [Act.put, List.setIfInBounds_toArray, List.set_cons_zero, List.set_cons_succ]
  apply dag_val Ext.refl rfl (by intro W hW H; go_simp <;> rfl)
  simp only [Act.put, List.setIfInBounds_toArray, List.set_cons_zero, List.set_cons_succ]
  apply dag_val Ext.refl rfl (by intro W hW H; go_simp <;> rfl)
  simp only [Act.put, List.setIfInBounds_toArray, List.set_cons_zero, List.set_cons_succ]
  apply dag_val Ext.refl rfl (by intro W hW H; go_simp <;> rfl)
  simp only [Act.put, List.setIfInBounds_toArray, List.set_cons_zero, List.set_cons_succ]
  apply dag_val Ext.refl rfl (by intro W hW H; go_simp <;> rfl)
  simp only [Act.put, List.setIfInBounds_toArray, List.set_cons_zero, List.set_cons_succ]
  apply dag_val Ext.refl rfl (by intro W hW H; go_simp <;> rfl)
  simp only [Act.put, List.setIfInBounds_toArray, List.set_cons_zero, List.set_cons_succ]
  apply dag_val Ext.refl rfl (by intro W hW H; go_simp <;> rfl)
  simp only [Act.put, List.setIfInBounds_toArray, List.set_cons_zero, List.set_cons_succ]
  apply dag_val Ext.refl rfl (by intro W hW H; go_simp <;> rfl)
  simp only [Act.put, List.setIfInBounds_toArray, List.set_cons_zero, List.set_cons_succ]
  apply dag_val Ext.refl rfl (by intro W hW H; go_simp <;> rfl)
  simp only [Act.put, List.setIfInBounds_toArray, List.set_cons_zero, List.set_cons_succ]
  apply dag_val Ext.refl rfl (by intro W hW H; go_simp <;> rfl)
  simp only [Act.put, List.setIfInBounds_toArray, List.set_cons_zero, List.set_cons_succ]
  apply dag_val Ext.refl rfl (by intro W hW H; go_simp <;> rfl)
  simp only [Act.put, List.setIfInBounds_toArray, List.set_cons_zero, List.set_cons_succ]
  apply dag_val Ext.refl rfl (by intro W hW H; go_simp <;> rfl)
  simp only [Act.put, List.setIfInBounds_toArray, List.set_cons_zero, List.set_cons_succ]
  refine' dag_calls (fun v W => SRow 2 RF (fun _ => True) W v xs) (SRow.stable2 xs) rfl (by intro W; go_simp <;> rfl) (fun W hW H => (as_any _ xs W (s3.ext hW) (by omega)).mono (by rintro e w' ⟨v6, rfl, ho6, hx6⟩; exact ⟨v6, rfl, ho6.view.mono fun _ _ _ => trivial, hx6⟩)) (fun v5 => _)
  rotate_left
  simp only [Act.put, List.setIfInBounds_toArray, List.set_cons_zero, List.set_cons_succ]
  apply dag_val Ext.refl rfl (by intro W hW H; go_simp <;> rfl)
  simp only [Act.put, List.setIfInBounds_toArray, List.set_cons_zero, List.set_cons_succ]
  refine' dag_call rfl (by intro W; go_simp <;> rfl) (fun W hW H => SA v5 W (H 17 (by kernel_rfl)) (s4.ext hW)) _
  rotate_left
  simp only [Act.put, List.setIfInBounds_toArray, List.set_cons_zero, List.set_cons_succ]
  apply dag_val Ext.refl rfl (by intro W hW H; go_simp <;> rfl)
  simp only [Act.put, List.setIfInBounds_toArray, List.set_cons_zero, List.set_cons_succ]
  apply dag_val Ext.refl rfl (by intro W hW H; go_simp <;> rfl)
  simp only [Act.put, List.setIfInBounds_toArray, List.set_cons_zero, List.set_cons_succ]
  apply dag_val Ext.refl rfl (by intro W hW H; go_simp <;> rfl)
  simp only [Act.put, List.setIfInBounds_toArray, List.set_cons_zero, List.set_cons_succ]
  apply dag_val Ext.refl rfl (by intro W hW H; go_simp <;> rfl)
  simp only [Act.put, List.setIfInBounds_toArray, List.set_cons_zero, List.set_cons_succ]
  apply dag_val Ext.refl rfl (by intro W hW H; go_simp <;> rfl)
  simp only [Act.put, List.setIfInBounds_toArray, List.set_cons_zero, List.set_cons_succ]
  apply dag_val Ext.refl rfl (by intro W hW H; go_simp <;> rfl)
  simp only [Act.put, List.setIfInBounds_toArray, List.set_cons_zero, List.set_cons_succ]
  apply dag_val Ext.refl rfl (by intro W hW H; go_simp <;> rfl)
  simp only [Act.put, List.setIfInBounds_toArray, List.set_cons_zero, List.set_cons_succ]
  apply dag_val Ext.refl rfl (by intro W hW H; have hq := hW.cell k1; have hq2 := hW.cell k2; go_simp <;> rfl)
  simp only [Act.put, List.setIfInBounds_toArray, List.set_cons_zero, List.set_cons_succ]
  apply dag_val Ext.refl rfl (by intro W hW H; have hq := hW.cell k3; have hq2 := hW.cell k4; go_simp <;> rfl)
  simp only [Act.put, List.setIfInBounds_toArray, List.set_cons_zero, List.set_cons_succ]
  refine' dag_call rfl (by intro W; go_simp <;> rfl) (fun W hW H => FS (.slice pa la.length ca) (.slice pb lb.length cb) W (a4.ext hW) (b4.ext hW)) _
  rotate_left
  simp only [Act.put, List.setIfInBounds_toArray, List.set_cons_zero, List.set_cons_succ]
  apply dag_val Ext.refl rfl (by intro W hW H; have hq := hW.cell k1; have hq2 := hW.cell k2; go_simp <;> rfl)
  simp only [Act.put, List.setIfInBounds_toArray, List.set_cons_zero, List.set_cons_succ]
  refine' dag_rel (fun v W => SRow 2 RF (fun _ => True) W v [(ia, la)]) (SRow.stable2 _) (fun W hW H => gives_run (v := .slice (some ⟨W.heap.size, 0, none⟩) 1 1) (W' := W.alloc (.cells #[.int .i64 ia, .slice pa la.length ca] 34)) rfl (by go_simp <;> rfl) ⟨Ext.alloc _ _, (by exact RF.lit W _ ia _ la (a4.ext hW))⟩) (fun v6 => _)
  rotate_left
  simp only [Act.put, List.setIfInBounds_toArray, List.set_cons_zero, List.set_cons_succ]
  apply dag_val Ext.refl rfl (by intro W hW H; have hq := hW.cell k3; have hq2 := hW.cell k4; go_simp <;> rfl)
  simp only [Act.put, List.setIfInBounds_toArray, List.set_cons_zero, List.set_cons_succ]
  refine' dag_rel (fun v W => SRow 2 RF (fun _ => True) W v [(ib, lb)]) (SRow.stable2 _) (fun W hW H => gives_run (v := .slice (some ⟨W.heap.size, 0, none⟩) 1 1) (W' := W.alloc (.cells #[.int .i64 ib, .slice pb lb.length cb] 34)) rfl (by go_simp <;> rfl) ⟨Ext.alloc _ _, (by exact RF.lit W _ ib _ lb (b4.ext hW))⟩) (fun v7 => _)
  rotate_left
  simp only [Act.put, List.setIfInBounds_toArray, List.set_cons_zero, List.set_cons_succ]
  refine' dag_call rfl (by intro W; go_simp <;> rfl) (fun W hW H => SB v6 v7 W (H 31 (by kernel_rfl)) (H 33 (by kernel_rfl))) _
  rotate_left
  simp only [Act.put, List.setIfInBounds_toArray, List.set_cons_zero, List.set_cons_succ]
  apply dag_val Ext.refl rfl (by intro W hW H; have hq := e1 D; go_simp <;> rfl)
  simp only [Act.put, List.setIfInBounds_toArray, List.set_cons_zero, List.set_cons_succ]
  apply dag_val Ext.refl rfl (by intro W hW H; go_simp <;> rfl)
  simp only [Act.put, List.setIfInBounds_toArray, List.set_cons_zero, List.set_cons_succ]
  apply dag_val Ext.refl rfl (by intro W hW H; go_simp <;> rfl)
  simp only [Act.put, List.setIfInBounds_toArray, List.set_cons_zero, List.set_cons_succ]
  refine' dag_call rfl (by intro W; go_simp <;> rfl) (fun W hW H => awake_any W) _
  rotate_left
  simp only [Act.put, List.setIfInBounds_toArray, List.set_cons_zero, List.set_cons_succ]
  apply dag_val Ext.refl rfl (by intro W hW H; go_simp <;> rfl)
  simp only [Act.put, List.setIfInBounds_toArray, List.set_cons_zero, List.set_cons_succ]
  apply dag_val Ext.refl rfl (by intro W hW H; go_simp <;> rfl)
  simp only [Act.put, List.setIfInBounds_toArray, List.set_cons_zero, List.set_cons_succ]
  refine dag_end fun W hW H => ?_
  go_wp2_with fail
  go_ret
  exact ⟨rfl, hx04.trans hW⟩
end Go.Proofs.Ytlbeemjcndhenaa
