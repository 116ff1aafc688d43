/- 'awake' of layer 13's statements answers true. -/
import Derived.Test.YthiaaoiaabocfaaPrJ
import Derived.Test.YthiaaoiaabocfaaPrM
import Derived.Test.YthiaaoiaabocfaaPrL
namespace Go.Proofs.Ythiaaoiaabocfaa
open Go.RowKit

set_option maxHeartbeats 400000 in
theorem of_any (a b c : Int) (w : World) :
    Calls Try.prog 26 #[.int .i64 a, .int .i64 b, .int .i64 c] w fun e w' => e = .returned (batv ⟨c, b, 7, 0, a, []⟩ (.slice none 0 0)) ∧ Ext w w' := by
  have ho : ObjAt (w.alloc (.cells #[.int .i64 c, .int .i64 b, .int .i64 7, .int .i64 0, .int .i64 a, .slice none 0 0] 27)) w.heap.size 27 [.int .i64 c, .int .i64 b, .int .i64 7, .int .i64 0, .int .i64 a, .slice none 0 0] := heap_alloc_new w _
  go_enter Try.func26, Try.ntmps26
  go_wp2_with fail
  refine bodyPost_ret (results_cell_row rfl _ _ w.heap.size 27 #[.int .i64 c, .int .i64 b, .int .i64 7, .int .i64 0, .int .i64 a, .slice none 0 0] (0, 0) _ rfl ho Try.underlying27 rfl (by kernel_rfl)) rfl ?_
  exact ⟨rfl, Ext.alloc _ _⟩
@[go_sem] theorem field_tab (p : Option Addr) (n c : Nat) (w : World) : (Instr.field 33 (.agg #[.slice p n c]) 0).run Try.prog w = .ok (.slice p n c) w := by kernel_rfl
def bq (s c b : Int) : Bat := ⟨b, c, 7, 0, s, []⟩
def tab1 : List Ent := [⟨7, 0, [⟨0, 2, 10⟩]⟩]
theorem put_one : putT [] (bq 0 2 10) = tab1 := by kernel_rfl
theorem ask_one : askT behS tab1 (bq 0 2 0) = (10, true, 0) := by kernel_rfl
theorem ask_two : askT behS tab1 (bq 2 1 0) = (0, false, 0) := by kernel_rfl
theorem ask_three : askT behS tab1 (bq 3 1 0) = (0, false, 16) := by kernel_rfl
theorem find_one : findE tab1 7 = (⟨7, 0, [⟨0, 2, 10⟩]⟩, true) := by kernel_rfl
theorem cut_none : cutT tab1 11 = [] := by kernel_rfl
theorem cut_same : cutT tab1 12 = tab1 := by kernel_rfl
theorem same_none : sameT tab1 [] = false := by kernel_rfl
theorem tab1_few : FewT 1000 tab1 := fun e he => by simp [tab1] at he; subst he; simp
set_option maxHeartbeats 1000000 in
theorem put1w (w : World) : Calls Try.prog 13 #[.agg #[.slice none 0 0], batv ⟨10, 2, 7, 0, 0, []⟩ (.slice none 0 0)] w fun e w' => ∃ p c, e = .returned (.agg #[.slice p 1 c]) ∧ TabV w' (.slice p 1 c) tab1 ∧ Ext w w' := by
  refine (put_any (S := fun _ => True) (.slice none 0 0) [] (bq 0 2 10) none 0 0 w (SRow.nil _ _) (by simp) (fun e he => by cases he)).mono ?_
  rw [put_one]
  rintro e w' ⟨v, rfl, h, _, hx⟩
  obtain ⟨p, c, e5, _, _⟩ := h.slice
  subst e5
  exact ⟨p, c, rfl, TabV.any h, hx⟩
theorem ask1w (v : Value) (w : World) (h : TabV w v tab1) : Calls Try.prog 11 #[.agg #[v], batv ⟨0, 2, 7, 0, 0, []⟩ (.slice none 0 0)] w fun e w' => e = .returned (.tuple #[.int .i64 10, .bool true, .int .i64 0]) ∧ Ext w w' := by
  have := ask_any v tab1 (bq 0 2 0) none 0 0 w h (by simp [tab1]) tab1_few
  rw [ask_one] at this
  exact this
theorem ask2w (v : Value) (w : World) (h : TabV w v tab1) : Calls Try.prog 11 #[.agg #[v], batv ⟨0, 1, 7, 0, 2, []⟩ (.slice none 0 0)] w fun e w' => e = .returned (.tuple #[.int .i64 0, .bool false, .int .i64 0]) ∧ Ext w w' := by
  have := ask_any v tab1 (bq 2 1 0) none 0 0 w h (by simp [tab1]) tab1_few
  rw [ask_two] at this
  exact this
theorem ask3w (v : Value) (w : World) (h : TabV w v tab1) : Calls Try.prog 11 #[.agg #[v], batv ⟨0, 1, 7, 0, 3, []⟩ (.slice none 0 0)] w fun e w' => e = .returned (.tuple #[.int .i64 0, .bool false, .int .i64 16]) ∧ Ext w w' := by
  have := ask_any v tab1 (bq 3 1 0) none 0 0 w h (by simp [tab1]) tab1_few
  rw [ask_three] at this
  exact this
theorem find1w (v : Value) (w : World) (h : TabV w v tab1) : Calls Try.prog 14 #[.agg #[v], .int .i64 7] w fun e w' => ∃ p c, e = .returned (.tuple #[.agg #[.int .i64 7, .int .i64 0, .slice p 1 c], .bool true]) ∧ Ext w w' := by
  refine (find_any v tab1 7 w h (by simp [tab1])).mono ?_
  rw [find_one]
  rintro e w' ⟨v', rfl, hs, hx⟩
  obtain ⟨p, c, e5, _, _⟩ := hs.slice
  subst e5
  exact ⟨p, c, rfl, hx⟩
theorem cut1w (v : Value) (w : World) (h : TabV w v tab1) : Calls Try.prog 21 #[.agg #[v], .int .i64 11] w fun e w' => ∃ p c, e = .returned (.agg #[.slice p 0 c]) ∧ Ext w w' := by
  refine (cut_any v tab1 11 w h (by simp [tab1]) tab1_few).mono ?_
  rw [cut_none]
  rintro e w' ⟨v', rfl, hs, hx⟩
  obtain ⟨p, c, e5, _, _⟩ := hs.slice
  subst e5
  exact ⟨p, c, rfl, hx⟩
theorem cut2w (v : Value) (w : World) (h : TabV w v tab1) : Calls Try.prog 21 #[.agg #[v], .int .i64 12] w fun e w' => ∃ p c, e = .returned (.agg #[.slice p 1 c]) ∧ Ext w w' := by
  refine (cut_any v tab1 12 w h (by simp [tab1]) tab1_few).mono ?_
  rw [cut_same]
  rintro e w' ⟨v', rfl, hs, hx⟩
  obtain ⟨p, c, e5, _, _⟩ := hs.slice
  subst e5
  exact ⟨p, c, rfl, hx⟩
theorem same1w (v : Value) (w : World) (h : TabV w v tab1) : Calls Try.prog 24 #[.agg #[v], .agg #[v]] w fun e w' => e = .returned (.bool true) ∧ Ext w w' := by
  have := same_any v v tab1 tab1 w h h
  rw [sameT_refl] at this
  exact this
theorem same2w (v : Value) (w : World) (h : TabV w v tab1) : Calls Try.prog 24 #[.agg #[v], .agg #[.slice none 0 0]] w fun e w' => e = .returned (.bool false) ∧ Ext w w' := by
  have := same_any v (.slice none 0 0) tab1 [] w h (SRow.nil _ _)
  rw [same_none] at this
  exact this
set_option maxRecDepth 20000 in
set_option maxHeartbeats 1000000 in
theorem awake_any (w : World) :
    Calls Try.prog 9 #[] w fun e w' => e = .returned (.bool true) ∧ Ext w w' := by
  go_enter Try.func9, Try.ntmps9
  go_wp2_with (first
    | (go_at_call 26; refine (of_any 0 2 10 _).mono ?_; rintro e w1 ⟨rfl, hx1⟩)
    | (go_at_call 13; refine (put1w _).mono ?_; rintro e w2 ⟨p, c, rfl, hT, hx2⟩
       have hx3 := Ext.alloc w2 (.cells #[.slice p 1 c] 33)
       have o1 : ObjAt (w2.alloc (.cells #[.slice p 1 c] 33)) w2.heap.size 33 [.slice p 1 c] := heap_alloc_new w2 _
       have t1 := o1.cell (j := 0) rfl
       have HT3 := Lib.hid (hT.ext hx3)
       have HX3 := Lib.hid ((hx1.trans hx2).trans hx3)
       clear hx3 o1 hT))
  apply wp_region_dag (X := Ext) (by kernel_rfl) (by kernel_rfl) (fun _ _ _ => Ext.trans) (Ext.drew1 _)
  apply dag_val Ext.refl rfl (by intro W hW H; have q0 := hW.cell t1; go_simp <;> rfl)
  simp only [Act.put, List.setIfInBounds_toArray, List.set_cons_zero, List.set_cons_succ]
  refine' dag_call (c := batv ⟨0, 2, 7, 0, 0, []⟩ (.slice none 0 0)) (f := 26) (args := #[.int .i64 0, .int .i64 2, .int .i64 0]) rfl (by intro W; go_simp <;> rfl) (fun W hW H => of_any 0 2 0 W) _
  rotate_left
  simp only [Act.put, List.setIfInBounds_toArray, List.set_cons_zero, List.set_cons_succ]
  refine' dag_call (c := .tuple #[.int .i64 10, .bool true, .int .i64 0]) (f := 11) (args := #[.agg #[.slice p 1 c], batv ⟨0, 2, 7, 0, 0, []⟩ (.slice none 0 0)]) rfl (by intro W; go_simp <;> rfl) (fun W hW H => ask1w _ W (HT3.out.ext hW)) _
  rotate_left
  simp only [Act.put, List.setIfInBounds_toArray, List.set_cons_zero, List.set_cons_succ]
  apply dag_val Ext.refl rfl (by intro W hW H; go_simp <;> rfl)
  simp only [Act.put, List.setIfInBounds_toArray, List.set_cons_zero, List.set_cons_succ]
  apply dag_val Ext.refl rfl (by intro W hW H; go_simp <;> rfl)
  simp only [Act.put, List.setIfInBounds_toArray, List.set_cons_zero, List.set_cons_succ]
  apply dag_val Ext.refl rfl (by intro W hW H; go_simp <;> rfl)
  simp only [Act.put, List.setIfInBounds_toArray, List.set_cons_zero, List.set_cons_succ]
  apply dag_val Ext.refl rfl (by intro W hW H; go_simp <;> rfl)
  simp only [Act.put, List.setIfInBounds_toArray, List.set_cons_zero, List.set_cons_succ]
  apply dag_val Ext.refl rfl (by intro W hW H; go_simp <;> rfl)
  simp only [Act.put, List.setIfInBounds_toArray, List.set_cons_zero, List.set_cons_succ]
  apply dag_val Ext.refl rfl (by intro W hW H; go_simp <;> rfl)
  simp only [Act.put, List.setIfInBounds_toArray, List.set_cons_zero, List.set_cons_succ]
  apply dag_val Ext.refl rfl (by intro W hW H; go_simp <;> rfl)
  simp only [Act.put, List.setIfInBounds_toArray, List.set_cons_zero, List.set_cons_succ]
  refine dag_end fun W1 hW1 H => ?_
  clear H
  go_wp2_with fail
  have t2 := hW1.cell t1
  have HT4 := Lib.hid (HT3.out.ext hW1)
  apply wp_region_dag (X := Ext) (by kernel_rfl) (by kernel_rfl) (fun _ _ _ => Ext.trans) (Ext.drew1 _)
  apply dag_val Ext.refl rfl (by intro W hW H; have q0 := hW.cell t2; go_simp <;> rfl)
  simp only [Act.put, List.setIfInBounds_toArray, List.set_cons_zero, List.set_cons_succ]
  refine' dag_call (c := batv ⟨0, 1, 7, 0, 2, []⟩ (.slice none 0 0)) (f := 26) (args := #[.int .i64 2, .int .i64 1, .int .i64 0]) rfl (by intro W; go_simp <;> rfl) (fun W hW H => of_any 2 1 0 W) _
  rotate_left
  simp only [Act.put, List.setIfInBounds_toArray, List.set_cons_zero, List.set_cons_succ]
  refine' dag_call (c := .tuple #[.int .i64 0, .bool false, .int .i64 0]) (f := 11) (args := #[.agg #[.slice p 1 c], batv ⟨0, 1, 7, 0, 2, []⟩ (.slice none 0 0)]) rfl (by intro W; go_simp <;> rfl) (fun W hW H => ask2w _ W (HT4.out.ext hW)) _
  rotate_left
  simp only [Act.put, List.setIfInBounds_toArray, List.set_cons_zero, List.set_cons_succ]
  apply dag_val Ext.refl rfl (by intro W hW H; go_simp <;> rfl)
  simp only [Act.put, List.setIfInBounds_toArray, List.set_cons_zero, List.set_cons_succ]
  apply dag_val Ext.refl rfl (by intro W hW H; go_simp <;> rfl)
  simp only [Act.put, List.setIfInBounds_toArray, List.set_cons_zero, List.set_cons_succ]
  apply dag_val Ext.refl rfl (by intro W hW H; go_simp <;> rfl)
  simp only [Act.put, List.setIfInBounds_toArray, List.set_cons_zero, List.set_cons_succ]
  apply dag_val Ext.refl rfl (by intro W hW H; go_simp <;> rfl)
  simp only [Act.put, List.setIfInBounds_toArray, List.set_cons_zero, List.set_cons_succ]
  apply dag_val Ext.refl rfl (by intro W hW H; go_simp <;> rfl)
  simp only [Act.put, List.setIfInBounds_toArray, List.set_cons_zero, List.set_cons_succ]
  apply dag_val Ext.refl rfl (by intro W hW H; go_simp <;> rfl)
  simp only [Act.put, List.setIfInBounds_toArray, List.set_cons_zero, List.set_cons_succ]
  apply dag_val Ext.refl rfl (by intro W hW H; go_simp <;> rfl)
  simp only [Act.put, List.setIfInBounds_toArray, List.set_cons_zero, List.set_cons_succ]
  refine dag_end fun W2 hW2 H => ?_
  clear H
  go_wp2_with fail
  have t3 := hW2.cell t2
  have HT5 := Lib.hid (HT4.out.ext hW2)
  apply wp_region_dag (X := Ext) (by kernel_rfl) (by kernel_rfl) (fun _ _ _ => Ext.trans) (Ext.drew1 _)
  apply dag_val Ext.refl rfl (by intro W hW H; have q0 := hW.cell t3; go_simp <;> rfl)
  simp only [Act.put, List.setIfInBounds_toArray, List.set_cons_zero, List.set_cons_succ]
  refine' dag_call (c := batv ⟨0, 1, 7, 0, 3, []⟩ (.slice none 0 0)) (f := 26) (args := #[.int .i64 3, .int .i64 1, .int .i64 0]) rfl (by intro W; go_simp <;> rfl) (fun W hW H => of_any 3 1 0 W) _
  rotate_left
  simp only [Act.put, List.setIfInBounds_toArray, List.set_cons_zero, List.set_cons_succ]
  refine' dag_call (c := .tuple #[.int .i64 0, .bool false, .int .i64 16]) (f := 11) (args := #[.agg #[.slice p 1 c], batv ⟨0, 1, 7, 0, 3, []⟩ (.slice none 0 0)]) rfl (by intro W; go_simp <;> rfl) (fun W hW H => ask3w _ W (HT5.out.ext hW)) _
  rotate_left
  simp only [Act.put, List.setIfInBounds_toArray, List.set_cons_zero, List.set_cons_succ]
  apply dag_val Ext.refl rfl (by intro W hW H; go_simp <;> rfl)
  simp only [Act.put, List.setIfInBounds_toArray, List.set_cons_zero, List.set_cons_succ]
  apply dag_val Ext.refl rfl (by intro W hW H; go_simp <;> rfl)
  simp only [Act.put, List.setIfInBounds_toArray, List.set_cons_zero, List.set_cons_succ]
  apply dag_val Ext.refl rfl (by intro W hW H; go_simp <;> rfl)
  simp only [Act.put, List.setIfInBounds_toArray, List.set_cons_zero, List.set_cons_succ]
  apply dag_val Ext.refl rfl (by intro W hW H; go_simp <;> rfl)
  simp only [Act.put, List.setIfInBounds_toArray, List.set_cons_zero, List.set_cons_succ]
  apply dag_val Ext.refl rfl (by intro W hW H; go_simp <;> rfl)
  simp only [Act.put, List.setIfInBounds_toArray, List.set_cons_zero, List.set_cons_succ]
  apply dag_val Ext.refl rfl (by intro W hW H; go_simp <;> rfl)
  simp only [Act.put, List.setIfInBounds_toArray, List.set_cons_zero, List.set_cons_succ]
  apply dag_val Ext.refl rfl (by intro W hW H; go_simp <;> rfl)
  simp only [Act.put, List.setIfInBounds_toArray, List.set_cons_zero, List.set_cons_succ]
  refine dag_end fun W3 hW3 H => ?_
  clear H
  have t4 := hW3.cell t3
  have HT6 := Lib.hid (HT5.out.ext hW3)
  clear t1 t2 t3
  repeat' (first
    | ((with_reducible show wpList _ _ _ (List.append _ _) _ _); show wpList _ _ _ (_ :: _) _ _)
    | (go_big_may; first
        | (go_at_call 14; refine (find1w _ _ HT6.out).mono ?_; rintro e w5 ⟨p5, c5, rfl, hx5⟩
           have hx6 := Ext.alloc w5 (.cells #[.int .i64 7, .int .i64 0, .slice p5 1 c5] 43)
           have o6 : ObjAt (w5.alloc (.cells #[.int .i64 7, .int .i64 0, .slice p5 1 c5] 43)) w5.heap.size 43 [.int .i64 7, .int .i64 0, .slice p5 1 c5] := heap_alloc_new w5 _
           have y2 := o6.cell (j := 2) rfl
           have t6 := (hx5.trans hx6).cell t4
           have HT7 := Lib.hid (HT6.out.ext (hx5.trans hx6)))
        | (go_at_call 21; have hq := hx7; refine (cut2w _ _ (HT7.out.ext hx7)).mono ?_; rintro e w8 ⟨p8, c8, rfl, hx8⟩
           have t8 := hx8.cell t7)
        | (go_at_call 21; refine (cut1w _ _ HT7.out).mono ?_; rintro e w7 ⟨p7, c7, rfl, hx7⟩
           have t7 := hx7.cell t6)
        | (go_at_call 24; have hq := hx9; refine (same2w _ _ (((HT7.out.ext hx7).ext hx8).ext hx9)).mono ?_; rintro e w10 ⟨rfl, hx10⟩)
        | (go_at_call 24; refine (same1w _ _ ((HT7.out.ext hx7).ext hx8)).mono ?_; rintro e w9 ⟨rfl, hx9⟩
           have t9 := hx9.cell t8))
    | go_values | go_skip | go_guarded | go_step | go_upon | go_back | (simp only [Int.not_lt, Int.not_le] at *; go_simp) | (go_values <;> (try go_simp)) | (go_ite <;> go_prune <;> (try go_simp)) | (split <;> (first | (rename_i hx; exact (hx _ rfl).elim) | go_prune)))
  go_ret
  exact ⟨rfl, (((HX3.out.trans hW1).trans hW2).trans hW3).trans ((hx5.trans hx6).trans (((hx7.trans hx8).trans hx9).trans hx10))⟩
end Go.Proofs.Ythiaaoiaabocfaa
