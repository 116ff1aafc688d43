/- How two commits stand: the program's and the document's. -/
import Derived.Test.YtdklpenpmeplfaaClone
import Derived.Test.YtdklpenpmeplfaaCmR
import Derived.Test.YtdklpenpmeplfaaCm
import Derived.Laws.Cover1
import Derived.Deep.LoopGhost
namespace Go.Proofs.Ytdklpenpmeplfaa
open Go.RowKit

set_option maxHeartbeats 1000000 in
theorem cmpS_any (a b : List UInt8) (w : World) :
    Calls Try.prog 71 #[.string ⟨a.toArray⟩, .string ⟨b.toArray⟩] w fun e w' => e = .returned (.int .i64 (cmpS a b)) ∧ w = w' := by
  have N1 : ∀ (a : List UInt8) (w : World), Calls Try.prog 83 #[.string ⟨a.toArray⟩] w fun e w' => e = .returned (.bool false) ∧ w = w' := fun a w => by
    have e : (a == a) = true := by simp
    go_enter Try.func83, Try.ntmps83
    go_wp2_with fail
    go_ret
    exact ⟨rfl, rfl⟩
  have hg := gtS a b
  unfold cmpS
  cases h1 : Op.bytesLess a b with
  | true =>
    rw [if_pos rfl]
    go_enter Try.func71, Try.ntmps71
    go_wp2_with (go_at_call 83; refine (N1 _ _).mono ?_; rintro e w' ⟨rfl, rfl⟩)
    go_ret
    exact ⟨rfl, rfl⟩
  | false =>
    rw [if_neg (by simp)]
    rw [h1] at hg
    cases h2 : Op.bytesLess b a with
    | true =>
      rw [h2] at hg
      rw [if_pos rfl]
      have he : (a == b) = false := by simpa using hg
      go_enter Try.func71, Try.ntmps71
      go_wp2_with (go_at_call 83; refine (N1 _ _).mono ?_; rintro e w' ⟨rfl, rfl⟩)
      go_ret
      exact ⟨rfl, rfl⟩
    | false =>
      rw [h2] at hg
      rw [if_neg (by simp)]
      have he : (a == b) = true := by simpa using hg
      go_enter Try.func71, Try.ntmps71
      go_wp2_with (go_at_call 83; refine (N1 _ _).mono ?_; rintro e w' ⟨rfl, rfl⟩)
      go_ret
      exact ⟨rfl, rfl⟩
set_option maxHeartbeats 1000000 in
theorem cmpI_any (a b : Int) (w : World) :
    Calls Try.prog 72 #[.int .i64 a, .int .i64 b] w fun e w' => e = .returned (.int .i64 (cmpI a b)) ∧ w = w' := by
  have N1 : ∀ (a : Int) (w : World), Calls Try.prog 84 #[.int .i64 a] w fun e w' => e = .returned (.bool false) ∧ w = w' := fun a w => by
    have e : (a != a) = false := by simp
    go_enter Try.func84, Try.ntmps84
    go_wp2_with fail
    go_ret
    exact ⟨rfl, rfl⟩
  unfold cmpI
  by_cases h1 : a < b
  · rw [if_pos h1]
    go_enter Try.func72, Try.ntmps72
    go_wp2_with (go_at_call 84; refine (N1 _ _).mono ?_; rintro e w' ⟨rfl, rfl⟩)
    go_ret
    exact ⟨rfl, rfl⟩
  · rw [if_neg h1]
    by_cases h2 : b < a
    · rw [if_pos h2]
      go_enter Try.func72, Try.ntmps72
      go_wp2_with (go_at_call 84; refine (N1 _ _).mono ?_; rintro e w' ⟨rfl, rfl⟩)
      go_ret
      exact ⟨rfl, rfl⟩
    · rw [if_neg h2]
      go_enter Try.func72, Try.ntmps72
      go_wp2_with (go_at_call 84; refine (N1 _ _).mono ?_; rintro e w' ⟨rfl, rfl⟩)
      go_ret
      exact ⟨rfl, rfl⟩
def or3 (x y z : Int) : Int := if x ≠ 0 then x else if y ≠ 0 then y else z
set_option maxHeartbeats 1000000 in
theorem or_any (b : Nat) (x y z : Int) (w : World) (ho : ObjAt w b 3 [.int .i64 x, .int .i64 y, .int .i64 z]) :
    Calls Try.prog 70 #[.slice (some ⟨b, 0, none⟩) 3 3] w fun e w' => e = .returned (.int .i64 (or3 x y z)) ∧ w = w' := by
  have c0 := ho.cell (j := 0) rfl
  have c1 := ho.cell (j := 1) rfl
  have c2 := ho.cell (j := 2) rfl
  clear ho
  unfold or3
  by_cases h1 : x = 0
  · subst h1
    rw [if_neg (by simp)]
    by_cases h2 : y = 0
    · subst h2
      rw [if_neg (by simp)]
      by_cases h3 : z = 0
      · subst h3
        go_enter Try.func70, Try.ntmps70
        go_wp2_with fail
        refine wp_loop_rounds 4 ?_
        rw [rounds_succ]; go_wp2
        rw [rounds_succ]; go_wp2
        rw [rounds_succ]; go_wp2
        rw [rounds_succ]; go_wp2
        go_ret
        exact ⟨rfl, rfl⟩
      · have hb : (z != 0) = true := by rw [bne_iff_ne]; exact h3
        clear h3
        go_enter Try.func70, Try.ntmps70
        go_wp2_with fail
        refine wp_loop_rounds 3 ?_
        rw [rounds_succ]; go_wp2
        rw [rounds_succ]; go_wp2
        rw [rounds_succ]; go_wp2
        go_ret
        exact ⟨rfl, rfl⟩
    · rw [if_pos h2]
      have hb : (y != 0) = true := by rw [bne_iff_ne]; exact h2
      clear h2
      go_enter Try.func70, Try.ntmps70
      go_wp2_with fail
      refine wp_loop_rounds 2 ?_
      rw [rounds_succ]; go_wp2
      rw [rounds_succ]; go_wp2
      go_ret
      exact ⟨rfl, rfl⟩
  · rw [if_pos h1]
    have hb : (x != 0) = true := by rw [bne_iff_ne]; exact h1
    clear h1
    go_enter Try.func70, Try.ntmps70
    go_wp2_with fail
    refine wp_loop_rounds 1 ?_
    rw [rounds_succ]; go_wp2
    go_ret
    exact ⟨rfl, rfl⟩
theorem ordC_or (a b : Cm) : ordC a b = or3 (cmpS a.group b.group) (cmpS a.topic b.topic) (cmpI a.index b.index) := rfl
set_option maxHeartbeats 1000000 in
theorem order_any (a b : Cm) (w : World) :
    Calls Try.prog 46 #[cmv a, cmv b] w fun e w' => e = .returned (.int .i64 (ordC a b)) ∧ Ext w w' := by
  rw [ordC_or]
  obtain ⟨g1, t1, i1, o1⟩ := a
  obtain ⟨g2, t2, i2, o2⟩ := b
  simp only
  obtain ⟨oa, ob, hx0, hsz⟩ := objs2 w 33 33 [.string ⟨g1.toArray⟩, .string ⟨t1.toArray⟩, .int .i64 i1, .int .i64 o1] [.string ⟨g2.toArray⟩, .string ⟨t2.toArray⟩, .int .i64 i2, .int .i64 o2]
  have a0 := oa.cell (j := 0) rfl
  have a1 := oa.cell (j := 1) rfl
  have a2 := oa.cell (j := 2) rfl
  have b0 := ob.cell (j := 0) rfl
  have b1 := ob.cell (j := 1) rfl
  have b2 := ob.cell (j := 2) rfl
  clear oa ob
  have HSZ := Lib.hid hsz
  clear hsz
  have C1 := fun W => cmpS_any g1 g2 W
  have C2 := fun W => cmpS_any t1 t2 W
  have C3 := fun W => cmpI_any i1 i2 W
  generalize cmpS g1 g2 = x at *
  generalize cmpS t1 t2 = y at *
  generalize cmpI i1 i2 = z at *
  go_enter Try.func46, Try.ntmps46
  go_wp2_with fail
  apply wp_region_dag_tail 15 (X := Ext) (by kernel_rfl) (by kernel_rfl) (by kernel_rfl) (by decide) (fun _ _ _ => Ext.trans) (Ext.drew1 _)
  simp only [List.take_succ_cons, List.take_zero, List.drop_succ_cons, List.drop_zero]
  apply dag_val Ext.refl rfl (by intro W hW H; go_simp <;> rfl)
  simp only [Act.put, List.setIfInBounds_toArray, List.set_cons_zero, List.set_cons_succ]
  apply dag_val Ext.refl rfl (by intro W hW H; have q := hW.cell a0; go_simp <;> rfl)
  simp only [Act.put, List.setIfInBounds_toArray, List.set_cons_zero, List.set_cons_succ]
  apply dag_val Ext.refl rfl (by intro W hW H; go_simp <;> rfl)
  simp only [Act.put, List.setIfInBounds_toArray, List.set_cons_zero, List.set_cons_succ]
  apply dag_val Ext.refl rfl (by intro W hW H; have q := hW.cell b0; go_simp <;> rfl)
  simp only [Act.put, List.setIfInBounds_toArray, List.set_cons_zero, List.set_cons_succ]
  refine' dag_call rfl (by intro W; go_simp <;> rfl) (fun W hW H => (C1 W).mono (by rintro e w' ⟨rfl, rfl⟩; exact ⟨rfl, Ext.refl _⟩)) _
  rotate_left
  simp only [Act.put, List.setIfInBounds_toArray, List.set_cons_zero, List.set_cons_succ]
  apply dag_val Ext.refl rfl (by intro W hW H; go_simp <;> rfl)
  simp only [Act.put, List.setIfInBounds_toArray, List.set_cons_zero, List.set_cons_succ]
  apply dag_val Ext.refl rfl (by intro W hW H; have q := hW.cell a1; go_simp <;> rfl)
  simp only [Act.put, List.setIfInBounds_toArray, List.set_cons_zero, List.set_cons_succ]
  apply dag_val Ext.refl rfl (by intro W hW H; go_simp <;> rfl)
  simp only [Act.put, List.setIfInBounds_toArray, List.set_cons_zero, List.set_cons_succ]
  apply dag_val Ext.refl rfl (by intro W hW H; have q := hW.cell b1; go_simp <;> rfl)
  simp only [Act.put, List.setIfInBounds_toArray, List.set_cons_zero, List.set_cons_succ]
  refine' dag_call rfl (by intro W; go_simp <;> rfl) (fun W hW H => (C2 W).mono (by rintro e w' ⟨rfl, rfl⟩; exact ⟨rfl, Ext.refl _⟩)) _
  rotate_left
  simp only [Act.put, List.setIfInBounds_toArray, List.set_cons_zero, List.set_cons_succ]
  apply dag_val Ext.refl rfl (by intro W hW H; go_simp <;> rfl)
  simp only [Act.put, List.setIfInBounds_toArray, List.set_cons_zero, List.set_cons_succ]
  apply dag_val Ext.refl rfl (by intro W hW H; have q := hW.cell a2; go_simp <;> rfl)
  simp only [Act.put, List.setIfInBounds_toArray, List.set_cons_zero, List.set_cons_succ]
  apply dag_val Ext.refl rfl (by intro W hW H; go_simp <;> rfl)
  simp only [Act.put, List.setIfInBounds_toArray, List.set_cons_zero, List.set_cons_succ]
  apply dag_val Ext.refl rfl (by intro W hW H; have q := hW.cell b2; go_simp <;> rfl)
  simp only [Act.put, List.setIfInBounds_toArray, List.set_cons_zero, List.set_cons_succ]
  refine' dag_call rfl (by intro W; go_simp <;> rfl) (fun W hW H => (C3 W).mono (by rintro e w' ⟨rfl, rfl⟩; exact ⟨rfl, Ext.refl _⟩)) _
  rotate_left
  simp only [Act.put, List.setIfInBounds_toArray, List.set_cons_zero, List.set_cons_succ]
  refine dag_end fun W hW H => ?_
  clear H
  have hx1 := Ext.alloc W (.cells #[.int .i64 x, .int .i64 y, .int .i64 z] 3)
  have O1 := or_any W.heap.size x y z _ (heap_alloc_new W _)
  go_wp2_with (go_at_call 70; refine O1.mono ?_; rintro e w' ⟨rfl, rfl⟩)
  go_ret
  exact ⟨rfl, (hx0.trans hW).trans hx1⟩
end Go.Proofs.Ytdklpenpmeplfaa
