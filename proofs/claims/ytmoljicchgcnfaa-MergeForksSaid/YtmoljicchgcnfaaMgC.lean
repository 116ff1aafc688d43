/- What the program's comparison of items computes: cmp.Compare, cmp.Or, order, Less. -/
import Derived.Test.YtmoljicchgcnfaaMgW
import Derived.Test.YtmoljicchgcnfaaInts
import Derived.Test.YtmoljicchgcnfaaObj
import Derived.Deep.LoopGhost
namespace Go.Proofs.Ytmoljicchgcnfaa
open Go.RowKit

set_option maxHeartbeats 400000 in
theorem isnan_any (x : Int) (w : World) : Calls Try.prog 29 #[.int .i64 x] w fun e w' => e = .returned (.bool false) ∧ w' = w := by
  have h : (x == x) = true := by simp
  go_enter Try.func29, Try.ntmps29
  go_wp2_with fail
  go_ret
  exact ⟨rfl, rfl⟩
def cmpV (x y : Int) : Int := if x < y then -1 else if y < x then 1 else 0
set_option maxHeartbeats 400000 in
theorem compare_any (x y : Int) (w : World) : Calls Try.prog 26 #[.int .i64 x, .int .i64 y] w fun e w' => e = .returned (.int .i64 (cmpV x y)) ∧ w' = w := by
  unfold cmpV
  by_cases h1 : x < y
  · rw [if_pos h1]
    go_enter Try.func26, Try.ntmps26
    go_wp2_with (go_at_call 29; refine (isnan_any _ _).mono ?_; rintro e w' ⟨rfl, rfl⟩)
    go_ret
    exact ⟨rfl, rfl⟩
  · rw [if_neg h1]
    by_cases h2 : y < x
    · rw [if_pos h2]
      go_enter Try.func26, Try.ntmps26
      go_wp2_with (go_at_call 29; refine (isnan_any _ _).mono ?_; rintro e w' ⟨rfl, rfl⟩)
      go_ret
      exact ⟨rfl, rfl⟩
    · rw [if_neg h2]
      go_enter Try.func26, Try.ntmps26
      go_wp2_with (go_at_call 29; refine (isnan_any _ _).mono ?_; rintro e w' ⟨rfl, rfl⟩)
      go_ret
      exact ⟨rfl, rfl⟩

def orL : List Int → Int
  | [] => 0
  | x :: r => if x = 0 then orL r else x
theorem orL_drop {xs : List Int} {j : Nat} (h : j < xs.length) : orL (xs.drop j) = if xs[j] = 0 then orL (xs.drop (j + 1)) else xs[j] := by
  rw [List.drop_eq_getElem_cons h]
  rfl
set_option maxHeartbeats 400000 in
theorem or_any (v : Value) (xs : List Int) (w : World) (h : IV w v xs) (hl : xs.length ≤ 1000) : Calls Try.prog 25 #[v] w fun e w' => e = .returned (.int .i64 (orL xs)) ∧ w' = w := by
  obtain ⟨p, c, rfl, _, _⟩ := h.slice
  go_enter Try.func25, Try.ntmps25
  go_wp2_with fail
  go_loopg [8] (xs.length) (fun k s8 wr => ∃ j : Nat, s8 = .int .i64 j ∧ j ≤ xs.length ∧ k = xs.length - j ∧ orL (xs.drop j) = orL xs ∧ wr = w)
  case atStart => exact ⟨0, rfl, Nat.zero_le _, rfl, rfl, rfl⟩
  case round =>
    obtain ⟨j, rfl, hj, hk, ho, rfl⟩ := hrel
    by_cases hlt : j < xs.length
    case pos =>
      have hi : (j : Int) < (xs.length : Int) := by omega
      obtain ⟨b, o, rfl, hc⟩ := int_at h hlt
      rw [orL_drop hlt] at ho
      generalize xs[j] = x at *
      by_cases hx : x = 0
      · subst hx
        rw [if_pos rfl] at ho
        have HO := Lib.hid ho
        clear ho
        go_wp2_with fail
        go_roundg (xs.length - (j + 1))
        case measure => omega
        case rel => exact ⟨j + 1, by go_num, hlt, rfl, HO.out, rfl⟩
      · rw [if_neg hx] at ho
        have hx2 : (x == 0) = false := beq_eq_false_iff_ne.2 hx
        have HO := Lib.hid ho
        clear ho hx
        go_wp2_with fail
        go_ret
        exact ⟨congrArg (fun z => Ending.returned (.int .i64 z)) HO.out, rfl⟩
    case neg =>
      have hje : j = xs.length := by omega
      subst hje
      have hi : ¬ (xs.length : Int) < (xs.length : Int) := by omega
      rw [List.drop_length] at ho
      have HO := Lib.hid ho
      clear ho hlt
      go_wp2_with fail
      go_ret
      exact ⟨congrArg (fun z => Ending.returned (.int .i64 z)) HO.out, rfl⟩

/-! ### order, Less -/
theorem int_lit3 (S : Nat → Prop) (w : World) (x y z : Int) : SRow 1 RN S (w.alloc (.cells #[.int .i64 x, .int .i64 y, .int .i64 z] 3)) (.slice (some ⟨w.heap.size, 0, none⟩) 3 3) [x, y, z] := by
  refine ⟨[[.int .i64 x], [.int .i64 y], [.int .i64 z]], some ⟨w.heap.size, 0, none⟩, 3, ?_, rfl, Nat.le_refl _, by simp [maxLen], fun _ => ⟨_, _, rfl, fun j u hu => ?_⟩, rfl, ?_⟩
  · intro c hc
    simp only [List.mem_cons, List.not_mem_nil, or_false] at hc
    rcases hc with rfl | rfl | rfl <;> exact ⟨rfl, fun u hu => by rw [List.mem_singleton] at hu; subst hu; rfl⟩
  · rw [Nat.zero_add]
    have e : ([[Value.int .i64 x], [.int .i64 y], [.int .i64 z]].flatten)[j]? = #[Value.int .i64 x, .int .i64 y, .int .i64 z][j]? := by simp
    rw [e] at hu
    unfold World.cell?
    rw [heap_alloc_new]
    exact hu
  · intro j cs x' hc hx w' _
    match j, hc, hx with
    | 0, hc, hx => cases hc; cases hx; rfl
    | 1, hc, hx => cases hc; cases hx; rfl
    | 2, hc, hx => cases hc; cases hx; rfl
    | j + 3, hc, hx => simp at hc
theorem order_sign (a b : Itm) : (decide (orL [cmpV a.time b.time, cmpV a.list b.list, cmpV a.off b.off] < 0)) = lessI a b := by
  unfold orL orL orL orL cmpV lessI
  by_cases h1 : a.time < b.time
  · simp [h1]
  · rw [if_neg h1, if_neg h1]
    by_cases h2 : b.time < a.time
    · simp [h2]
    · rw [if_neg h2, if_neg h2, if_pos rfl]
      by_cases h3 : a.list < b.list
      · simp [h3]
      · rw [if_neg h3, if_neg h3]
        by_cases h4 : b.list < a.list
        · simp [h4]
        · rw [if_neg h4, if_neg h4, if_pos rfl]
          by_cases h5 : a.off < b.off
          · simp [h5]
          · rw [if_neg h5]
            by_cases h6 : b.off < a.off
            · simp [h6, h5]
            · simp [h6, h5]
set_option maxHeartbeats 1000000 in
theorem order_any (a b : Itm) (w : World) :
    Calls Try.prog 22 #[itmv a, itmv b] w fun e w' => e = .returned (.int .i64 (orL [cmpV a.time b.time, cmpV a.list b.list, cmpV a.off b.off])) ∧ Ext w w' := by
  obtain ⟨n1, o1, m1, d1, t1, k1, y1, z1, v1⟩ := a
  obtain ⟨n2, o2, m2, d2, t2, k2, y2, z2, v2⟩ := b
  have hx0 := (Ext.alloc w (.cells #[.int .i64 n1, .int .i64 o1, .int .i64 m1, .int .i64 d1, .int .i64 t1, .bool k1, .string ⟨y1.toArray⟩, .bool z1, .string ⟨v1.toArray⟩] 36)).trans (Ext.alloc _ (.cells #[.int .i64 n2, .int .i64 o2, .int .i64 m2, .int .i64 d2, .int .i64 t2, .bool k2, .string ⟨y2.toArray⟩, .bool z2, .string ⟨v2.toArray⟩] 36))
  have oa : ObjAt ((w.alloc (.cells #[.int .i64 n1, .int .i64 o1, .int .i64 m1, .int .i64 d1, .int .i64 t1, .bool k1, .string ⟨y1.toArray⟩, .bool z1, .string ⟨v1.toArray⟩] 36)).alloc (.cells #[.int .i64 n2, .int .i64 o2, .int .i64 m2, .int .i64 d2, .int .i64 t2, .bool k2, .string ⟨y2.toArray⟩, .bool z2, .string ⟨v2.toArray⟩] 36)) w.heap.size 36 [.int .i64 n1, .int .i64 o1, .int .i64 m1, .int .i64 d1, .int .i64 t1, .bool k1, .string ⟨y1.toArray⟩, .bool z1, .string ⟨v1.toArray⟩] := heap_alloc2_old w _ _
  have ob : ObjAt ((w.alloc (.cells #[.int .i64 n1, .int .i64 o1, .int .i64 m1, .int .i64 d1, .int .i64 t1, .bool k1, .string ⟨y1.toArray⟩, .bool z1, .string ⟨v1.toArray⟩] 36)).alloc (.cells #[.int .i64 n2, .int .i64 o2, .int .i64 m2, .int .i64 d2, .int .i64 t2, .bool k2, .string ⟨y2.toArray⟩, .bool z2, .string ⟨v2.toArray⟩] 36)) (w.heap.size + 1) 36 [.int .i64 n2, .int .i64 o2, .int .i64 m2, .int .i64 d2, .int .i64 t2, .bool k2, .string ⟨y2.toArray⟩, .bool z2, .string ⟨v2.toArray⟩] := heap_alloc2_new w _ _
  have a0 := oa.cell (j := 0) rfl
  have a1 := oa.cell (j := 1) rfl
  have a2 := oa.cell (j := 2) rfl
  have b0 := ob.cell (j := 0) rfl
  have b1 := ob.cell (j := 1) rfl
  have b2 := ob.cell (j := 2) rfl
  have CM := fun (x y z : Int) (hz : cmpV x y = z) (W : World) => (compare_any x y W).mono (R' := fun e w' => e = .returned (.int .i64 z) ∧ Ext W w') (by rintro e w' ⟨rfl, rfl⟩; rw [hz]; exact ⟨rfl, Ext.refl _⟩)
  simp only
  generalize hA : cmpV m1 m2 = A
  generalize hB : cmpV n1 n2 = B
  generalize hC : cmpV o1 o2 = C
  have HA := Lib.hid hA
  have HB := Lib.hid hB
  have HC := Lib.hid hC
  clear hA hB hC
  go_enter Try.func22, Try.ntmps22
  go_wp2_with fail
  clear oa ob
  apply wp_region_dag (X := Ext) (by kernel_rfl) (by kernel_rfl) (fun _ _ _ => Ext.trans) (Ext.drew1 _)
  apply dag_val Ext.refl rfl (by intro W hW H; go_simp <;> rfl)
  simp only [Act.put, List.setIfInBounds_toArray, List.set_cons_zero, List.set_cons_succ]
  apply dag_val Ext.refl rfl (by intro W hW H; have q0 := hW.cell a2; go_simp <;> rfl)
  simp only [Act.put, List.setIfInBounds_toArray, List.set_cons_zero, List.set_cons_succ]
  apply dag_val Ext.refl rfl (by intro W hW H; go_simp <;> rfl)
  simp only [Act.put, List.setIfInBounds_toArray, List.set_cons_zero, List.set_cons_succ]
  apply dag_val Ext.refl rfl (by intro W hW H; have q0 := hW.cell b2; go_simp <;> rfl)
  simp only [Act.put, List.setIfInBounds_toArray, List.set_cons_zero, List.set_cons_succ]
  refine' dag_call (c := .int .i64 A) (f := 26) (args := #[.int .i64 m1, .int .i64 m2]) rfl (by intro W; go_simp <;> rfl) (fun W hW H => CM m1 m2 A HA.out W) _
  rotate_left
  simp only [Act.put, List.setIfInBounds_toArray, List.set_cons_zero, List.set_cons_succ]
  apply dag_val Ext.refl rfl (by intro W hW H; go_simp <;> rfl)
  simp only [Act.put, List.setIfInBounds_toArray, List.set_cons_zero, List.set_cons_succ]
  apply dag_val Ext.refl rfl (by intro W hW H; have q0 := hW.cell a0; go_simp <;> rfl)
  simp only [Act.put, List.setIfInBounds_toArray, List.set_cons_zero, List.set_cons_succ]
  apply dag_val Ext.refl rfl (by intro W hW H; go_simp <;> rfl)
  simp only [Act.put, List.setIfInBounds_toArray, List.set_cons_zero, List.set_cons_succ]
  apply dag_val Ext.refl rfl (by intro W hW H; have q0 := hW.cell b0; go_simp <;> rfl)
  simp only [Act.put, List.setIfInBounds_toArray, List.set_cons_zero, List.set_cons_succ]
  refine' dag_call (c := .int .i64 B) (f := 26) (args := #[.int .i64 n1, .int .i64 n2]) rfl (by intro W; go_simp <;> rfl) (fun W hW H => CM n1 n2 B HB.out W) _
  rotate_left
  simp only [Act.put, List.setIfInBounds_toArray, List.set_cons_zero, List.set_cons_succ]
  apply dag_val Ext.refl rfl (by intro W hW H; go_simp <;> rfl)
  simp only [Act.put, List.setIfInBounds_toArray, List.set_cons_zero, List.set_cons_succ]
  apply dag_val Ext.refl rfl (by intro W hW H; have q0 := hW.cell a1; go_simp <;> rfl)
  simp only [Act.put, List.setIfInBounds_toArray, List.set_cons_zero, List.set_cons_succ]
  apply dag_val Ext.refl rfl (by intro W hW H; go_simp <;> rfl)
  simp only [Act.put, List.setIfInBounds_toArray, List.set_cons_zero, List.set_cons_succ]
  apply dag_val Ext.refl rfl (by intro W hW H; have q0 := hW.cell b1; go_simp <;> rfl)
  simp only [Act.put, List.setIfInBounds_toArray, List.set_cons_zero, List.set_cons_succ]
  refine' dag_call (c := .int .i64 C) (f := 26) (args := #[.int .i64 o1, .int .i64 o2]) rfl (by intro W; go_simp <;> rfl) (fun W hW H => CM o1 o2 C HC.out W) _
  rotate_left
  simp only [Act.put, List.setIfInBounds_toArray, List.set_cons_zero, List.set_cons_succ]
  refine' dag_rel (fun v W => IV W v [A, B, C]) (fun _ _ _ hx h => h.ext hx) (fun W hW H => gives_run (v := .slice (some ⟨W.heap.size, 0, none⟩) 3 3) (W' := W.alloc (.cells #[.int .i64 A, .int .i64 B, .int .i64 C] 3)) rfl (by go_simp <;> rfl) ⟨Ext.alloc _ _, (by exact int_lit3 _ W A B C)⟩) (fun u => _)
  rotate_left
  simp only [Act.put, List.setIfInBounds_toArray, List.set_cons_zero, List.set_cons_succ]
  refine' dag_call (c := .int .i64 (orL [A, B, C])) (f := 25) (args := #[u]) rfl (by intro W; go_simp <;> rfl) (fun W hW H => (or_any u [A, B, C] W (H 15 (by kernel_rfl)) (by simp)).mono (R' := fun e w' => e = .returned (.int .i64 (orL [A, B, C])) ∧ Ext W w') (by rintro e w' ⟨rfl, rfl⟩; exact ⟨rfl, Ext.refl _⟩)) _
  rotate_left
  simp only [Act.put, List.setIfInBounds_toArray, List.set_cons_zero, List.set_cons_succ]
  apply dag_val Ext.refl rfl (by intro W hW H; go_simp <;> rfl)
  simp only [Act.put, List.setIfInBounds_toArray, List.set_cons_zero, List.set_cons_succ]
  refine dag_end fun W hW H => ?_
  go_wp2_with fail
  go_ret
  exact ⟨rfl, hx0.trans hW⟩
set_option maxHeartbeats 1000000 in
theorem less_any (a b : Itm) (w : World) :
    Calls Try.prog 11 #[itmv a, itmv b] w fun e w' => e = .returned (.bool (lessI a b)) ∧ Ext w w' := by
  have O1 := fun w => order_any a b w
  have hs := order_sign a b
  generalize orL [cmpV a.time b.time, cmpV a.list b.list, cmpV a.off b.off] = z at *
  generalize lessI a b = L at *
  obtain ⟨n1, o1, m1, d1, t1, k1, y1, z1, v1⟩ := a
  obtain ⟨n2, o2, m2, d2, t2, k2, y2, z2, v2⟩ := b
  have hx0 := (Ext.alloc w (.cells #[.int .i64 n1, .int .i64 o1, .int .i64 m1, .int .i64 d1, .int .i64 t1, .bool k1, .string ⟨y1.toArray⟩, .bool z1, .string ⟨v1.toArray⟩] 36)).trans (Ext.alloc _ (.cells #[.int .i64 n2, .int .i64 o2, .int .i64 m2, .int .i64 d2, .int .i64 t2, .bool k2, .string ⟨y2.toArray⟩, .bool z2, .string ⟨v2.toArray⟩] 36))
  subst hs
  go_enter Try.func11, Try.ntmps11
  go_wp2_with (go_at_call 22; refine (O1 _).mono ?_; rintro e w1 ⟨rfl, hx1⟩)
  go_ret
  exact ⟨rfl, hx0.trans hx1⟩
end Go.Proofs.Ytmoljicchgcnfaa
