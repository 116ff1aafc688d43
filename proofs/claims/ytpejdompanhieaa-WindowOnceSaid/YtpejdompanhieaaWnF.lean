/- What the program's functions of layer 35 compute: the place of a sum by halves. -/
import Derived.Test.YtpejdompanhieaaWnM
import Derived.Test.YtpejdompanhieaaInsW
namespace Go.Proofs.Ytpejdompanhieaa
open Go.RowKit

def atP (t : List Sm) (p : Sm) : Bool := decide (posS t p < t.length ∧ ordS (t.getD (posS t p) sm0) p = 0)
theorem rises_below {t : List Sm} {p : Sm} {i k : Nat} (h : Rises t) (hk : k < t.length) (hp : ordS (t.getD k sm0) p < 0) (hi : i ≤ k) : ordS (t.getD i sm0) p < 0 := by
  by_cases e : i = k
  · subst e; exact hp
  · exact ordS_trans (rises_lt (rises_pair.2 h) i k (by omega) hk) hp
theorem rises_above {t : List Sm} {p : Sm} {i k : Nat} (h : Rises t) (hi : i < t.length) (hp : ¬ ordS (t.getD k sm0) p < 0) (hk : k ≤ i) : ¬ ordS (t.getD i sm0) p < 0 := fun hh => hp (rises_below h hi hh hk)
set_option maxHeartbeats 1000000 in
theorem bsearch_any (v : Value) (t : List Sm) (p : Sm) (w : World) (h : SmV w v t) (hr : Rises t) (hl : t.length ≤ 1000) :
    Calls Try.prog 59 #[v, smv p, .func (.func 44) #[] #[]] w fun e w' => e = .returned (.tuple #[.int .i64 (posS t p), .bool (atP t p)]) ∧ Ext w w' := by
  obtain ⟨q, c, rfl, hn, hc⟩ := h.slice
  have hx0 := Ext.alloc w (.cells #[.int .i64 p.start, .string ⟨p.key.toArray⟩, .int .i64 p.count, .int .i64 p.total, .int .i64 p.least, .int .i64 p.most] 64)
  have ho : ObjAt (w.alloc (.cells #[.int .i64 p.start, .string ⟨p.key.toArray⟩, .int .i64 p.count, .int .i64 p.total, .int .i64 p.least, .int .i64 p.most] 64)) w.heap.size 64 [.int .i64 p.start, .string ⟨p.key.toArray⟩, .int .i64 p.count, .int .i64 p.total, .int .i64 p.least, .int .i64 p.most] := heap_alloc_new w _
  have d0 := ho.cell (j := 0) rfl
  have d1 := ho.cell (j := 1) rfl
  have d2 := ho.cell (j := 2) rfl
  have d3 := ho.cell (j := 3) rfl
  have d4 := ho.cell (j := 4) rfl
  have d5 := ho.cell (j := 5) rfl
  obtain ⟨P1, hP1⟩ : ∃ n : Nat, posS t p = n := ⟨_, rfl⟩
  obtain ⟨B1, hB1⟩ : ∃ b, atP t p = b := ⟨_, rfl⟩
  rw [hP1, hB1]
  have HP1 := Lib.hid hP1
  have HB1 := Lib.hid hB1
  clear hP1 hB1
  have HX0 := Lib.hid hx0
  have HC : Hid (c ≤ maxLen ∧ t.length ≤ c) := Lib.hid ⟨hc, hn⟩
  have HL := Lib.hid hl
  have HR := Lib.hid hr
  have HV := Lib.hid h
  clear ho hx0 hc hn hl hr h
  generalize hwa : w.alloc (.cells #[.int .i64 p.start, .string ⟨p.key.toArray⟩, .int .i64 p.count, .int .i64 p.total, .int .i64 p.least, .int .i64 p.most] 64) = wa at *
  go_enter Try.func59, Try.ntmps59
  go_wp2_with fail
  go_loopg [9, 10] (t.length) (fun k s9 s10 wr => ∃ i j : Nat, s9 = .int .i64 i ∧ s10 = .int .i64 j ∧ Hid (i ≤ j ∧ j ≤ t.length ∧ k = j - i) ∧ Hid (∀ m, m < i → ordS (t.getD m sm0) p < 0) ∧ Hid (∀ m, j ≤ m → m < t.length → ¬ ordS (t.getD m sm0) p < 0) ∧ Hid (Ext wa wr))
  case atStart => exact ⟨0, t.length, rfl, rfl, Lib.hid ⟨Nat.zero_le _, Nat.le_refl _, rfl⟩, Lib.hid (fun m hm => by omega), Lib.hid (fun m h1 h2 => by omega), Lib.hid (Ext.refl _)⟩
  case round =>
    obtain ⟨i, j, rfl, rfl, HI, HA, HB, HX⟩ := hrel
    by_cases hlt : i < j
    case pos =>
      have hii : (i : Int) < (j : Int) := by omega
      obtain ⟨m, hm⟩ : ∃ m : Nat, m = (i + j) / 2 := ⟨_, rfl⟩
      have hmt : m < t.length := by have := HI.out; omega
      have hmi : (m : Int) < (t.length : Int) := by omega
      have hw1 : wrap64 ((i : Int) + (j : Int)) = (i : Int) + (j : Int) := by have := HI.out; have := HL.out; unfold wrap64; omega
      have hw2 : IntKind.u64.wrap ((i : Int) + (j : Int)) = (i : Int) + (j : Int) := by have := HI.out; have := HL.out; rw [IntKind.wrap_u64]; omega
      have hw3 : ((i : Int) + (j : Int)) / 2 = (m : Int) := by omega
      have hw4 : wrap64 (m : Int) = (m : Int) := by have := HL.out; unfold wrap64; omega
      have hm1 : wrap64 ((m : Int) + 1) = ((m + 1 : Nat) : Int) := by have := HL.out; unfold wrap64; omega
      have HM := Lib.hid hm
      have HM1 := Lib.hid hm1
      obtain ⟨b, o, rfl, ⟨m0, m1, m2, m3, m4, m5⟩⟩ := sm_at (HV.out.ext (HX0.out.trans HX.out)) hmt
      have e0 := HX.out.cell d0
      have e1 := HX.out.cell d1
      have e2 := HX.out.cell d2
      have e3 := HX.out.cell d3
      have e4 := HX.out.cell d4
      have e5 := HX.out.cell d5
      have O1 := fun W => order_any t[m] p W
      generalize hz : ordS t[m] p = z at *
      have HZ : Hid (ordS (t.getD m sm0) p = z) := Lib.hid (by rw [getD_sm hmt]; exact hz)
      generalize t[m] = x at *
      clear hz hm hm1
      go_wp2_with fail
      apply wp_region_dag (X := Ext) (by kernel_rfl) (by kernel_rfl) (fun _ _ _ => Ext.trans) (Ext.drew1 _)
      apply dag_val Ext.refl rfl (by intro W hW H; go_simp <;> rfl)
      simp only [Act.put, List.setIfInBounds_toArray, List.set_cons_zero, List.set_cons_succ]
      apply dag_val Ext.refl rfl (by intro W hW H; go_simp <;> rfl)
      simp only [Act.put, List.setIfInBounds_toArray, List.set_cons_zero, List.set_cons_succ]
      apply dag_val Ext.refl rfl (by intro W hW H; go_simp <;> rfl)
      simp only [Act.put, List.setIfInBounds_toArray, List.set_cons_zero, List.set_cons_succ]
      apply dag_val Ext.refl rfl (by intro W hW H; go_simp <;> rfl)
      simp only [Act.put, List.setIfInBounds_toArray, List.set_cons_zero, List.set_cons_succ]
      apply dag_val Ext.refl rfl (by intro W hW H; have q0 := hW.cell m0; have q1 := hW.cell m1; have q2 := hW.cell m2; have q3 := hW.cell m3; have q4 := hW.cell m4; have q5 := hW.cell m5; go_simp <;> rfl)
      simp only [Act.put, List.setIfInBounds_toArray, List.set_cons_zero, List.set_cons_succ]
      apply dag_val Ext.refl rfl (by intro W hW H; have q0 := hW.cell e0; have q1 := hW.cell e1; have q2 := hW.cell e2; have q3 := hW.cell e3; have q4 := hW.cell e4; have q5 := hW.cell e5; go_simp <;> rfl)
      simp only [Act.put, List.setIfInBounds_toArray, List.set_cons_zero, List.set_cons_succ]
      refine' dag_call (c := .int .i64 z) (f := 44) (args := #[smv x, smv p]) rfl (by intro W; go_simp <;> rfl) (fun W hW H => O1 W) _
      rotate_left
      simp only [Act.put, List.setIfInBounds_toArray, List.set_cons_zero, List.set_cons_succ]
      apply dag_val Ext.refl rfl (by intro W hW H; go_simp <;> rfl)
      simp only [Act.put, List.setIfInBounds_toArray, List.set_cons_zero, List.set_cons_succ]
      refine dag_end fun W hW H => ?_
      clear H
      have HXW := Lib.hid (HX.out.trans hW)
      clear hW
      by_cases hz0 : z < 0
      · go_wp2_with fail
        go_roundg (j - (m + 1))
        case measure => have := HI.out; have := HM.out; omega
        case rel =>
          refine ⟨m + 1, j, congrArg (Value.int .i64) HM1.out, rfl, Lib.hid (by have := HI.out; have := HM.out; omega), Lib.hid (fun n hn => ?_), HB, HXW⟩
          exact rises_below HR.out hmt (by rw [HZ.out]; exact hz0) (by omega)
      · go_wp2_with fail
        go_roundg (m - i)
        case measure => have := HI.out; have := HM.out; omega
        case rel =>
          refine ⟨i, m, rfl, rfl, Lib.hid (by have := HI.out; have := HM.out; omega), HA, Lib.hid (fun n h1 h2 => ?_), HXW⟩
          have hab := rises_above HR.out h2 (show ¬ ordS (t.getD m sm0) p < 0 by rw [HZ.out]; omega) h1
          omega
    case neg =>
      have hij : i = j := by have := HI.out; omega
      subst hij
      have hii : ¬ (i : Int) < (i : Int) := by omega
      have hpos : posS t p = i := posS_of HI.out.2.1 HA.out (fun h => HB.out i (Nat.le_refl _) h)
      have h1 := HP1.out
      rw [hpos] at h1
      subst h1
      have hB := HB1.out
      unfold atP at hB
      rw [hpos] at hB
      by_cases hit : i < t.length
      case neg =>
        have hi3 : ¬ (i : Int) < (t.length : Int) := by omega
        have hi4 : ¬ (i < t.length ∧ ordS (t.getD i sm0) p = 0) := fun h => hit h.1
        rw [decide_eq_false hi4] at hB
        subst hB
        clear hi4 hpos hlt
        go_wp2_with fail
        apply wp_region_dag (X := Ext) (by kernel_rfl) (by kernel_rfl) (fun _ _ _ => Ext.trans) (Ext.drew1 _)
        apply dag_val Ext.refl rfl (by intro W hW H; go_simp <;> rfl)
        simp only [Act.put, List.setIfInBounds_toArray, List.set_cons_zero, List.set_cons_succ]
        apply dag_val Ext.refl rfl (by intro W hW H; go_simp <;> rfl)
        simp only [Act.put, List.setIfInBounds_toArray, List.set_cons_zero, List.set_cons_succ]
        apply dag_val Ext.refl rfl (by intro W hW H; go_simp <;> rfl)
        simp only [Act.put, List.setIfInBounds_toArray, List.set_cons_zero, List.set_cons_succ]
        apply dag_val Ext.refl rfl (by intro W hW H; go_simp <;> rfl)
        simp only [Act.put, List.setIfInBounds_toArray, List.set_cons_zero, List.set_cons_succ]
        apply dag_val Ext.refl rfl (by intro W hW H; go_simp <;> rfl)
        simp only [Act.put, List.setIfInBounds_toArray, List.set_cons_zero, List.set_cons_succ]
        apply dag_not Ext.refl rfl
        simp only [Act.put, List.setIfInBounds_toArray, List.set_cons_zero, List.set_cons_succ]
        apply dag_not Ext.refl rfl
        simp only [Act.put, List.setIfInBounds_toArray, List.set_cons_zero, List.set_cons_succ]
        apply dag_not Ext.refl rfl
        simp only [Act.put, List.setIfInBounds_toArray, List.set_cons_zero, List.set_cons_succ]
        apply dag_not Ext.refl rfl
        simp only [Act.put, List.setIfInBounds_toArray, List.set_cons_zero, List.set_cons_succ]
        apply dag_not Ext.refl rfl
        simp only [Act.put, List.setIfInBounds_toArray, List.set_cons_zero, List.set_cons_succ]
        apply dag_not Ext.refl rfl
        simp only [Act.put, List.setIfInBounds_toArray, List.set_cons_zero, List.set_cons_succ]
        apply dag_not Ext.refl rfl
        simp only [Act.put, List.setIfInBounds_toArray, List.set_cons_zero, List.set_cons_succ]
        apply dag_not Ext.refl rfl
        simp only [Act.put, List.setIfInBounds_toArray, List.set_cons_zero, List.set_cons_succ]
        apply dag_val Ext.refl rfl (by intro W hW H; go_simp <;> rfl)
        simp only [Act.put, List.setIfInBounds_toArray, List.set_cons_zero, List.set_cons_succ]
        apply dag_val Ext.refl rfl (by intro W hW H; go_simp <;> rfl)
        simp only [Act.put, List.setIfInBounds_toArray, List.set_cons_zero, List.set_cons_succ]
        apply dag_val Ext.refl rfl (by intro W hW H; go_simp <;> rfl)
        simp only [Act.put, List.setIfInBounds_toArray, List.set_cons_zero, List.set_cons_succ]
        refine dag_end fun W hW H => ?_
        clear H
        go_wp2_with fail
        go_ret2
        exact ⟨rfl, (HX0.out.trans HX.out).trans hW⟩
      have hi3 : (i : Int) < (t.length : Int) := by omega
      obtain ⟨b, o, rfl, ⟨m0, m1, m2, m3, m4, m5⟩⟩ := sm_at (HV.out.ext (HX0.out.trans HX.out)) hit
      have e0 := HX.out.cell d0
      have e1 := HX.out.cell d1
      have e2 := HX.out.cell d2
      have e3 := HX.out.cell d3
      have e4 := HX.out.cell d4
      have e5 := HX.out.cell d5
      have O1 := fun W => order_any t[i] p W
      have hB2 : (ordS t[i] p == 0) = B1 := by
        rw [← hB, getD_sm hit]
        by_cases e : ordS t[i] p = 0
        · rw [decide_eq_true ⟨hit, e⟩]; simp [e]
        · rw [decide_eq_false fun h => e h.2]; simp [e]
      generalize ordS t[i] p = z at *
      generalize t[i] = x at *
      clear hB hpos hlt
      go_wp2_with fail
      apply wp_region_dag (X := Ext) (by kernel_rfl) (by kernel_rfl) (fun _ _ _ => Ext.trans) (Ext.drew1 _)
      apply dag_val Ext.refl rfl (by intro W hW H; go_simp <;> rfl)
      simp only [Act.put, List.setIfInBounds_toArray, List.set_cons_zero, List.set_cons_succ]
      apply dag_val Ext.refl rfl (by intro W hW H; go_simp <;> rfl)
      simp only [Act.put, List.setIfInBounds_toArray, List.set_cons_zero, List.set_cons_succ]
      apply dag_val Ext.refl rfl (by intro W hW H; go_simp <;> rfl)
      simp only [Act.put, List.setIfInBounds_toArray, List.set_cons_zero, List.set_cons_succ]
      apply dag_val Ext.refl rfl (by intro W hW H; go_simp <;> rfl)
      simp only [Act.put, List.setIfInBounds_toArray, List.set_cons_zero, List.set_cons_succ]
      apply dag_val Ext.refl rfl (by intro W hW H; go_simp <;> rfl)
      simp only [Act.put, List.setIfInBounds_toArray, List.set_cons_zero, List.set_cons_succ]
      apply dag_val Ext.refl rfl (by intro W hW H; go_simp <;> rfl)
      simp only [Act.put, List.setIfInBounds_toArray, List.set_cons_zero, List.set_cons_succ]
      apply dag_val Ext.refl rfl (by intro W hW H; go_simp <;> rfl)
      simp only [Act.put, List.setIfInBounds_toArray, List.set_cons_zero, List.set_cons_succ]
      apply dag_val Ext.refl rfl (by intro W hW H; go_simp <;> rfl)
      simp only [Act.put, List.setIfInBounds_toArray, List.set_cons_zero, List.set_cons_succ]
      apply dag_val Ext.refl rfl (by intro W hW H; go_simp <;> rfl)
      simp only [Act.put, List.setIfInBounds_toArray, List.set_cons_zero, List.set_cons_succ]
      apply dag_val Ext.refl rfl (by intro W hW H; have q0 := hW.cell m0; have q1 := hW.cell m1; have q2 := hW.cell m2; have q3 := hW.cell m3; have q4 := hW.cell m4; have q5 := hW.cell m5; go_simp <;> rfl)
      simp only [Act.put, List.setIfInBounds_toArray, List.set_cons_zero, List.set_cons_succ]
      apply dag_val Ext.refl rfl (by intro W hW H; have q0 := hW.cell e0; have q1 := hW.cell e1; have q2 := hW.cell e2; have q3 := hW.cell e3; have q4 := hW.cell e4; have q5 := hW.cell e5; go_simp <;> rfl)
      simp only [Act.put, List.setIfInBounds_toArray, List.set_cons_zero, List.set_cons_succ]
      refine' dag_call (c := .int .i64 z) (f := 44) (args := #[smv x, smv p]) rfl (by intro W; go_simp <;> rfl) (fun W hW H => O1 W) _
      rotate_left
      simp only [Act.put, List.setIfInBounds_toArray, List.set_cons_zero, List.set_cons_succ]
      apply dag_val Ext.refl rfl (by intro W hW H; go_simp <;> rfl)
      simp only [Act.put, List.setIfInBounds_toArray, List.set_cons_zero, List.set_cons_succ]
      apply dag_val Ext.refl rfl (by intro W hW H; go_simp <;> rfl)
      simp only [Act.put, List.setIfInBounds_toArray, List.set_cons_zero, List.set_cons_succ]
      apply dag_val Ext.refl rfl (by intro W hW H; go_simp <;> rfl)
      simp only [Act.put, List.setIfInBounds_toArray, List.set_cons_zero, List.set_cons_succ]
      apply dag_val Ext.refl rfl (by intro W hW H; go_simp <;> rfl)
      simp only [Act.put, List.setIfInBounds_toArray, List.set_cons_zero, List.set_cons_succ]
      refine dag_end fun W hW H => ?_
      clear H
      go_wp2_with fail
      go_ret2
      exact ⟨rfl, (HX0.out.trans HX.out).trans hW⟩
end Go.Proofs.Ytpejdompanhieaa
