/- What the program's and the document's functions of layer 32 compute: how many bytes are the same, and the longest match. -/
import Derived.Test.YtjhobppgpglndaaBase
import Derived.Test.YtjhobppgpglndaaPk
import Derived.Deep.LoopGhost
namespace Go.Proofs.Ytjhobppgpglndaa
open Go.RowKit

/-- Where the telling stands. -/
def SameG (l : List UInt8) (a c n : Nat) : Prop := n + sameAt l a c n = sameB l a c
theorem SameG.start (l : List UInt8) (a c : Nat) : SameG l a c 0 := by unfold SameG; rw [sameAt_zero]; omega
theorem SameG.step {l : List UInt8} {a c n : Nat} (h : SameG l a c n) (hac : a ≤ c) (h1 : n < 131) (h2 : c + n < l.length) (he : l[a + n]'(by omega) = l[c + n]) : SameG l a c (n + 1) := by
  unfold SameG at h ⊢
  rw [sameAt_go l a c n hac h1 h2 he] at h
  omega
theorem SameG.stop {l : List UInt8} {a c n : Nat} (h : SameG l a c n) (hac : a ≤ c) (hs : 131 ≤ n ∨ l.length ≤ c + n ∨ ∃ (h2 : c + n < l.length), l[a + n]'(by omega) ≠ l[c + n]) : n = sameB l a c := by
  unfold SameG at h
  rw [sameAt_stop l a c n hac hs] at h
  omega

set_option maxHeartbeats 1000000 in
theorem same_any (v : Value) (l : List UInt8) (a c : Nat) (w : World) (h : BV w v l) (hac : a ≤ c) (hcl : c ≤ l.length) :
    Calls Try.prog 18 #[v, .int .i64 a, .int .i64 c] w fun e w' => e = .returned (.int .i64 (sameB l a c)) ∧ Ext w w' := by
  obtain ⟨p, cp, rfl, hn, hc, hs⟩ := h
  have hc : cp ≤ 9223372036854775807 := by simpa [maxLen] using hc
  have hwr : IntKind.i64.wrap ((l.length : Int) - (c : Int)) = (l.length : Int) - (c : Int) := by rw [IntKind.wrap_i64]; omega
  obtain ⟨m, hm1, hm2, HM, hmin⟩ : ∃ m : Nat, m ≤ 131 ∧ c + m ≤ l.length ∧ Hid (m = 131 ∨ c + m = l.length) ∧ min (131 : Int) ((l.length : Int) - c) = (m : Int) :=
    ⟨min 131 (l.length - c), by omega, by omega, Lib.hid (by omega), by omega⟩
  go_enter Try.func18, Try.ntmps18
  go_wp2_with fail
  go_loopg [7] 131 (fun k s7 wr => ∃ n : Nat, s7 = .int .i64 n ∧ n ≤ m ∧ k = 131 - n ∧ SameG l a c n ∧ Ext w wr)
  case atStart => exact ⟨0, rfl, by omega, rfl, SameG.start l a c, Ext.refl _⟩
  case round =>
    obtain ⟨n, rfl, hnm, hk, hg, hx⟩ := hrel
    have HG := Lib.hid hg; clear hg
    by_cases hlt : n < m
    case neg =>
      have hd : decide ((n : Int) < (m : Int)) = false := by simp; omega
      have HS := Lib.hid (HG.out.stop hac (by have := HM.out; omega))
      go_wp2_with fail
      apply wp_region_dag (X := Ext) (by kernel_rfl) (by kernel_rfl) (fun _ _ _ => Ext.trans) (Ext.drew1 _)
      apply dag_val Ext.refl rfl (by intro W hW H; go_simp <;> rfl)
      simp only [Act.put, List.setIfInBounds_toArray, List.set_cons_zero, List.set_cons_succ]
      apply dag_val Ext.refl rfl (by intro W hW H; go_simp <;> rfl)
      simp only [Act.put, List.setIfInBounds_toArray, List.set_cons_zero, List.set_cons_succ]
      apply dag_val Ext.refl rfl (by intro W hW H; go_simp <;> rfl)
      simp only [Act.put, List.setIfInBounds_toArray, List.set_cons_zero, List.set_cons_succ]
      apply dag_val Ext.refl rfl (by intro W hW H; go_simp <;> rfl)
      simp only [Act.put, List.setIfInBounds_toArray, List.set_cons_zero, List.set_cons_succ]
      apply dag_val Ext.refl rfl (by intro W hW H; go_simp <;> rfl)
      simp only [Act.put, List.setIfInBounds_toArray, List.set_cons_zero, List.set_cons_succ]
      refine' dag_val Ext.refl rfl (fun W hW H => (run_min (i := (131 : Int)) (j := (l.length : Int) - c) (k := .i64) rfl rfl rfl W).trans (congrArg (fun x => Result.ok (Next.value (Value.int .i64 x)) W) hmin)) _
      rotate_left
      simp only [Act.put, List.setIfInBounds_toArray, List.set_cons_zero, List.set_cons_succ]
      apply dag_val Ext.refl rfl (by intro W hW H; go_simp <;> rfl)
      simp only [Act.put, List.setIfInBounds_toArray, List.set_cons_zero, List.set_cons_succ]
      apply dag_val Ext.refl rfl (by intro W hW H; go_simp <;> rfl)
      simp only [Act.put, List.setIfInBounds_toArray, List.set_cons_zero, List.set_cons_succ]
      apply dag_not Ext.refl rfl
      simp only [Act.put, List.setIfInBounds_toArray, List.set_cons_zero, List.set_cons_succ]
      apply dag_not Ext.refl rfl
      simp only [Act.put, List.setIfInBounds_toArray, List.set_cons_zero, List.set_cons_succ]
      apply dag_not Ext.refl rfl
      simp only [Act.put, List.setIfInBounds_toArray, List.set_cons_zero, List.set_cons_succ]
      apply dag_not Ext.refl rfl
      simp only [Act.put, List.setIfInBounds_toArray, List.set_cons_zero, List.set_cons_succ]
      apply dag_not Ext.refl rfl
      simp only [Act.put, List.setIfInBounds_toArray, List.set_cons_zero, List.set_cons_succ]
      apply dag_not Ext.refl rfl
      simp only [Act.put, List.setIfInBounds_toArray, List.set_cons_zero, List.set_cons_succ]
      apply dag_not Ext.refl rfl
      simp only [Act.put, List.setIfInBounds_toArray, List.set_cons_zero, List.set_cons_succ]
      apply dag_not Ext.refl rfl
      simp only [Act.put, List.setIfInBounds_toArray, List.set_cons_zero, List.set_cons_succ]
      apply dag_not Ext.refl rfl
      simp only [Act.put, List.setIfInBounds_toArray, List.set_cons_zero, List.set_cons_succ]
      apply dag_not Ext.refl rfl
      simp only [Act.put, List.setIfInBounds_toArray, List.set_cons_zero, List.set_cons_succ]
      apply dag_not Ext.refl rfl
      simp only [Act.put, List.setIfInBounds_toArray, List.set_cons_zero, List.set_cons_succ]
      apply dag_not Ext.refl rfl
      simp only [Act.put, List.setIfInBounds_toArray, List.set_cons_zero, List.set_cons_succ]
      apply dag_not Ext.refl rfl
      simp only [Act.put, List.setIfInBounds_toArray, List.set_cons_zero, List.set_cons_succ]
      apply dag_val Ext.refl rfl (by intro W hW H; go_simp <;> rfl)
      simp only [Act.put, List.setIfInBounds_toArray, List.set_cons_zero, List.set_cons_succ]
      refine dag_end fun W hW H => ?_
      go_wp2_with fail
      go_ret
      exact ⟨(by rw [← HS.out]; rfl), hx.trans hW⟩
    case pos =>
      have hd : decide ((n : Int) < (m : Int)) = true := by simp; omega
      have ha : a + n < l.length := by omega
      have hb : c + n < l.length := by omega
      obtain ⟨i1, hi1, e1⟩ : ∃ i : Nat, i = a + n ∧ (a : Int) + (n : Int) = (i : Int) := ⟨a + n, rfl, by omega⟩
      obtain ⟨i2, hi2, e2⟩ : ∃ i : Nat, i = c + n ∧ (c : Int) + (n : Int) = (i : Int) := ⟨c + n, rfl, by omega⟩
      obtain ⟨b, o, rfl, hc1⟩ := hs.at (bs_get l ha)
      have hc2 : w.cell? ⟨b, o + (c + n), none⟩ = some (bv l[c + n]) := by
        obtain ⟨b', o', e, h2⟩ := hs.at (bs_get l hb)
        cases e; exact h2
      have hstep := fun he => HG.out.step hac (by omega) hb he
      have hstop := fun he => HG.out.stop hac (.inr (.inr ⟨hb, he⟩))
      generalize l[a + n] = x at *
      generalize l[c + n] = y at *
      rw [← hi1] at hc1
      rw [← hi2] at hc2
      have HI := Lib.hid (show n < 131 by omega)
      have ew1 : IntKind.i64.wrap (i1 : Int) = (i1 : Int) := by rw [IntKind.wrap_i64]; omega
      have ew2 : IntKind.i64.wrap (i2 : Int) = (i2 : Int) := by rw [IntKind.wrap_i64]; omega
      have hb1 : i1 < l.length := by omega
      have hb2 : i2 < l.length := by omega
      by_cases hxy : x = y
      · have hq : ((x.toNat : Int) == (y.toNat : Int)) = true := by simp [hxy]
        have HS := Lib.hid (hstep hxy)
        clear hstep hstop hxy HG hi1 hi2
        go_wp2_with fail
        apply wp_region_dag (X := Ext) (by kernel_rfl) (by kernel_rfl) (fun _ _ _ => Ext.trans) (Ext.drew1 _)
        apply dag_val Ext.refl rfl (by intro W hW H; go_simp <;> rfl)
        simp only [Act.put, List.setIfInBounds_toArray, List.set_cons_zero, List.set_cons_succ]
        apply dag_val Ext.refl rfl (by intro W hW H; go_simp <;> rfl)
        simp only [Act.put, List.setIfInBounds_toArray, List.set_cons_zero, List.set_cons_succ]
        apply dag_val Ext.refl rfl (by intro W hW H; go_simp <;> rfl)
        simp only [Act.put, List.setIfInBounds_toArray, List.set_cons_zero, List.set_cons_succ]
        apply dag_val Ext.refl rfl (by intro W hW H; go_simp <;> rfl)
        simp only [Act.put, List.setIfInBounds_toArray, List.set_cons_zero, List.set_cons_succ]
        apply dag_val Ext.refl rfl (by intro W hW H; go_simp <;> rfl)
        simp only [Act.put, List.setIfInBounds_toArray, List.set_cons_zero, List.set_cons_succ]
        refine' dag_val Ext.refl rfl (fun W hW H => (run_min (i := (131 : Int)) (j := (l.length : Int) - c) (k := .i64) rfl rfl rfl W).trans (congrArg (fun x => Result.ok (Next.value (Value.int .i64 x)) W) hmin)) _
        rotate_left
        simp only [Act.put, List.setIfInBounds_toArray, List.set_cons_zero, List.set_cons_succ]
        apply dag_val Ext.refl rfl (by intro W hW H; go_simp <;> rfl)
        simp only [Act.put, List.setIfInBounds_toArray, List.set_cons_zero, List.set_cons_succ]
        apply dag_val Ext.refl rfl (by intro W hW H; go_simp <;> rfl)
        simp only [Act.put, List.setIfInBounds_toArray, List.set_cons_zero, List.set_cons_succ]
        apply dag_val Ext.refl rfl (by intro W hW H; go_simp <;> rfl)
        simp only [Act.put, List.setIfInBounds_toArray, List.set_cons_zero, List.set_cons_succ]
        apply dag_val Ext.refl rfl (by intro W hW H; go_simp <;> rfl)
        simp only [Act.put, List.setIfInBounds_toArray, List.set_cons_zero, List.set_cons_succ]
        apply dag_val Ext.refl rfl (by intro W hW H; go_simp <;> rfl)
        simp only [Act.put, List.setIfInBounds_toArray, List.set_cons_zero, List.set_cons_succ]
        apply dag_val Ext.refl rfl (by intro W hW H; go_simp <;> rfl)
        simp only [Act.put, List.setIfInBounds_toArray, List.set_cons_zero, List.set_cons_succ]
        apply dag_val Ext.refl rfl (by intro W hW H; have hi : (i1 : Int) < (l.length : Int) := (by omega); go_simp <;> rfl)
        simp only [Act.put, List.setIfInBounds_toArray, List.set_cons_zero, List.set_cons_succ]
        apply dag_val Ext.refl rfl (by intro W hW H; have hq1 := (hx.trans hW).cell hc1; go_simp <;> rfl)
        simp only [Act.put, List.setIfInBounds_toArray, List.set_cons_zero, List.set_cons_succ]
        apply dag_val Ext.refl rfl (by intro W hW H; go_simp <;> rfl)
        simp only [Act.put, List.setIfInBounds_toArray, List.set_cons_zero, List.set_cons_succ]
        apply dag_val Ext.refl rfl (by intro W hW H; go_simp <;> rfl)
        simp only [Act.put, List.setIfInBounds_toArray, List.set_cons_zero, List.set_cons_succ]
        apply dag_val Ext.refl rfl (by intro W hW H; go_simp <;> rfl)
        simp only [Act.put, List.setIfInBounds_toArray, List.set_cons_zero, List.set_cons_succ]
        apply dag_val Ext.refl rfl (by intro W hW H; go_simp <;> rfl)
        simp only [Act.put, List.setIfInBounds_toArray, List.set_cons_zero, List.set_cons_succ]
        apply dag_val Ext.refl rfl (by intro W hW H; have hi : (i2 : Int) < (l.length : Int) := (by omega); go_simp <;> rfl)
        simp only [Act.put, List.setIfInBounds_toArray, List.set_cons_zero, List.set_cons_succ]
        apply dag_val Ext.refl rfl (by intro W hW H; have hq1 := (hx.trans hW).cell hc2; go_simp <;> rfl)
        simp only [Act.put, List.setIfInBounds_toArray, List.set_cons_zero, List.set_cons_succ]
        apply dag_val Ext.refl rfl (by intro W hW H; go_simp <;> rfl)
        simp only [Act.put, List.setIfInBounds_toArray, List.set_cons_zero, List.set_cons_succ]
        apply dag_val Ext.refl rfl (by intro W hW H; go_simp <;> rfl)
        simp only [Act.put, List.setIfInBounds_toArray, List.set_cons_zero, List.set_cons_succ]
        refine dag_end fun W hW H => ?_
        go_wp2_with fail
        go_roundg (131 - (n + 1))
        case measure => omega
        case rel => exact ⟨n + 1, by go_num, hlt, rfl, HS.out, hx.trans hW⟩
      · have hq : ((x.toNat : Int) == (y.toNat : Int)) = false := by
          rw [beq_eq_false_iff_ne]
          intro e; exact hxy (UInt8.toNat_inj.1 (by omega))
        have HS := Lib.hid (hstop hxy)
        clear hstep hstop hxy HG hi1 hi2
        go_wp2_with fail
        apply wp_region_dag (X := Ext) (by kernel_rfl) (by kernel_rfl) (fun _ _ _ => Ext.trans) (Ext.drew1 _)
        apply dag_val Ext.refl rfl (by intro W hW H; go_simp <;> rfl)
        simp only [Act.put, List.setIfInBounds_toArray, List.set_cons_zero, List.set_cons_succ]
        apply dag_val Ext.refl rfl (by intro W hW H; go_simp <;> rfl)
        simp only [Act.put, List.setIfInBounds_toArray, List.set_cons_zero, List.set_cons_succ]
        apply dag_val Ext.refl rfl (by intro W hW H; go_simp <;> rfl)
        simp only [Act.put, List.setIfInBounds_toArray, List.set_cons_zero, List.set_cons_succ]
        apply dag_val Ext.refl rfl (by intro W hW H; go_simp <;> rfl)
        simp only [Act.put, List.setIfInBounds_toArray, List.set_cons_zero, List.set_cons_succ]
        apply dag_val Ext.refl rfl (by intro W hW H; go_simp <;> rfl)
        simp only [Act.put, List.setIfInBounds_toArray, List.set_cons_zero, List.set_cons_succ]
        refine' dag_val Ext.refl rfl (fun W hW H => (run_min (i := (131 : Int)) (j := (l.length : Int) - c) (k := .i64) rfl rfl rfl W).trans (congrArg (fun x => Result.ok (Next.value (Value.int .i64 x)) W) hmin)) _
        rotate_left
        simp only [Act.put, List.setIfInBounds_toArray, List.set_cons_zero, List.set_cons_succ]
        apply dag_val Ext.refl rfl (by intro W hW H; go_simp <;> rfl)
        simp only [Act.put, List.setIfInBounds_toArray, List.set_cons_zero, List.set_cons_succ]
        apply dag_val Ext.refl rfl (by intro W hW H; go_simp <;> rfl)
        simp only [Act.put, List.setIfInBounds_toArray, List.set_cons_zero, List.set_cons_succ]
        apply dag_val Ext.refl rfl (by intro W hW H; go_simp <;> rfl)
        simp only [Act.put, List.setIfInBounds_toArray, List.set_cons_zero, List.set_cons_succ]
        apply dag_val Ext.refl rfl (by intro W hW H; go_simp <;> rfl)
        simp only [Act.put, List.setIfInBounds_toArray, List.set_cons_zero, List.set_cons_succ]
        apply dag_val Ext.refl rfl (by intro W hW H; go_simp <;> rfl)
        simp only [Act.put, List.setIfInBounds_toArray, List.set_cons_zero, List.set_cons_succ]
        apply dag_val Ext.refl rfl (by intro W hW H; go_simp <;> rfl)
        simp only [Act.put, List.setIfInBounds_toArray, List.set_cons_zero, List.set_cons_succ]
        apply dag_val Ext.refl rfl (by intro W hW H; have hi : (i1 : Int) < (l.length : Int) := (by omega); go_simp <;> rfl)
        simp only [Act.put, List.setIfInBounds_toArray, List.set_cons_zero, List.set_cons_succ]
        apply dag_val Ext.refl rfl (by intro W hW H; have hq1 := (hx.trans hW).cell hc1; go_simp <;> rfl)
        simp only [Act.put, List.setIfInBounds_toArray, List.set_cons_zero, List.set_cons_succ]
        apply dag_val Ext.refl rfl (by intro W hW H; go_simp <;> rfl)
        simp only [Act.put, List.setIfInBounds_toArray, List.set_cons_zero, List.set_cons_succ]
        apply dag_val Ext.refl rfl (by intro W hW H; go_simp <;> rfl)
        simp only [Act.put, List.setIfInBounds_toArray, List.set_cons_zero, List.set_cons_succ]
        apply dag_val Ext.refl rfl (by intro W hW H; go_simp <;> rfl)
        simp only [Act.put, List.setIfInBounds_toArray, List.set_cons_zero, List.set_cons_succ]
        apply dag_val Ext.refl rfl (by intro W hW H; go_simp <;> rfl)
        simp only [Act.put, List.setIfInBounds_toArray, List.set_cons_zero, List.set_cons_succ]
        apply dag_val Ext.refl rfl (by intro W hW H; have hi : (i2 : Int) < (l.length : Int) := (by omega); go_simp <;> rfl)
        simp only [Act.put, List.setIfInBounds_toArray, List.set_cons_zero, List.set_cons_succ]
        apply dag_val Ext.refl rfl (by intro W hW H; have hq1 := (hx.trans hW).cell hc2; go_simp <;> rfl)
        simp only [Act.put, List.setIfInBounds_toArray, List.set_cons_zero, List.set_cons_succ]
        apply dag_val Ext.refl rfl (by intro W hW H; go_simp <;> rfl)
        simp only [Act.put, List.setIfInBounds_toArray, List.set_cons_zero, List.set_cons_succ]
        apply dag_val Ext.refl rfl (by intro W hW H; go_simp <;> rfl)
        simp only [Act.put, List.setIfInBounds_toArray, List.set_cons_zero, List.set_cons_succ]
        refine dag_end fun W hW H => ?_
        go_wp2_with fail
        go_ret
        exact ⟨(by rw [← HS.out]; rfl), hx.trans hW⟩

set_option maxHeartbeats 1000000 in
theorem rsame_any (v : Value) (l : List UInt8) (a c : Nat) (w : World) (h : BV w v l) (hac : a ≤ c) (hcl : c ≤ l.length) :
    Calls Try.prog 19 #[v, .int .i64 a, .int .i64 c] w fun e w' => e = .returned (.int .i64 (sameB l a c)) ∧ Ext w w' := by
  obtain ⟨p, cp, rfl, hn, hc, hs⟩ := h
  have hc : cp ≤ 9223372036854775807 := by simpa [maxLen] using hc
  go_enter Try.func19, Try.ntmps19
  go_wp2_with fail
  go_loopg [7] 131 (fun k s7 wr => ∃ n : Nat, s7 = .int .i64 n ∧ n ≤ 131 ∧ c + n ≤ l.length ∧ k = 131 - n ∧ SameG l a c n ∧ Ext w wr)
  case atStart => exact ⟨0, rfl, by omega, by omega, rfl, SameG.start l a c, Ext.refl _⟩
  case round =>
    obtain ⟨n, rfl, hn1, hcn, hk, hg, hx⟩ := hrel
    have HG := Lib.hid hg; clear hg
    obtain ⟨i2, hi2, e2⟩ : ∃ i : Nat, i = c + n ∧ (c : Int) + (n : Int) = (i : Int) := ⟨c + n, rfl, by omega⟩
    have ew2 : IntKind.i64.wrap (i2 : Int) = (i2 : Int) := by rw [IntKind.wrap_i64]; omega
    by_cases hlt : n < 131
    case neg =>
      have hd : decide ((n : Int) < 131) = false := by simp; omega
      have HS := Lib.hid (HG.out.stop hac (by omega))
      go_wp2_with fail
      apply wp_region_dag (X := Ext) (by kernel_rfl) (by kernel_rfl) (fun _ _ _ => Ext.trans) (Ext.drew1 _)
      apply dag_val Ext.refl rfl (by intro W hW H; go_simp <;> rfl)
      simp only [Act.put, List.setIfInBounds_toArray, List.set_cons_zero, List.set_cons_succ]
      apply dag_val Ext.refl rfl (by intro W hW H; go_simp <;> rfl)
      simp only [Act.put, List.setIfInBounds_toArray, List.set_cons_zero, List.set_cons_succ]
      apply dag_val Ext.refl rfl (by intro W hW H; go_simp <;> rfl)
      simp only [Act.put, List.setIfInBounds_toArray, List.set_cons_zero, List.set_cons_succ]
      apply dag_not Ext.refl rfl
      simp only [Act.put, List.setIfInBounds_toArray, List.set_cons_zero, List.set_cons_succ]
      apply dag_not Ext.refl rfl
      simp only [Act.put, List.setIfInBounds_toArray, List.set_cons_zero, List.set_cons_succ]
      apply dag_not Ext.refl rfl
      simp only [Act.put, List.setIfInBounds_toArray, List.set_cons_zero, List.set_cons_succ]
      apply dag_not Ext.refl rfl
      simp only [Act.put, List.setIfInBounds_toArray, List.set_cons_zero, List.set_cons_succ]
      apply dag_not Ext.refl rfl
      simp only [Act.put, List.setIfInBounds_toArray, List.set_cons_zero, List.set_cons_succ]
      apply dag_not Ext.refl rfl
      simp only [Act.put, List.setIfInBounds_toArray, List.set_cons_zero, List.set_cons_succ]
      apply dag_val Ext.refl rfl (by intro W hW H; go_simp <;> rfl)
      simp only [Act.put, List.setIfInBounds_toArray, List.set_cons_zero, List.set_cons_succ]
      apply dag_val Ext.refl rfl (by intro W hW H; go_simp <;> rfl)
      simp only [Act.put, List.setIfInBounds_toArray, List.set_cons_zero, List.set_cons_succ]
      apply dag_not Ext.refl rfl
      simp only [Act.put, List.setIfInBounds_toArray, List.set_cons_zero, List.set_cons_succ]
      apply dag_not Ext.refl rfl
      simp only [Act.put, List.setIfInBounds_toArray, List.set_cons_zero, List.set_cons_succ]
      apply dag_not Ext.refl rfl
      simp only [Act.put, List.setIfInBounds_toArray, List.set_cons_zero, List.set_cons_succ]
      apply dag_not Ext.refl rfl
      simp only [Act.put, List.setIfInBounds_toArray, List.set_cons_zero, List.set_cons_succ]
      apply dag_not Ext.refl rfl
      simp only [Act.put, List.setIfInBounds_toArray, List.set_cons_zero, List.set_cons_succ]
      apply dag_not Ext.refl rfl
      simp only [Act.put, List.setIfInBounds_toArray, List.set_cons_zero, List.set_cons_succ]
      apply dag_not Ext.refl rfl
      simp only [Act.put, List.setIfInBounds_toArray, List.set_cons_zero, List.set_cons_succ]
      apply dag_not Ext.refl rfl
      simp only [Act.put, List.setIfInBounds_toArray, List.set_cons_zero, List.set_cons_succ]
      apply dag_not Ext.refl rfl
      simp only [Act.put, List.setIfInBounds_toArray, List.set_cons_zero, List.set_cons_succ]
      apply dag_not Ext.refl rfl
      simp only [Act.put, List.setIfInBounds_toArray, List.set_cons_zero, List.set_cons_succ]
      apply dag_not Ext.refl rfl
      simp only [Act.put, List.setIfInBounds_toArray, List.set_cons_zero, List.set_cons_succ]
      apply dag_not Ext.refl rfl
      simp only [Act.put, List.setIfInBounds_toArray, List.set_cons_zero, List.set_cons_succ]
      apply dag_not Ext.refl rfl
      simp only [Act.put, List.setIfInBounds_toArray, List.set_cons_zero, List.set_cons_succ]
      apply dag_val Ext.refl rfl (by intro W hW H; go_simp <;> rfl)
      simp only [Act.put, List.setIfInBounds_toArray, List.set_cons_zero, List.set_cons_succ]
      refine dag_end fun W hW H => ?_
      go_wp2_with fail
      go_ret
      exact ⟨(by rw [← HS.out]; rfl), hx.trans hW⟩
    have hd : decide ((n : Int) < 131) = true := by simp; omega
    by_cases hlt2 : c + n < l.length
    case neg =>
      have hd2 : decide ((i2 : Int) < (l.length : Int)) = false := by simp; omega
      have hd3 : decide (i2 < l.length) = false := by simp; omega
      have HS := Lib.hid (HG.out.stop hac (by omega))
      clear hi2
      go_wp2_with fail
      apply wp_region_dag (X := Ext) (by kernel_rfl) (by kernel_rfl) (fun _ _ _ => Ext.trans) (Ext.drew1 _)
      apply dag_val Ext.refl rfl (by intro W hW H; go_simp <;> rfl)
      simp only [Act.put, List.setIfInBounds_toArray, List.set_cons_zero, List.set_cons_succ]
      apply dag_val Ext.refl rfl (by intro W hW H; go_simp <;> rfl)
      simp only [Act.put, List.setIfInBounds_toArray, List.set_cons_zero, List.set_cons_succ]
      apply dag_val Ext.refl rfl (by intro W hW H; go_simp <;> rfl)
      simp only [Act.put, List.setIfInBounds_toArray, List.set_cons_zero, List.set_cons_succ]
      apply dag_val Ext.refl rfl (by intro W hW H; go_simp <;> rfl)
      simp only [Act.put, List.setIfInBounds_toArray, List.set_cons_zero, List.set_cons_succ]
      apply dag_val Ext.refl rfl (by intro W hW H; go_simp <;> rfl)
      simp only [Act.put, List.setIfInBounds_toArray, List.set_cons_zero, List.set_cons_succ]
      apply dag_val Ext.refl rfl (by intro W hW H; go_simp <;> rfl)
      simp only [Act.put, List.setIfInBounds_toArray, List.set_cons_zero, List.set_cons_succ]
      apply dag_val Ext.refl rfl (by intro W hW H; go_simp <;> rfl)
      simp only [Act.put, List.setIfInBounds_toArray, List.set_cons_zero, List.set_cons_succ]
      apply dag_val Ext.refl rfl (by intro W hW H; go_simp <;> rfl)
      simp only [Act.put, List.setIfInBounds_toArray, List.set_cons_zero, List.set_cons_succ]
      apply dag_val Ext.refl rfl (by intro W hW H; go_simp <;> rfl)
      simp only [Act.put, List.setIfInBounds_toArray, List.set_cons_zero, List.set_cons_succ]
      apply dag_val Ext.refl rfl (by intro W hW H; go_simp <;> rfl)
      simp only [Act.put, List.setIfInBounds_toArray, List.set_cons_zero, List.set_cons_succ]
      apply dag_val Ext.refl rfl (by intro W hW H; go_simp <;> rfl)
      simp only [Act.put, List.setIfInBounds_toArray, List.set_cons_zero, List.set_cons_succ]
      apply dag_not Ext.refl rfl
      simp only [Act.put, List.setIfInBounds_toArray, List.set_cons_zero, List.set_cons_succ]
      apply dag_not Ext.refl rfl
      simp only [Act.put, List.setIfInBounds_toArray, List.set_cons_zero, List.set_cons_succ]
      apply dag_not Ext.refl rfl
      simp only [Act.put, List.setIfInBounds_toArray, List.set_cons_zero, List.set_cons_succ]
      apply dag_not Ext.refl rfl
      simp only [Act.put, List.setIfInBounds_toArray, List.set_cons_zero, List.set_cons_succ]
      apply dag_not Ext.refl rfl
      simp only [Act.put, List.setIfInBounds_toArray, List.set_cons_zero, List.set_cons_succ]
      apply dag_not Ext.refl rfl
      simp only [Act.put, List.setIfInBounds_toArray, List.set_cons_zero, List.set_cons_succ]
      apply dag_not Ext.refl rfl
      simp only [Act.put, List.setIfInBounds_toArray, List.set_cons_zero, List.set_cons_succ]
      apply dag_not Ext.refl rfl
      simp only [Act.put, List.setIfInBounds_toArray, List.set_cons_zero, List.set_cons_succ]
      apply dag_not Ext.refl rfl
      simp only [Act.put, List.setIfInBounds_toArray, List.set_cons_zero, List.set_cons_succ]
      apply dag_not Ext.refl rfl
      simp only [Act.put, List.setIfInBounds_toArray, List.set_cons_zero, List.set_cons_succ]
      apply dag_not Ext.refl rfl
      simp only [Act.put, List.setIfInBounds_toArray, List.set_cons_zero, List.set_cons_succ]
      apply dag_not Ext.refl rfl
      simp only [Act.put, List.setIfInBounds_toArray, List.set_cons_zero, List.set_cons_succ]
      apply dag_not Ext.refl rfl
      simp only [Act.put, List.setIfInBounds_toArray, List.set_cons_zero, List.set_cons_succ]
      apply dag_val Ext.refl rfl (by intro W hW H; go_simp <;> rfl)
      simp only [Act.put, List.setIfInBounds_toArray, List.set_cons_zero, List.set_cons_succ]
      refine dag_end fun W hW H => ?_
      go_wp2_with fail
      go_ret
      exact ⟨(by rw [← HS.out]; rfl), hx.trans hW⟩
    case pos =>
      have hd2 : decide ((i2 : Int) < (l.length : Int)) = true := by simp; omega
      have ha : a + n < l.length := by omega
      have hb : c + n < l.length := by omega
      obtain ⟨i1, hi1, e1⟩ : ∃ i : Nat, i = a + n ∧ (a : Int) + (n : Int) = (i : Int) := ⟨a + n, rfl, by omega⟩
      obtain ⟨b, o, rfl, hc1⟩ := hs.at (bs_get l ha)
      have hc2 : w.cell? ⟨b, o + (c + n), none⟩ = some (bv l[c + n]) := by
        obtain ⟨b', o', e, h2⟩ := hs.at (bs_get l hb)
        cases e; exact h2
      have hstep := fun he => HG.out.step hac (by omega) hb he
      have hstop := fun he => HG.out.stop hac (.inr (.inr ⟨hb, he⟩))
      generalize l[a + n] = x at *
      generalize l[c + n] = y at *
      rw [← hi1] at hc1
      rw [← hi2] at hc2
      have ew1 : IntKind.i64.wrap (i1 : Int) = (i1 : Int) := by rw [IntKind.wrap_i64]; omega
      have hb1 : i1 < l.length := by omega
      have hb2 : i2 < l.length := by omega
      by_cases hxy : x = y
      · have hq : ((x.toNat : Int) == (y.toNat : Int)) = true := by simp [hxy]
        have HS := Lib.hid (hstep hxy)
        clear hstep hstop hxy HG hi1 hi2
        go_wp2_with fail
        apply wp_region_dag (X := Ext) (by kernel_rfl) (by kernel_rfl) (fun _ _ _ => Ext.trans) (Ext.drew1 _)
        apply dag_val Ext.refl rfl (by intro W hW H; go_simp <;> rfl)
        simp only [Act.put, List.setIfInBounds_toArray, List.set_cons_zero, List.set_cons_succ]
        apply dag_val Ext.refl rfl (by intro W hW H; go_simp <;> rfl)
        simp only [Act.put, List.setIfInBounds_toArray, List.set_cons_zero, List.set_cons_succ]
        apply dag_val Ext.refl rfl (by intro W hW H; go_simp <;> rfl)
        simp only [Act.put, List.setIfInBounds_toArray, List.set_cons_zero, List.set_cons_succ]
        apply dag_val Ext.refl rfl (by intro W hW H; go_simp <;> rfl)
        simp only [Act.put, List.setIfInBounds_toArray, List.set_cons_zero, List.set_cons_succ]
        apply dag_val Ext.refl rfl (by intro W hW H; go_simp <;> rfl)
        simp only [Act.put, List.setIfInBounds_toArray, List.set_cons_zero, List.set_cons_succ]
        apply dag_val Ext.refl rfl (by intro W hW H; go_simp <;> rfl)
        simp only [Act.put, List.setIfInBounds_toArray, List.set_cons_zero, List.set_cons_succ]
        apply dag_val Ext.refl rfl (by intro W hW H; go_simp <;> rfl)
        simp only [Act.put, List.setIfInBounds_toArray, List.set_cons_zero, List.set_cons_succ]
        apply dag_val Ext.refl rfl (by intro W hW H; go_simp <;> rfl)
        simp only [Act.put, List.setIfInBounds_toArray, List.set_cons_zero, List.set_cons_succ]
        apply dag_val Ext.refl rfl (by intro W hW H; go_simp <;> rfl)
        simp only [Act.put, List.setIfInBounds_toArray, List.set_cons_zero, List.set_cons_succ]
        apply dag_val Ext.refl rfl (by intro W hW H; go_simp <;> rfl)
        simp only [Act.put, List.setIfInBounds_toArray, List.set_cons_zero, List.set_cons_succ]
        apply dag_val Ext.refl rfl (by intro W hW H; go_simp <;> rfl)
        simp only [Act.put, List.setIfInBounds_toArray, List.set_cons_zero, List.set_cons_succ]
        apply dag_val Ext.refl rfl (by intro W hW H; go_simp <;> rfl)
        simp only [Act.put, List.setIfInBounds_toArray, List.set_cons_zero, List.set_cons_succ]
        apply dag_val Ext.refl rfl (by intro W hW H; go_simp <;> rfl)
        simp only [Act.put, List.setIfInBounds_toArray, List.set_cons_zero, List.set_cons_succ]
        apply dag_val Ext.refl rfl (by intro W hW H; go_simp <;> rfl)
        simp only [Act.put, List.setIfInBounds_toArray, List.set_cons_zero, List.set_cons_succ]
        apply dag_val Ext.refl rfl (by intro W hW H; go_simp <;> rfl)
        simp only [Act.put, List.setIfInBounds_toArray, List.set_cons_zero, List.set_cons_succ]
        apply dag_val Ext.refl rfl (by intro W hW H; have hi : (i1 : Int) < (l.length : Int) := (by omega); go_simp <;> rfl)
        simp only [Act.put, List.setIfInBounds_toArray, List.set_cons_zero, List.set_cons_succ]
        apply dag_val Ext.refl rfl (by intro W hW H; have hq1 := (hx.trans hW).cell hc1; go_simp <;> rfl)
        simp only [Act.put, List.setIfInBounds_toArray, List.set_cons_zero, List.set_cons_succ]
        apply dag_val Ext.refl rfl (by intro W hW H; go_simp <;> rfl)
        simp only [Act.put, List.setIfInBounds_toArray, List.set_cons_zero, List.set_cons_succ]
        apply dag_val Ext.refl rfl (by intro W hW H; go_simp <;> rfl)
        simp only [Act.put, List.setIfInBounds_toArray, List.set_cons_zero, List.set_cons_succ]
        apply dag_val Ext.refl rfl (by intro W hW H; go_simp <;> rfl)
        simp only [Act.put, List.setIfInBounds_toArray, List.set_cons_zero, List.set_cons_succ]
        apply dag_val Ext.refl rfl (by intro W hW H; go_simp <;> rfl)
        simp only [Act.put, List.setIfInBounds_toArray, List.set_cons_zero, List.set_cons_succ]
        apply dag_val Ext.refl rfl (by intro W hW H; have hi : (i2 : Int) < (l.length : Int) := (by omega); go_simp <;> rfl)
        simp only [Act.put, List.setIfInBounds_toArray, List.set_cons_zero, List.set_cons_succ]
        apply dag_val Ext.refl rfl (by intro W hW H; have hq1 := (hx.trans hW).cell hc2; go_simp <;> rfl)
        simp only [Act.put, List.setIfInBounds_toArray, List.set_cons_zero, List.set_cons_succ]
        apply dag_val Ext.refl rfl (by intro W hW H; go_simp <;> rfl)
        simp only [Act.put, List.setIfInBounds_toArray, List.set_cons_zero, List.set_cons_succ]
        apply dag_val Ext.refl rfl (by intro W hW H; go_simp <;> rfl)
        simp only [Act.put, List.setIfInBounds_toArray, List.set_cons_zero, List.set_cons_succ]
        refine dag_end fun W hW H => ?_
        go_wp2_with fail
        go_roundg (131 - (n + 1))
        case measure => omega
        case rel => exact ⟨n + 1, by go_num, hlt, by omega, rfl, HS.out, hx.trans hW⟩
      · have hq : ((x.toNat : Int) == (y.toNat : Int)) = false := by
          rw [beq_eq_false_iff_ne]
          intro e; exact hxy (UInt8.toNat_inj.1 (by omega))
        have HS := Lib.hid (hstop hxy)
        clear hstep hstop hxy HG hi1 hi2
        go_wp2_with fail
        apply wp_region_dag (X := Ext) (by kernel_rfl) (by kernel_rfl) (fun _ _ _ => Ext.trans) (Ext.drew1 _)
        apply dag_val Ext.refl rfl (by intro W hW H; go_simp <;> rfl)
        simp only [Act.put, List.setIfInBounds_toArray, List.set_cons_zero, List.set_cons_succ]
        apply dag_val Ext.refl rfl (by intro W hW H; go_simp <;> rfl)
        simp only [Act.put, List.setIfInBounds_toArray, List.set_cons_zero, List.set_cons_succ]
        apply dag_val Ext.refl rfl (by intro W hW H; go_simp <;> rfl)
        simp only [Act.put, List.setIfInBounds_toArray, List.set_cons_zero, List.set_cons_succ]
        apply dag_val Ext.refl rfl (by intro W hW H; go_simp <;> rfl)
        simp only [Act.put, List.setIfInBounds_toArray, List.set_cons_zero, List.set_cons_succ]
        apply dag_val Ext.refl rfl (by intro W hW H; go_simp <;> rfl)
        simp only [Act.put, List.setIfInBounds_toArray, List.set_cons_zero, List.set_cons_succ]
        apply dag_val Ext.refl rfl (by intro W hW H; go_simp <;> rfl)
        simp only [Act.put, List.setIfInBounds_toArray, List.set_cons_zero, List.set_cons_succ]
        apply dag_val Ext.refl rfl (by intro W hW H; go_simp <;> rfl)
        simp only [Act.put, List.setIfInBounds_toArray, List.set_cons_zero, List.set_cons_succ]
        apply dag_val Ext.refl rfl (by intro W hW H; go_simp <;> rfl)
        simp only [Act.put, List.setIfInBounds_toArray, List.set_cons_zero, List.set_cons_succ]
        apply dag_val Ext.refl rfl (by intro W hW H; go_simp <;> rfl)
        simp only [Act.put, List.setIfInBounds_toArray, List.set_cons_zero, List.set_cons_succ]
        apply dag_val Ext.refl rfl (by intro W hW H; go_simp <;> rfl)
        simp only [Act.put, List.setIfInBounds_toArray, List.set_cons_zero, List.set_cons_succ]
        apply dag_val Ext.refl rfl (by intro W hW H; go_simp <;> rfl)
        simp only [Act.put, List.setIfInBounds_toArray, List.set_cons_zero, List.set_cons_succ]
        apply dag_val Ext.refl rfl (by intro W hW H; go_simp <;> rfl)
        simp only [Act.put, List.setIfInBounds_toArray, List.set_cons_zero, List.set_cons_succ]
        apply dag_val Ext.refl rfl (by intro W hW H; go_simp <;> rfl)
        simp only [Act.put, List.setIfInBounds_toArray, List.set_cons_zero, List.set_cons_succ]
        apply dag_val Ext.refl rfl (by intro W hW H; go_simp <;> rfl)
        simp only [Act.put, List.setIfInBounds_toArray, List.set_cons_zero, List.set_cons_succ]
        apply dag_val Ext.refl rfl (by intro W hW H; go_simp <;> rfl)
        simp only [Act.put, List.setIfInBounds_toArray, List.set_cons_zero, List.set_cons_succ]
        apply dag_val Ext.refl rfl (by intro W hW H; have hi : (i1 : Int) < (l.length : Int) := (by omega); go_simp <;> rfl)
        simp only [Act.put, List.setIfInBounds_toArray, List.set_cons_zero, List.set_cons_succ]
        apply dag_val Ext.refl rfl (by intro W hW H; have hq1 := (hx.trans hW).cell hc1; go_simp <;> rfl)
        simp only [Act.put, List.setIfInBounds_toArray, List.set_cons_zero, List.set_cons_succ]
        apply dag_val Ext.refl rfl (by intro W hW H; go_simp <;> rfl)
        simp only [Act.put, List.setIfInBounds_toArray, List.set_cons_zero, List.set_cons_succ]
        apply dag_val Ext.refl rfl (by intro W hW H; go_simp <;> rfl)
        simp only [Act.put, List.setIfInBounds_toArray, List.set_cons_zero, List.set_cons_succ]
        apply dag_val Ext.refl rfl (by intro W hW H; go_simp <;> rfl)
        simp only [Act.put, List.setIfInBounds_toArray, List.set_cons_zero, List.set_cons_succ]
        apply dag_val Ext.refl rfl (by intro W hW H; go_simp <;> rfl)
        simp only [Act.put, List.setIfInBounds_toArray, List.set_cons_zero, List.set_cons_succ]
        apply dag_val Ext.refl rfl (by intro W hW H; have hi : (i2 : Int) < (l.length : Int) := (by omega); go_simp <;> rfl)
        simp only [Act.put, List.setIfInBounds_toArray, List.set_cons_zero, List.set_cons_succ]
        apply dag_val Ext.refl rfl (by intro W hW H; have hq1 := (hx.trans hW).cell hc2; go_simp <;> rfl)
        simp only [Act.put, List.setIfInBounds_toArray, List.set_cons_zero, List.set_cons_succ]
        apply dag_val Ext.refl rfl (by intro W hW H; go_simp <;> rfl)
        simp only [Act.put, List.setIfInBounds_toArray, List.set_cons_zero, List.set_cons_succ]
        apply dag_val Ext.refl rfl (by intro W hW H; go_simp <;> rfl)
        simp only [Act.put, List.setIfInBounds_toArray, List.set_cons_zero, List.set_cons_succ]
        refine dag_end fun W hW H => ?_
        go_wp2_with fail
        go_ret
        exact ⟨(by rw [← HS.out]; rfl), hx.trans hW⟩
end Go.Proofs.Ytjhobppgpglndaa
