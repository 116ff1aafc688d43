/- What the merger's methods compute: before, down. -/
import Derived.Test.YtmoljicchgcnfaaMgK
import Derived.Test.YtmoljicchgcnfaaDagY
import Derived.Deep.LoopGhost
namespace Go.Proofs.Ytmoljicchgcnfaa
open Go.RowKit

set_option maxHeartbeats 2000000 in
theorem before_any (B : Nat) (m : Nat) (v : Value) (gs : List Nat) (hs : List Src) (nw : Int) (i k : Nat) (w : World) (h : Heap B w m v gs hs nw) (hi : i < hs.length) (hk : k < hs.length) :
    Calls Try.prog 27 #[.pointer (some ⟨m, 0, none⟩), .int .i64 (i : Int), .int .i64 (k : Int)] w fun e w' => e = .returned (.bool (bef hs i k)) ∧ Ext w w' := by
  obtain ⟨b, c, g1, u1, rfl, hg1, c1, o1, v1, n1⟩ := h.src hi
  obtain ⟨_, _, g2, u2, e2, hg2, c2, o2, v2, n2⟩ := h.src hk
  cases e2
  have cv := h.box.cell (j := 0) rfl
  have hii : (i : Int) < (hs.length : Int) := by omega
  have hkk : (k : Int) < (hs.length : Int) := by omega
  have H1 := fun W o v => head_any g1 (at_ hs i) u1 W o v n1
  have H2 := fun W o v => head_any g2 (at_ hs k) u2 W o v n2
  have L1 := fun W => less_any (hd (at_ hs i)) (hd (at_ hs k)) W
  unfold bef
  generalize hd (at_ hs i) = x at *
  generalize hd (at_ hs k) = y at *
  generalize lessI x y = T at *
  go_enter Try.func27, Try.ntmps27
  go_wp2_with fail
  apply wp_region_dag (X := Ext) (by kernel_rfl) (by kernel_rfl) (fun _ _ _ => Ext.trans) (Ext.drew1 _)
  apply dag_val Ext.refl rfl (by intro W hW H; go_simp <;> rfl)
  simp only [Act.put, List.setIfInBounds_toArray, List.set_cons_zero, List.set_cons_succ]
  apply dag_val Ext.refl rfl (by intro W hW H; go_simp <;> rfl)
  simp only [Act.put, List.setIfInBounds_toArray, List.set_cons_zero, List.set_cons_succ]
  apply dag_val Ext.refl rfl (by intro W hW H; go_simp <;> rfl)
  simp only [Act.put, List.setIfInBounds_toArray, List.set_cons_zero, List.set_cons_succ]
  apply dag_val Ext.refl rfl (by intro W hW H; have q0 := hW.cell cv; go_simp <;> rfl)
  simp only [Act.put, List.setIfInBounds_toArray, List.set_cons_zero, List.set_cons_succ]
  apply dag_val Ext.refl rfl (by intro W hW H; go_simp <;> rfl)
  simp only [Act.put, List.setIfInBounds_toArray, List.set_cons_zero, List.set_cons_succ]
  apply dag_val Ext.refl rfl (by intro W hW H; go_simp <;> rfl)
  simp only [Act.put, List.setIfInBounds_toArray, List.set_cons_zero, List.set_cons_succ]
  apply dag_val Ext.refl rfl (by intro W hW H; have q0 := hW.cell c1; go_simp <;> rfl)
  simp only [Act.put, List.setIfInBounds_toArray, List.set_cons_zero, List.set_cons_succ]
  refine' dag_call (c := itmv x) (f := 47) (args := #[.pointer (some ⟨g1, 0, none⟩)]) rfl (by intro W; go_simp <;> rfl) (fun W hW H => H1 W (o1.ext hW) (v1.ext hW)) _
  rotate_left
  simp only [Act.put, List.setIfInBounds_toArray, List.set_cons_zero, List.set_cons_succ]
  apply dag_val Ext.refl rfl (by intro W hW H; go_simp <;> rfl)
  simp only [Act.put, List.setIfInBounds_toArray, List.set_cons_zero, List.set_cons_succ]
  apply dag_val Ext.refl rfl (by intro W hW H; go_simp <;> rfl)
  simp only [Act.put, List.setIfInBounds_toArray, List.set_cons_zero, List.set_cons_succ]
  apply dag_val Ext.refl rfl (by intro W hW H; go_simp <;> rfl)
  simp only [Act.put, List.setIfInBounds_toArray, List.set_cons_zero, List.set_cons_succ]
  apply dag_val Ext.refl rfl (by intro W hW H; have q0 := hW.cell cv; go_simp <;> rfl)
  simp only [Act.put, List.setIfInBounds_toArray, List.set_cons_zero, List.set_cons_succ]
  apply dag_val Ext.refl rfl (by intro W hW H; go_simp <;> rfl)
  simp only [Act.put, List.setIfInBounds_toArray, List.set_cons_zero, List.set_cons_succ]
  apply dag_val Ext.refl rfl (by intro W hW H; go_simp <;> rfl)
  simp only [Act.put, List.setIfInBounds_toArray, List.set_cons_zero, List.set_cons_succ]
  apply dag_val Ext.refl rfl (by intro W hW H; have q0 := hW.cell c2; go_simp <;> rfl)
  simp only [Act.put, List.setIfInBounds_toArray, List.set_cons_zero, List.set_cons_succ]
  refine' dag_call (c := itmv y) (f := 47) (args := #[.pointer (some ⟨g2, 0, none⟩)]) rfl (by intro W; go_simp <;> rfl) (fun W hW H => H2 W (o2.ext hW) (v2.ext hW)) _
  rotate_left
  simp only [Act.put, List.setIfInBounds_toArray, List.set_cons_zero, List.set_cons_succ]
  refine' dag_call (c := .bool T) (f := 11) (args := #[itmv x, itmv y]) rfl (by intro W; go_simp <;> rfl) (fun W hW H => L1 W) _
  rotate_left
  simp only [Act.put, List.setIfInBounds_toArray, List.set_cons_zero, List.set_cons_succ]
  apply dag_val Ext.refl rfl (by intro W hW H; go_simp <;> rfl)
  simp only [Act.put, List.setIfInBounds_toArray, List.set_cons_zero, List.set_cons_succ]
  refine dag_end fun W hW H => ?_
  go_wp2_with fail
  go_ret
  exact ⟨rfl, hW⟩

theorem index0 (w : World) (a b : Int) : (Instr.index 68 (.agg #[.int .i64 a, .int .i64 b]) (.int .i64 0)).run Try.prog w = .ok (.int .i64 a) w := by kernel_rfl
theorem index1 (w : World) (a b : Int) : (Instr.index 68 (.agg #[.int .i64 a, .int .i64 b]) (.int .i64 1)).run Try.prog w = .ok (.int .i64 b) w := by kernel_rfl
/-- The least so far, behind t of the two children. -/
def lstN (hs : List Src) (i : Nat) : Nat → Nat
  | 0 => i
  | t + 1 => pick1 hs (2 * i + 1 + t) (lstN hs i t)
theorem lstN_two (hs : List Src) (i : Nat) : lstN hs i 2 = least hs i := rfl
theorem lstN_lt {hs : List Src} {i : Nat} (hi : i < hs.length) : ∀ t, lstN hs i t < hs.length
  | 0 => hi
  | t + 1 => by
    unfold lstN
    rcases pick1_cases hs (2 * i + 1 + t) (lstN hs i t) with e | ⟨e, h⟩
    · rw [e]; exact lstN_lt hi t
    · rw [e]; exact h
theorem lstN_none {hs : List Src} {i : Nat} (hi : hs.length ≤ i) : ∀ t, lstN hs i t = i
  | 0 => rfl
  | t + 1 => by
    unfold lstN
    rw [lstN_none hi t]
    unfold pick1
    rw [if_neg (by omega)]
set_option maxHeartbeats 8000000 in
theorem down_any (B : Nat) (m : Nat) (v : Value) (gs : List Nat) (hs : List Src) (nw : Int) (i : Nat) (w : World) (h : Heap B w m v gs hs nw) (hb : hs.length ≤ 1000) (hi : i ≤ 1000) :
    Calls Try.prog 23 #[.pointer (some ⟨m, 0, none⟩), .int .i64 (i : Int)] w fun e w' => e = .returned (.tuple #[]) ∧ ∃ gs', gs'.Perm gs ∧ Heap B w' m v gs' (downI hs i) nw ∧ Chg (fun k => v.ownBlock = some k) w w' := by
  obtain ⟨p0, c0, hv0, hlc0, hc0⟩ := h.shape
  unfold maxLen at hc0
  subst hv0
  generalize hN : hs.length = N at *
  go_enter Try.func23, Try.ntmps23
  go_wp2_with fail
  go_loopg [1] (2001 - i) (fun k s1 wr => ∃ (i' : Nat) (gs' : List Nat) (hs' : List Src), s1 = .int .i64 i' ∧ i' ≤ 1000 ∧ k = 2001 - i' ∧ gs'.Perm gs ∧ Heap B wr m (.slice p0 N c0) gs' hs' nw ∧ hs'.length = N ∧ Hid (downI hs' i' = downI hs i) ∧ Chg (fun k => (Value.slice p0 N c0).ownBlock = some k) w wr)
  case atStart => exact ⟨i, gs, hs, rfl, hi, rfl, List.Perm.refl _, h, hN, Lib.hid rfl, Chg.refl _ _⟩
  case round =>
    obtain ⟨i', gs', hs', rfl, hi', hk, hp, hh, hlen, HD, hx⟩ := hrel
    obtain ⟨wo, hwo⟩ : ∃ wo, wo = wr := ⟨_, rfl⟩
    subst hwo
    have hw1 : IntKind.i64.wrap (2 * (i' : Int)) = 2 * (i' : Int) := by rw [IntKind.wrap_i64]; omega
    have hw2 : IntKind.i64.wrap (2 * (i' : Int) + 1) = 2 * (i' : Int) + 1 := by rw [IntKind.wrap_i64]; omega
    have hw3 : IntKind.i64.wrap (2 * (i' : Int) + 2) = 2 * (i' : Int) + 2 := by rw [IntKind.wrap_i64]; omega
    have cv := hh.box.cell (j := 0) rfl
    have hid0 := index0
    have hid1 := index1
    go_wp2_with fail
    go_loopg [4, 15] (2) (fun k s4 s15 wi => ∃ t : Nat, s4 = .int .i64 (lstN hs' i' t : Int) ∧ s15 = .int .i64 t ∧ t ≤ 2 ∧ k = 2 - t ∧ Ext wo wi)
    case atStart => exact ⟨0, rfl, rfl, by omega, rfl, Ext.refl _⟩
    case round =>
      obtain ⟨t, rfl, rfl, ht, hk2, hxi⟩ := hrel
      have cvi := hxi.cell cv
      by_cases ht0 : t < 2
      case pos =>
        have hstep : lstN hs' i' (t + 1) = pick1 hs' (2 * i' + 1 + t) (lstN hs' i' t) := rfl
        have hlt := fun hi => lstN_lt (hs := hs') (i := i') hi t
        have HB := fun (hk : 2 * i' + 1 + t < hs'.length) => before_any B m _ gs' hs' nw (2 * i' + 1 + t) (lstN hs' i' t) wr (hh.ext hxi) hk (hlt (by omega))
        have eK : ((2 * i' + 1 + t : Nat) : Int) = 2 * (i' : Int) + 1 + (t : Int) := by omega
        rw [eK] at HB
        generalize lstN hs' i' t = L at *
        unfold pick1 at hstep
        rw [hlen] at hstep HB
        have htT : t = 0 ∨ t ≠ 0 := by omega
        rcases htT with rfl | hne0
        · have eK2 : 2 * (i' : Int) + 1 + ((0 : Nat) : Int) = 2 * (i' : Int) + 1 := by omega
          rw [eK2] at HB
          by_cases hkl : 2 * i' + 1 + 0 < N
          · have hkl2 : 2 * (i' : Int) + 1 < (N : Int) := by omega
            have B1 := HB hkl
            cases hbf : bef hs' (2 * i' + 1 + 0) L with
            | true =>
              rw [if_pos ⟨hkl, hbf⟩] at hstep
              rw [hbf] at B1
              have HS := Lib.hid hstep
              clear hstep HB hbf hkl
              go_wp2_with (go_at_call 27; refine B1.mono ?_; rintro e w5 ⟨rfl, hx5⟩)
              go_roundg (2 - (0 + 1))
              case measure => omega
              case rel => exact ⟨0 + 1, by rw [HS.out]; congr 1, by go_num, by omega, rfl, hxi.trans hx5⟩
            | false =>
              rw [if_neg (by rw [hbf]; simp)] at hstep
              rw [hbf] at B1
              have HS := Lib.hid hstep
              clear hstep HB hbf hkl
              go_wp2_with (go_at_call 27; refine B1.mono ?_; rintro e w5 ⟨rfl, hx5⟩)
              go_roundg (2 - (0 + 1))
              case measure => omega
              case rel => exact ⟨0 + 1, by rw [HS.out], by go_num, by omega, rfl, hxi.trans hx5⟩
          · have hkl2 : ¬ 2 * (i' : Int) + 1 < (N : Int) := by omega
            rw [if_neg (fun hc => hkl hc.1)] at hstep
            have HS := Lib.hid hstep
            clear hstep HB hkl
            go_wp2_with fail
            go_roundg (2 - (0 + 1))
            case measure => omega
            case rel => exact ⟨0 + 1, by rw [HS.out], by go_num, by omega, rfl, hxi⟩
        have htT : t = 1 ∨ t ≠ 1 := by omega
        rcases htT with rfl | hne1
        · have eK2 : 2 * (i' : Int) + 1 + ((1 : Nat) : Int) = 2 * (i' : Int) + 2 := by omega
          rw [eK2] at HB
          by_cases hkl : 2 * i' + 1 + 1 < N
          · have hkl2 : 2 * (i' : Int) + 2 < (N : Int) := by omega
            have B1 := HB hkl
            cases hbf : bef hs' (2 * i' + 1 + 1) L with
            | true =>
              rw [if_pos ⟨hkl, hbf⟩] at hstep
              rw [hbf] at B1
              have HS := Lib.hid hstep
              clear hstep HB hbf hkl
              go_wp2_with (go_at_call 27; refine B1.mono ?_; rintro e w5 ⟨rfl, hx5⟩)
              go_roundg (2 - (1 + 1))
              case measure => omega
              case rel => exact ⟨1 + 1, by rw [HS.out]; congr 1, by go_num, by omega, rfl, hxi.trans hx5⟩
            | false =>
              rw [if_neg (by rw [hbf]; simp)] at hstep
              rw [hbf] at B1
              have HS := Lib.hid hstep
              clear hstep HB hbf hkl
              go_wp2_with (go_at_call 27; refine B1.mono ?_; rintro e w5 ⟨rfl, hx5⟩)
              go_roundg (2 - (1 + 1))
              case measure => omega
              case rel => exact ⟨1 + 1, by rw [HS.out], by go_num, by omega, rfl, hxi.trans hx5⟩
          · have hkl2 : ¬ 2 * (i' : Int) + 2 < (N : Int) := by omega
            rw [if_neg (fun hc => hkl hc.1)] at hstep
            have HS := Lib.hid hstep
            clear hstep HB hkl
            go_wp2_with fail
            go_roundg (2 - (1 + 1))
            case measure => omega
            case rel => exact ⟨1 + 1, by rw [HS.out], by go_num, by omega, rfl, hxi⟩
        omega
      case neg =>
        have ht2 : t = 2 := by omega
        subst ht2
        have hl2 : lstN hs' i' 2 = least hs' i' := rfl
        rw [hl2]
        by_cases hle : least hs' i' = i'
        · have hst := downI_stop hle
          rw [hle]
          rw [hst] at HD
          clear hle hst hl2 ht0
          go_wp2_with fail
          refine bodyPost_ret (results_none rfl _ _ _) rfl ?_
          exact ⟨rfl, gs', hp, HD.out ▸ hh.ext hxi, hx.trans hxi.chg⟩
        · obtain ⟨hm1, hm2, _, _⟩ := least_go hle
          have hil : i' < hs'.length := by omega
          obtain ⟨b, c, g1, u1, e1, hg1, k1, o1, v1, n1⟩ := hh.src hil
          cases e1
          obtain ⟨_, _, g2, u2, e2, hg2, k2, o2, v2, n2⟩ := hh.src hm2
          cases e2
          have hsw := downI_step hle
          have hperm := gswap_perm gs' (i := i') (k := least hs' i') (by rw [hh.len]; exact hil) (by rw [hh.len]; exact hm2)
          rw [hsw] at HD
          have hii : (i' : Int) < (hs'.length : Int) := by omega
          have hll : ((least hs' i' : Nat) : Int) < (hs'.length : Int) := by omega
          have hne : ((least hs' i' : Nat) : Int) ≠ (i' : Int) := by omega
          have hbq : (((least hs' i' : Nat) : Int) == (i' : Int)) = false := beq_eq_false_iff_ne.2 hne
          have hl1000 : least hs' i' ≤ 1000 := by omega
          have hlgt : i' < least hs' i' := by omega
          have q1 := hxi.cell k1
          have q2 := hxi.cell k2
          have hxsw : Chg (fun k => (Value.slice (some ⟨b, 0, none⟩) hs'.length c0).ownBlock = some k) w wr := hx.trans hxi.chg
          have hrow := (hh.ext hxi).row
          unfold GOwn at hrow
          rw [hh.len] at hrow
          generalize least hs' i' = l at *
          clear hle hsw hl2 ht0 hm1 hne
          go_wp2_with fail
          have f1 := World.ownsRow.frozenAt hrow i'
          apply wp_region_dagY 25 26 (fun x y => Chg (fun q => q = b) x y) (fun x y => Chg (fun q => q = b) x y) (X := Ext) (by kernel_rfl) (by kernel_rfl) (by kernel_rfl) (by decide) (by decide) (fun _ _ _ => Ext.trans) (fun _ _ _ => Chg.trans) (fun _ _ h => h.chg) (fun _ _ h => h) (Ext.drew1 _)
          simp only [List.take_succ_cons, List.take_zero, List.drop_succ_cons, List.drop_zero]
          apply dagy_val Ext.refl rfl (by intro W hW H; go_simp <;> rfl)
          simp only [Act.put, List.setIfInBounds_toArray, List.set_cons_zero, List.set_cons_succ]
          apply dagy_val Ext.refl rfl (by intro W hW H; go_simp <;> rfl)
          simp only [Act.put, List.setIfInBounds_toArray, List.set_cons_zero, List.set_cons_succ]
          apply dagy_val Ext.refl rfl (by intro W hW H; go_simp <;> rfl)
          simp only [Act.put, List.setIfInBounds_toArray, List.set_cons_zero, List.set_cons_succ]
          apply dagy_val Ext.refl rfl (by intro W hW H; have hX := hW.2 (by kernel_rfl); have z0 := hX.cell cvi; go_simp <;> rfl)
          simp only [Act.put, List.setIfInBounds_toArray, List.set_cons_zero, List.set_cons_succ]
          apply dagy_val Ext.refl rfl (by intro W hW H; go_simp <;> rfl)
          simp only [Act.put, List.setIfInBounds_toArray, List.set_cons_zero, List.set_cons_succ]
          apply dagy_val Ext.refl rfl (by intro W hW H; go_simp <;> rfl)
          simp only [Act.put, List.setIfInBounds_toArray, List.set_cons_zero, List.set_cons_succ]
          apply dagy_val Ext.refl rfl (by intro W hW H; go_simp <;> rfl)
          simp only [Act.put, List.setIfInBounds_toArray, List.set_cons_zero, List.set_cons_succ]
          apply dagy_val Ext.refl rfl (by intro W hW H; go_simp <;> rfl)
          simp only [Act.put, List.setIfInBounds_toArray, List.set_cons_zero, List.set_cons_succ]
          apply dagy_val Ext.refl rfl (by intro W hW H; have hX := hW.2 (by kernel_rfl); have z0 := hX.cell cvi; go_simp <;> rfl)
          simp only [Act.put, List.setIfInBounds_toArray, List.set_cons_zero, List.set_cons_succ]
          apply dagy_val Ext.refl rfl (by intro W hW H; go_simp <;> rfl)
          simp only [Act.put, List.setIfInBounds_toArray, List.set_cons_zero, List.set_cons_succ]
          apply dagy_val Ext.refl rfl (by intro W hW H; go_simp <;> rfl)
          simp only [Act.put, List.setIfInBounds_toArray, List.set_cons_zero, List.set_cons_succ]
          apply dagy_val Ext.refl rfl (by intro W hW H; go_simp <;> rfl)
          simp only [Act.put, List.setIfInBounds_toArray, List.set_cons_zero, List.set_cons_succ]
          apply dagy_val Ext.refl rfl (by intro W hW H; go_simp <;> rfl)
          simp only [Act.put, List.setIfInBounds_toArray, List.set_cons_zero, List.set_cons_succ]
          apply dagy_val Ext.refl rfl (by intro W hW H; have hX := hW.2 (by kernel_rfl); have z0 := hX.cell cvi; go_simp <;> rfl)
          simp only [Act.put, List.setIfInBounds_toArray, List.set_cons_zero, List.set_cons_succ]
          apply dagy_val Ext.refl rfl (by intro W hW H; go_simp <;> rfl)
          simp only [Act.put, List.setIfInBounds_toArray, List.set_cons_zero, List.set_cons_succ]
          apply dagy_val Ext.refl rfl (by intro W hW H; go_simp <;> rfl)
          simp only [Act.put, List.setIfInBounds_toArray, List.set_cons_zero, List.set_cons_succ]
          apply dagy_val Ext.refl rfl (by intro W hW H; have hX := hW.2 (by kernel_rfl); have z0 := hX.cell q2; go_simp <;> rfl)
          simp only [Act.put, List.setIfInBounds_toArray, List.set_cons_zero, List.set_cons_succ]
          apply dagy_val Ext.refl rfl (by intro W hW H; go_simp <;> rfl)
          simp only [Act.put, List.setIfInBounds_toArray, List.set_cons_zero, List.set_cons_succ]
          apply dagy_val Ext.refl rfl (by intro W hW H; go_simp <;> rfl)
          simp only [Act.put, List.setIfInBounds_toArray, List.set_cons_zero, List.set_cons_succ]
          apply dagy_val Ext.refl rfl (by intro W hW H; go_simp <;> rfl)
          simp only [Act.put, List.setIfInBounds_toArray, List.set_cons_zero, List.set_cons_succ]
          apply dagy_val Ext.refl rfl (by intro W hW H; have hX := hW.2 (by kernel_rfl); have z0 := hX.cell cvi; go_simp <;> rfl)
          simp only [Act.put, List.setIfInBounds_toArray, List.set_cons_zero, List.set_cons_succ]
          apply dagy_val Ext.refl rfl (by intro W hW H; go_simp <;> rfl)
          simp only [Act.put, List.setIfInBounds_toArray, List.set_cons_zero, List.set_cons_succ]
          apply dagy_val Ext.refl rfl (by intro W hW H; go_simp <;> rfl)
          simp only [Act.put, List.setIfInBounds_toArray, List.set_cons_zero, List.set_cons_succ]
          apply dagy_val Ext.refl rfl (by intro W hW H; have hX := hW.2 (by kernel_rfl); have z0 := hX.cell q1; go_simp <;> rfl)
          simp only [Act.put, List.setIfInBounds_toArray, List.set_cons_zero, List.set_cons_succ]
          apply dagy_val Ext.refl rfl (by intro W hW H; go_simp <;> rfl)
          simp only [Act.put, List.setIfInBounds_toArray, List.set_cons_zero, List.set_cons_succ]
          refine' dagy_store (fun W => ∃ W1, Ext wr W1 ∧ Ext (W1.setCell ⟨b, i', none⟩ (srcv g2)) W) (fun W W' hs hh => hs.elim (fun hx => hh.elim fun W1 hq => ⟨W1, hq.1, hq.2.trans hx⟩) fun hz => absurd rfl hz.1) rfl (fun W hW H => by have hX := hW.2 (by kernel_rfl); have z0 := hX.cell q1; have z1 : W.frozen? ⟨b, i', none⟩ = false := (World.frozen?_of_block (hX.block b (World.block_lt_of_cell? wr _ q1))).trans f1; exact ⟨_, (by go_simp <;> rfl), (by unfold StepY; rw [if_pos rfl]; exact Chg.set _ _ _ rfl), W, hX, Ext.refl _⟩) (fun u => _)
          rotate_left
          simp only [Act.put]
          refine dagy_end fun W H => ?_
          obtain ⟨W1, x1, x2⟩ : ∃ W1, Ext wr W1 ∧ Ext (W1.setCell ⟨b, i', none⟩ (srcv g2)) W := H 25
          clear H
          have hhW := (hh.ext hxi).ext x1
          have hswp := hhW.swap x2 hil hm2 hg1 hg2
          have HSW := Lib.hid hswp
          have hrW := hhW.row
          unfold GOwn at hrW
          rw [hhW.len] at hrW
          have hr2 := owns_chg (World.ownsRow.stored hrW i' (srcv g2)).1 (X := fun _ => False) x2.chg (fun _ _ h => h)
          have f2 := World.ownsRow.frozenAt hr2 l
          obtain ⟨z2, c2⟩ : ∃ z, W.cell? ⟨b, l, none⟩ = some z := by
            rw [World.ownsRow.cellAt hr2 l (by omega), List.getElem?_set, if_neg (by omega), List.getElem?_map, hg2]
            exact ⟨_, rfl⟩
          have hxF := (((hxsw.trans x1.chg).trans (Chg.set W1 ⟨b, i', none⟩ (srcv g2) rfl)).trans x2.chg).trans (Chg.set W ⟨b, l, none⟩ (srcv g1) rfl)
          clear hswp hrW hr2 hrow
          go_wp2_with fail
          go_roundg (2001 - l)
          case measure => omega
          case rel => exact ⟨l, gswap gs' i' l, swap hs' i' l, rfl, hl1000, rfl, hperm.trans hp, HSW.out, swap_length _ _ _, Lib.hid HD, hxF⟩
end Go.Proofs.Ytmoljicchgcnfaa
