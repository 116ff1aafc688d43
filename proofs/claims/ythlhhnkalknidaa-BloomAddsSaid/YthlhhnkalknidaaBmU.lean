/- What the document's functions of layer 33 compute: New, bit, Full, Places, Has. -/
import Derived.Test.YthlhhnkalknidaaBmR
namespace Go.Proofs.Ythlhhnkalknidaa
open Go.RowKit

set_option maxHeartbeats 2000000 in
theorem rnewset_any (size each : Int) (w : World) :
    Calls Try.prog 20 #[.int .i64 size, .int .i64 each] w fun e w' => ∃ v', e = .returned (.tuple #[stv v' (newS size each).1.each (newS size each).1.n, .int .i64 (newS size each).2]) ∧ BV w' v' (newS size each).1.bits ∧ Ext w w' := by
  obtain ⟨N, hN⟩ : ∃ N, newS size each = N := ⟨_, rfl⟩
  rw [hN]
  unfold newS at hN
  have ho0 : ObjAt (w.alloc (.cells #[.slice none 0 0, .int .i64 0, .int .i64 0] 24)) w.heap.size 24 nilS := heap_alloc_new w _
  have hx0 := Ext.alloc w (.cells #[.slice none 0 0, .int .i64 0, .int .i64 0] 24)
  by_cases hr : 0 ≤ size ∧ size ≤ 4096
  case neg =>
    rw [if_neg (fun h => hr ⟨h.1, h.2.1⟩)] at hN
    subst hN
    rcases (by omega : size < 0 ∨ (¬ size < 0 ∧ 4096 < size)) with h1 | ⟨h1, h2⟩
    all_goals
      clear hr
      go_enter Try.func20, Try.ntmps20
      go_wp2_with fail
      refine bodyPost_ret (rst_results2 rfl _ _ (w.heap.size) _ _ _ rfl ho0) rfl ?_
      exact ⟨_, rfl, BV.nil _, hx0⟩
  obtain ⟨m, rfl⟩ : ∃ m : Nat, size = (m : Int) := ⟨size.toNat, by omega⟩
  rw [Int.toNat_natCast] at hN
  have h1 : ¬ (m : Int) < 0 := by omega
  have h2 : ¬ 4096 < (m : Int) := by omega
  have hm : m ≤ 4096 := by omega
  have hsz : (w.alloc (.cells #[.slice none 0 0, .int .i64 0, .int .i64 0] 24)).heap.size = w.heap.size + 1 := by simp
  have HSZ := Lib.hid hsz
  clear hsz
  have C1 := fun (w0 : Nat) (w : World) (h : BV w (.slice (some ⟨w0, 0, none⟩) m m) (List.replicate m 0)) => rcheck_any (.slice (some ⟨w0, 0, none⟩) m m) (List.replicate m 0) each 0 w h
  by_cases hg : goodB ⟨List.replicate m 0, each, 0⟩
  · rw [if_pos ⟨hr.1, hr.2, hg⟩] at hN
    subst hN
    rw [checkB_ok hg] at C1
    clear hg hr
    go_enter Try.func20, Try.ntmps20
    go_wp2_with (first
      | ((with_reducible show wpList _ _ _ (Oper.mk _ (Op.makeSlice _ _ _) _ _ _ _ :: _) _ _); refine wpList_make_bytes T.bytes (n := m) rfl rfl rfl rfl (by omega) ?_; intro w1 hf1 hx1
         rw [HSZ.out] at hf1
         have hx2 := hx1.trans (Ext.alloc w1 (.cells #[.slice (some ⟨w.heap.size + 1, 0, none⟩) m m, .int .i64 each, .int .i64 0] 24))
         have hf2 := hf1.keep (Ext.alloc w1 (.cells #[.slice (some ⟨w.heap.size + 1, 0, none⟩) m m, .int .i64 each, .int .i64 0] 24))
         have ho2 : ObjAt (w1.alloc (.cells #[.slice (some ⟨w.heap.size + 1, 0, none⟩) m m, .int .i64 each, .int .i64 0] 24)) w1.heap.size 24 [.slice (some ⟨w.heap.size + 1, 0, none⟩) m m, .int .i64 each, .int .i64 0] := heap_alloc_new w1 _)
      | (go_at_call 18; refine (C1 (w.heap.size + 1) (w1.alloc (.cells #[.slice (some ⟨w.heap.size + 1, 0, none⟩) m m, .int .i64 each, .int .i64 0] 24)) hf2.view).mono ?_; rintro e w2 ⟨rfl, hx3⟩
         obtain ⟨hd0, hd1, hd2⟩ := (ho2.ext hx3).cells3
         obtain ⟨⟨hm0, hk0, hm1, hk1, hm2, hk2⟩, ho6⟩ := ((ho0.ext hx2).ext hx3).stored3 (.slice (some ⟨w.heap.size + 1, 0, none⟩) m m) (.int .i64 each) (.int .i64 0)))
    refine bodyPost_ret (rst_results2 rfl _ _ (w.heap.size) _ _ _ rfl ho6) rfl ?_
    have hne : (Value.slice (some ⟨w.heap.size + 1, 0, none⟩) m m).ownBlock ≠ some w.heap.size := fun e => by have e' : w.heap.size + 1 = _ := Option.some.inj e; omega
    exact ⟨_, rfl, ((hf2.keep hx3).far3 hne _ _ _).view, ((hx0.trans hx2).trans hx3).set3 (Nat.le_refl _) _ _ _⟩
  · rw [if_neg (fun h => hg h.2.2)] at hN
    subst hN
    rw [checkB_bad hg] at C1
    clear hg hr
    go_enter Try.func20, Try.ntmps20
    go_wp2_with (first
      | ((with_reducible show wpList _ _ _ (Oper.mk _ (Op.makeSlice _ _ _) _ _ _ _ :: _) _ _); refine wpList_make_bytes T.bytes (n := m) rfl rfl rfl rfl (by omega) ?_; intro w1 hf1 hx1
         rw [HSZ.out] at hf1
         have hx2 := hx1.trans (Ext.alloc w1 (.cells #[.slice (some ⟨w.heap.size + 1, 0, none⟩) m m, .int .i64 each, .int .i64 0] 24))
         have hf2 := hf1.keep (Ext.alloc w1 (.cells #[.slice (some ⟨w.heap.size + 1, 0, none⟩) m m, .int .i64 each, .int .i64 0] 24))
         have ho2 : ObjAt (w1.alloc (.cells #[.slice (some ⟨w.heap.size + 1, 0, none⟩) m m, .int .i64 each, .int .i64 0] 24)) w1.heap.size 24 [.slice (some ⟨w.heap.size + 1, 0, none⟩) m m, .int .i64 each, .int .i64 0] := heap_alloc_new w1 _)
      | (go_at_call 18; refine (C1 (w.heap.size + 1) (w1.alloc (.cells #[.slice (some ⟨w.heap.size + 1, 0, none⟩) m m, .int .i64 each, .int .i64 0] 24)) hf2.view).mono ?_; rintro e w2 ⟨rfl, hx3⟩
         obtain ⟨hd0, hd1, hd2⟩ := (ho2.ext hx3).cells3
         obtain ⟨⟨hm0, hk0, hm1, hk1, hm2, hk2⟩, ho6⟩ := ((ho0.ext hx2).ext hx3).stored3 (.slice none 0 0) (.int .i64 0) (.int .i64 0)))
    refine bodyPost_ret (rst_results2 rfl _ _ (w.heap.size) _ _ _ rfl ho6) rfl ?_
    exact ⟨_, rfl, BV.nil _, ((hx0.trans hx2).trans hx3).set3 (Nat.le_refl _) _ _ _⟩

set_option maxHeartbeats 1000000 in
theorem rbit_any (v : Value) (l : List UInt8) (each n : Int) (p : Nat) (w : World) (h : BV w v l) (hp : p < 8 * l.length) (hl : l.length ≤ 100000) :
    Calls Try.prog 33 #[stv v each n, .int .i64 (p : Int)] w fun e w' => e = .returned (.bool (bitAt l p)) ∧ Ext w w' := by
  obtain ⟨q, c, rfl, hn, hc, hs⟩ := id h
  have hx0 := Ext.alloc w (.cells #[Value.slice q l.length c, .int .i64 each, .int .i64 n] 24)
  have ho0 : ObjAt (w.alloc (.cells #[Value.slice q l.length c, .int .i64 each, .int .i64 n] 24)) w.heap.size 24 [.slice q l.length c, .int .i64 each, .int .i64 n] := heap_alloc_new w _
  have hc0 := ho0.cell (j := 0) (u := .slice q l.length c) rfl
  obtain ⟨a, ha⟩ : ∃ a, p / 8 = a := ⟨_, rfl⟩
  obtain ⟨r, hr⟩ : ∃ r, p % 8 = r := ⟨_, rfl⟩
  have hal : a < l.length := by omega
  obtain ⟨b, o, rfl, hcell0⟩ := hs.at (bs_get l hal)
  have hcell := hx0.cell hcell0
  have hd : (p : Int) / 8 = (a : Int) := by omega
  have hi : (a : Int) < (l.length : Int) := by omega
  have hr8 : (r : Int) < 8 := by omega
  have hp0 : 0 ≤ (p : Int) := by omega
  have hwa : IntKind.i64.wrap (a : Int) = (a : Int) := by rw [IntKind.wrap_i64]; omega
  have htm : (p : Int).tmod 8 = (r : Int) := by rw [Int.tmod_eq_emod_of_nonneg hp0]; omega
  have htd : (p : Int).tdiv 8 = (a : Int) := by rw [Int.tdiv_eq_ediv_of_nonneg hp0]; omega
  have hmn : min r 64 = r := by omega
  obtain ⟨B, HB⟩ : ∃ B, Hid (bitAt l p = B) := ⟨_, rfl⟩
  have HBA : Hid (bitAt l p = l[a].toNat.testBit r) := by
    show bitAt l p = _
    unfold bitAt
    rw [ha, hr]
    simp [List.getD_eq_getElem?_getD, hal]
  have hr9 : r < 8 := by omega
  obtain ⟨D, hD, hD1, hD2⟩ : ∃ D : Nat, 2 ^ r = D ∧ 1 ≤ D ∧ D ≤ 128 := ⟨2 ^ r, rfl, Nat.one_le_two_pow, Nat.pow_le_pow_right (n := 2) (by omega) (show r ≤ 7 by omega)⟩
  have hpw : IntKind.i64.wrap ((2 : Int) ^ r) = (D : Int) := by
    rw [show ((2 : Int) ^ r) = (D : Int) by rw [← hD]; simp, IntKind.wrap_i64]; omega
  obtain ⟨Q, hQ⟩ : ∃ Q, l[a].toNat / D = Q := ⟨_, rfl⟩
  have hQ2 : Q ≤ 255 := by have := Nat.div_le_self l[a].toNat D; have := l[a].toNat_lt; omega
  have hdq : ((l[a].toNat : Nat) : Int).tdiv (D : Int) = (Q : Int) := by
    rw [Int.tdiv_eq_ediv_of_nonneg (by omega), ← hQ]; simp
  have hde : ((l[a].toNat : Nat) : Int) / (D : Int) = (Q : Int) := by rw [← hQ]; simp
  have hQw : IntKind.i64.wrap (Q : Int) = (Q : Int) := by rw [IntKind.wrap_i64]; omega
  have hDn : D ≠ 0 := by omega
  obtain ⟨T, hT⟩ : ∃ T, Q % 2 = T := ⟨_, rfl⟩
  have htq : (Q : Int).tmod 2 = (T : Int) := by rw [Int.tmod_eq_emod_of_nonneg (by omega)]; omega
  have htw : IntKind.i64.wrap (T : Int) = (T : Int) := by rw [IntKind.wrap_i64]; omega
  have hBT : ((T : Int) == 1) = B := by
    rw [← HB.out, HBA.out, Nat.testBit_eq_decide_div_mod_eq, hD, hQ, hT]
    by_cases h1 : T = 1
    · subst h1; rfl
    · rw [decide_eq_false h1, beq_eq_false_iff_ne]; omega
  rw [HB.out]
  clear ha hr hp hr9 hD hQ hT hQ2 hD1 hD2
  go_enter Try.func33, Try.ntmps33
  go_wp2_with fail
  apply wp_region_dag (X := Ext) (by kernel_rfl) (by kernel_rfl) (fun _ _ _ => Ext.trans) (Ext.drew1 _)
  apply dag_val Ext.refl rfl (by intro W hW H; go_simp <;> rfl)
  simp only [Act.put, List.setIfInBounds_toArray, List.set_cons_zero, List.set_cons_succ]
  apply dag_val Ext.refl rfl (by intro W hW H; have k0 := hW.cell hc0; go_simp <;> rfl)
  simp only [Act.put, List.setIfInBounds_toArray, List.set_cons_zero, List.set_cons_succ]
  apply dag_val Ext.refl rfl (by intro W hW H; go_simp <;> rfl)
  simp only [Act.put, List.setIfInBounds_toArray, List.set_cons_zero, List.set_cons_succ]
  apply dag_val Ext.refl rfl (by intro W hW H; go_simp <;> rfl)
  simp only [Act.put, List.setIfInBounds_toArray, List.set_cons_zero, List.set_cons_succ]
  apply dag_val Ext.refl rfl (by intro W hW H; go_simp <;> rfl)
  simp only [Act.put, List.setIfInBounds_toArray, List.set_cons_zero, List.set_cons_succ]
  apply dag_val Ext.refl rfl (by intro W hW H; have k0 := hW.cell hcell; go_simp <;> rfl)
  simp only [Act.put, List.setIfInBounds_toArray, List.set_cons_zero, List.set_cons_succ]
  apply dag_val Ext.refl rfl (by intro W hW H; go_simp <;> rfl)
  simp only [Act.put, List.setIfInBounds_toArray, List.set_cons_zero, List.set_cons_succ]
  apply dag_val Ext.refl rfl (by intro W hW H; go_simp <;> rfl)
  simp only [Act.put, List.setIfInBounds_toArray, List.set_cons_zero, List.set_cons_succ]
  apply dag_val Ext.refl rfl (by intro W hW H; go_simp <;> rfl)
  simp only [Act.put, List.setIfInBounds_toArray, List.set_cons_zero, List.set_cons_succ]
  apply dag_val Ext.refl rfl (by intro W hW H; go_simp <;> rfl)
  simp only [Act.put, List.setIfInBounds_toArray, List.set_cons_zero, List.set_cons_succ]
  apply dag_val Ext.refl rfl (by intro W hW H; go_simp <;> rfl)
  simp only [Act.put, List.setIfInBounds_toArray, List.set_cons_zero, List.set_cons_succ]
  apply dag_val Ext.refl rfl (by intro W hW H; go_simp <;> rfl)
  simp only [Act.put, List.setIfInBounds_toArray, List.set_cons_zero, List.set_cons_succ]
  apply dag_val Ext.refl rfl (by intro W hW H; go_simp <;> rfl)
  simp only [Act.put, List.setIfInBounds_toArray, List.set_cons_zero, List.set_cons_succ]
  apply dag_val Ext.refl rfl (by intro W hW H; go_simp <;> rfl)
  simp only [Act.put, List.setIfInBounds_toArray, List.set_cons_zero, List.set_cons_succ]
  refine dag_end fun W hW H => ?_
  go_wp2_with fail
  go_ret
  exact ⟨rfl, hx0.trans hW⟩

set_option maxHeartbeats 1000000 in
theorem rfull_any (v : Value) (l : List UInt8) (each n : Int) (w : World) (h : BV w v l) (hl : l.length ≤ 100000) :
    Calls Try.prog 24 #[stv v each n] w fun e w' => e = .returned (.int .i64 (fullL l : Nat)) ∧ Ext w w' := by
  obtain ⟨p, c, rfl, hn, hc, hs⟩ := id h
  have hx0 := Ext.alloc w (.cells #[Value.slice p l.length c, .int .i64 each, .int .i64 n] 24)
  have ho0 : ObjAt (w.alloc (.cells #[Value.slice p l.length c, .int .i64 each, .int .i64 n] 24)) w.heap.size 24 [.slice p l.length c, .int .i64 each, .int .i64 n] := heap_alloc_new w _
  go_enter Try.func24, Try.ntmps24
  go_wp2_with fail
  go_loopg [3, 4] (8 * l.length) (fun k s3 s4 wr => ∃ j : Nat, s4 = .int .i64 j ∧ j ≤ 8 * l.length ∧ k = 8 * l.length - j ∧ s3 = .int .i64 (fullTo l j : Nat) ∧ Ext (w.alloc (.cells #[Value.slice p l.length c, .int .i64 each, .int .i64 n] 24)) wr)
  case atStart => exact ⟨0, rfl, Nat.zero_le _, rfl, rfl, Ext.refl _⟩
  case round =>
    obtain ⟨j, rfl, hj, hk, rfl, hx⟩ := hrel
    obtain ⟨m0, m1, m2⟩ := (ho0.ext hx).cells3
    by_cases hlt : j < 8 * l.length
    case pos =>
      have hi : (j : Int) < 8 * (l.length : Int) := by omega
      have HF := Lib.hid (fullTo_succ l j)
      have hle := fullTo_le l j
      have B1 := rbit_any (.slice p l.length c) l each n j wr ((h.ext hx0).ext hx) hlt hl
      generalize fullTo l j = F at *
      cases hb : bitAt l j with
      | true =>
        rw [hb] at B1 HF
        clear hb
        go_wp2_with (go_at_call 33; refine B1.mono ?_; rintro e w2 ⟨rfl, hx2⟩)
        go_roundg (8 * l.length - (j + 1))
        case measure => omega
        case rel => exact ⟨j + 1, by go_num, hlt, rfl, by rw [HF.out]; rfl, hx.trans hx2⟩
      | false =>
        rw [hb] at B1 HF
        clear hb
        go_wp2_with (go_at_call 33; refine B1.mono ?_; rintro e w2 ⟨rfl, hx2⟩)
        go_roundg (8 * l.length - (j + 1))
        case measure => omega
        case rel => exact ⟨j + 1, by go_num, hlt, rfl, by rw [HF.out]; rfl, hx.trans hx2⟩
    case neg =>
      obtain rfl : j = 8 * l.length := by omega
      go_wp2_with fail
      go_ret
      exact ⟨rfl, hx0.trans hx⟩
end Go.Proofs.Ythlhhnkalknidaa
