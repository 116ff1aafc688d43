/- What the document's Items of layer 34 computes. -/
import Derived.Test.YtmoljicchgcnfaaMgI
namespace Go.Proofs.Ytmoljicchgcnfaa
open Go.RowKit

set_option maxHeartbeats 4000000 in
theorem ritems_any (n : Int) (v : Value) (l : List Bat) (w : World) (h : BatV w v l) (hl : (itemsOf n l).length ≤ 100000) :
    Calls Try.prog 9 #[.int .i64 n, v] w fun e w' => ∃ v', e = .returned v' ∧ RItmO w' w.heap.size v' (itemsOf n l) ∧ Ext w w' := by
  obtain ⟨p, c, rfl, _, hcm⟩ := h.slice
  unfold maxLen at hcm
  go_enter Try.func9, Try.ntmps9
  go_wp2_with fail
  go_loopg [5, 6] (l.length) (fun k s5 s6 wr => ∃ (j : Nat) (x : Value), s5 = x ∧ s6 = .int .i64 j ∧ j ≤ l.length ∧ k = l.length - j ∧ RItmO wr w.heap.size x (itemsOf n (l.take j)) ∧ Ext w wr)
  case atStart => exact ⟨0, _, rfl, rfl, Nat.zero_le _, rfl, ORow.nil _ _ _, Ext.refl _⟩
  case round =>
    obtain ⟨j, x, rfl, rfl, hj, hk, ho, hx⟩ := hrel
    obtain ⟨wo, hwo⟩ : ∃ wo, wo = wr := ⟨_, rfl⟩
    subst hwo
    by_cases hlt : j < l.length
    case pos =>
      have hi : (j : Int) < (l.length : Int) := by omega
      obtain ⟨b, o, q, d, rfl, ⟨m0, m1, m2, m3, m4, m5⟩, hrv⟩ := bat_at h hlt
      have hlen := items_len (n := n) hlt
      have hsn := itemsOf_snoc n l j hlt
      generalize l[j] = bt at *
      obtain ⟨b0, b1, b2, b3, b4, rs⟩ := bt
      simp only at *
      have hrd : rs.length ≤ d := hrv.len.2.1
      have hdm : d ≤ 2 ^ 63 - 1 := by have := hrv.len.2.2; unfold maxLen at this; exact this
      unfold itemsB at hsn
      simp only at hsn
      generalize itemsOf n (l.take j) = pre at *
      have HSN := Lib.hid hsn
      have HLEN := Lib.hid hlen
      clear hsn hlen
      go_wp2_with fail
      go_loopg [5, 7] (rs.length) (fun k s5 s7 wi => ∃ (i : Nat) (x : Value), s5 = x ∧ s7 = .int .i64 i ∧ i ≤ rs.length ∧ k = rs.length - i ∧ RItmO wi w.heap.size x (pre ++ (rs.take i).map (itemR n b0)) ∧ Ext w wi)
      case atStart => exact ⟨0, _, rfl, rfl, Nat.zero_le _, rfl, by simpa using ho, hx⟩
      case round =>
        obtain ⟨i, y, rfl, rfl, hi2, hk2, hoi, hxi⟩ := hrel
        have n5 := hxi.cell m5
        by_cases hlt2 : i < rs.length
        case pos =>
          have hii : (i : Int) < (rs.length : Int) := by omega
          obtain ⟨b7, o7, rfl, ⟨r0, r1, r2, r3, r4, r5⟩, _, _⟩ := rec_at (hrv.ext hxi) hlt2
          have HSI := Lib.hid (itemsB_snoc n b0 rs i hlt2)
          have hlen1 : (pre ++ (rs.take i).map (itemR n b0)).length + 1 ≤ 100000 := by
            have := HLEN.out
            rw [List.length_append, List.length_map, List.length_take, Nat.min_eq_left hi2]
            omega
          generalize hpi : pre ++ (rs.take i).map (itemR n b0) = pi at *
          generalize rs[i] = r at *
          obtain ⟨rd, rt, rk, ry, rz, rv⟩ := r
          simp only at *
          have hxr := Ext.alloc wr (.cells #[.int .i64 rd, .int .i64 rt, .bool rk, .string ⟨ry.toArray⟩, .bool rz, .string ⟨rv.toArray⟩] 24)
          have orr : ObjAt (wr.alloc (.cells #[.int .i64 rd, .int .i64 rt, .bool rk, .string ⟨ry.toArray⟩, .bool rz, .string ⟨rv.toArray⟩] 24)) wr.heap.size 24 [.int .i64 rd, .int .i64 rt, .bool rk, .string ⟨ry.toArray⟩, .bool rz, .string ⟨rv.toArray⟩] := heap_alloc_new wr _
          have k0 := orr.cell (j := 0) rfl
          have k1 := orr.cell (j := 1) rfl
          have k2 := orr.cell (j := 2) rfl
          have k3 := orr.cell (j := 3) rfl
          have k4 := orr.cell (j := 4) rfl
          have k5 := orr.cell (j := 5) rfl
          have n0 := (hxi.trans hxr).cell m0
          have HL1 := Lib.hid hlen1
          clear hlen1 orr
          go_wp2_with fail
          apply wp_region_dag_tail 15 (X := Ext) (by kernel_rfl) (by kernel_rfl) (by kernel_rfl) (by decide) (fun _ _ _ => Ext.trans) (Ext.drew1 _)
          simp only [List.take_succ_cons, List.take_zero, List.drop_succ_cons, List.drop_zero]
          apply dag_val Ext.refl rfl (by intro W hW H; go_simp <;> rfl)
          simp only [Act.put, List.setIfInBounds_toArray, List.set_cons_zero, List.set_cons_succ]
          apply dag_val Ext.refl rfl (by intro W hW H; go_simp <;> rfl)
          simp only [Act.put, List.setIfInBounds_toArray, List.set_cons_zero, List.set_cons_succ]
          apply dag_val Ext.refl rfl (by intro W hW H; go_simp <;> rfl)
          simp only [Act.put, List.setIfInBounds_toArray, List.set_cons_zero, List.set_cons_succ]
          apply dag_val Ext.refl rfl (by intro W hW H; go_simp <;> rfl)
          simp only [Act.put, List.setIfInBounds_toArray, List.set_cons_zero, List.set_cons_succ]
          apply dag_val Ext.refl rfl (by intro W hW H; go_simp <;> rfl)
          simp only [Act.put, List.setIfInBounds_toArray, List.set_cons_zero, List.set_cons_succ]
          apply dag_val Ext.refl rfl (by intro W hW H; go_simp <;> rfl)
          simp only [Act.put, List.setIfInBounds_toArray, List.set_cons_zero, List.set_cons_succ]
          apply dag_val Ext.refl rfl (by intro W hW H; have q0 := hW.cell n0; go_simp <;> rfl)
          simp only [Act.put, List.setIfInBounds_toArray, List.set_cons_zero, List.set_cons_succ]
          apply dag_val Ext.refl rfl (by intro W hW H; go_simp <;> rfl)
          simp only [Act.put, List.setIfInBounds_toArray, List.set_cons_zero, List.set_cons_succ]
          apply dag_val Ext.refl rfl (by intro W hW H; have q0 := hW.cell k0; go_simp <;> rfl)
          simp only [Act.put, List.setIfInBounds_toArray, List.set_cons_zero, List.set_cons_succ]
          apply dag_val Ext.refl rfl (by intro W hW H; go_simp <;> rfl)
          simp only [Act.put, List.setIfInBounds_toArray, List.set_cons_zero, List.set_cons_succ]
          apply dag_val Ext.refl rfl (by intro W hW H; go_simp <;> rfl)
          simp only [Act.put, List.setIfInBounds_toArray, List.set_cons_zero, List.set_cons_succ]
          apply dag_val Ext.refl rfl (by intro W hW H; have q0 := hW.cell k1; go_simp <;> rfl)
          simp only [Act.put, List.setIfInBounds_toArray, List.set_cons_zero, List.set_cons_succ]
          apply dag_val Ext.refl rfl (by intro W hW H; have q0 := hW.cell k0; have q1 := hW.cell k1; have q2 := hW.cell k2; have q3 := hW.cell k3; have q4 := hW.cell k4; have q5 := hW.cell k5; go_simp <;> rfl)
          simp only [Act.put, List.setIfInBounds_toArray, List.set_cons_zero, List.set_cons_succ]
          apply dag_val Ext.refl rfl (by intro W hW H; go_simp <;> rfl)
          simp only [Act.put, List.setIfInBounds_toArray, List.set_cons_zero, List.set_cons_succ]
          refine' dag_rel (fun v W => SRow 9 RItm (fun k => False ∧ some k ≠ u5.ownBlock) W v [itemR n b0 ⟨rd, rt, rk, ry, rz, rv⟩]) (fun _ _ _ hx h => h.ext hx) (fun W hW H => gives_run (v := .slice (some ⟨W.heap.size, 0, none⟩) 1 1) (W' := W.alloc (.cells #[.int .i64 n, .int .i64 (IntKind.i64.wrap (b0 + rd)), .int .i64 rt, .int .i64 rd, .int .i64 rt, .bool rk, .string ⟨ry.toArray⟩, .bool rz, .string ⟨rv.toArray⟩] 26)) rfl (by go_simp <;> rfl) ⟨Ext.alloc _ _, (by exact by rw [IntWalk.i64_left]; exact itm_lit1 _ _ _ (itemR n b0 ⟨rd, rt, rk, ry, rz, rv⟩))⟩) (fun u => _)
          rotate_left
          simp only [Act.put, List.setIfInBounds_toArray, List.set_cons_zero, List.set_cons_succ]
          refine dag_end fun W hW H => ?_
          have hl1 : SRow 9 RItm (fun k => False ∧ some k ≠ u5.ownBlock) W u [itemR n b0 ⟨rd, rt, rk, ry, rz, rv⟩] := H 14
          clear H k0 k1 k2 k3 k4 k5
          have hxW := (hxi.trans hxr).trans hW
          have ho1 := hoi.keep (hxr.trans hW)
          have HWS := Lib.hid hxW.size
          go_wp2_with (at_builtin; refine st_items T.ritems ho1 hl1 ?_ (by have := HL1.out; simp [maxLen]; omega) (by have := HL1.out; simp; omega) HWS.out; intro v2 w2 ho2 hg2 hw2; have hx2 := ho1.grown hxW hg2)
          go_roundg (rs.length - (i + 1))
          case measure => omega
          case rel =>
            refine ⟨i + 1, _, rfl, by go_num, hlt2, rfl, ?_, hx2⟩
            rw [HSI.out, ← List.append_assoc, hpi]
            exact ho2
        case neg =>
          have hie : i = rs.length := by omega
          subst hie
          have hii : ¬ (rs.length : Int) < (rs.length : Int) := by omega
          rw [List.take_length, ← HSN.out] at hoi
          clear hlt2
          go_wp2_with fail
          go_roundg (l.length - (j + 1))
          case measure => omega
          case rel => exact ⟨j + 1, _, rfl, by go_num, hlt, rfl, hoi, hxi⟩
    case neg =>
      have hje : j = l.length := by omega
      subst hje
      have hi : ¬ (l.length : Int) < (l.length : Int) := by omega
      rw [List.take_length] at ho
      clear hlt
      go_wp2_with fail
      go_ret
      exact ⟨_, rfl, ho, hx⟩
end Go.Proofs.Ytmoljicchgcnfaa
