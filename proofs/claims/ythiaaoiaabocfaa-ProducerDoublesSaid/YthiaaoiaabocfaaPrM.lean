/- What the document's Same of layer 13 computes. -/
import Derived.Test.YthiaaoiaabocfaaPrX
import Derived.Test.YthiaaoiaabocfaaPrS
import Derived.Test.YthiaaoiaabocfaaInsF
namespace Go.Proofs.Ythiaaoiaabocfaa
open Go.RowKit

theorem reqSn_run (x0 x1 x2 y0 y1 y2 : Int) (w : World) : (Op.equalIn 10000 68 (.agg #[.int .i64 x0, .int .i64 x1, .int .i64 x2]) (.agg #[.int .i64 y0, .int .i64 y1, .int .i64 y2])).run Try.prog w = .ok (sameS ⟨x0, x1, x2⟩ ⟨y0, y1, y2⟩) w := by
  have u3 := Try.underlying3
  have a3 := Try.isAgg3
  have z3 := Try.sizeOf3
  have hS : Try.prog.underlying 68 = some (.struct (Try.prog.fieldsOf 68)) := by kernel_rfl
  have hp : Try.prog.stoodInHeld 68 = false := by kernel_rfl
  rw [show (10000 : Nat) = 9999 + 1 from rfl, run_equalIn_agg w 9999 68 _ _ hS hp]
  simp only [Program.fieldsOf, Try.underlying68]
  go_simp
  unfold sameS
  by_cases h1 : x0 = y0 <;> by_cases h2 : x1 = y1 <;> by_cases h3 : x2 = y2 <;> simp [h1, h2, h3]
theorem run_rneqSn {o : Oper} {a : Act} {x y : Operand} {ty : TypeId} (ho : o.op = .binOp .neq 68 x y ty) {x0 x1 x2 y0 y1 y2 : Int} (hx : a.eval x = .agg #[.int .i64 x0, .int .i64 x1, .int .i64 x2]) (hy : a.eval y = .agg #[.int .i64 y0, .int .i64 y1, .int .i64 y2]) (W : World) :
    (execOp a.eval o).run Try.prog W = .ok (.value (.bool (!sameS ⟨x0, x1, x2⟩ ⟨y0, y1, y2⟩))) W := by
  have hm : Try.prog.eqGuardType Try.prog.depth 68 = false := by kernel_rfl
  simp [execOp, ho, hx, hy, run_eqGuard_agg W .neq 68 x y _ _ hm, run_neq_struct, reqSn_run, Result.andThen]

set_option maxRecDepth 20000 in
set_option maxHeartbeats 8000000 in
theorem rsame_any (v v' : Value) (a b : List Ent) (w : World) (h : TabV w v a) (h' : TabV w v' b) :
    Calls Try.prog 16 #[.agg #[v], .agg #[v']] w fun e w' => e = .returned (.bool (sameT a b)) ∧ Ext w w' := by
  obtain ⟨p, c, rfl, hn, hc⟩ := h.slice
  obtain ⟨p', c', rfl, hn', hc'⟩ := h'.slice
  unfold maxLen at hc hc'
  obtain ⟨o1, o2, hx0, hsz⟩ := objs2 w 24 24 [.slice p a.length c] [.slice p' b.length c']
  have a0 := o1.cell (j := 0) rfl
  have b0 := o2.cell (j := 0) rfl
  clear o1 o2 hsz
  unfold sameT
  by_cases hl : a.length = b.length
  case neg =>
    have hl2 : ((a.length : Int) == (b.length : Int)) = false := by simp; omega
    have hl3 : (a.length == b.length) = false := by simp [hl]
    rw [hl3, Bool.false_and]
    clear hl hl3
    go_enter Try.func16, Try.ntmps16
    go_wp2_with fail
    go_ret
    exact ⟨rfl, hx0⟩
  have hl2 : ((a.length : Int) != (b.length : Int)) = false := by simp; omega
  have hl3 : (a.length == b.length) = true := by simp [hl]
  rw [hl3, Bool.true_and]
  have HL := Lib.hid hl
  obtain ⟨RES, hres⟩ : ∃ r, ((List.range a.length).all fun i => sameE (a.getD i ent0) (b.getD i ent0)) = r := ⟨_, rfl⟩
  rw [hres]
  have HRES := Lib.hid hres
  clear hl3 hl hres
  go_enter Try.func16, Try.ntmps16
  go_wp2_with fail
  obtain ⟨W0, hW0⟩ : ∃ W0, W0 = ((w.alloc (.cells #[.slice p a.length c] 24)).alloc (.cells #[.slice p' b.length c'] 24)) := ⟨_, rfl⟩
  have a0' : W0.cell? ⟨w.heap.size, 0, none⟩ = some (.slice p a.length c) := by rw [hW0]; exact a0
  have b0' : W0.cell? ⟨w.heap.size + 1, 0, none⟩ = some (.slice p' b.length c') := by rw [hW0]; exact b0
  have hx0' : Ext w W0 := by rw [hW0]; exact hx0
  go_loopg [5] (a.length) (fun k s8 wr => ∃ j : Nat, s8 = .int .i64 j ∧ j ≤ a.length ∧ k = a.length - j ∧ Hid (∀ i, i < j → sameE (a.getD i ent0) (b.getD i ent0) = true) ∧ Ext W0 wr)
  case atStart => exact ⟨0, rfl, Nat.zero_le _, rfl, fun i hi => by omega, by rw [hW0]; exact Ext.refl _⟩
  case round =>
    clear a0 b0 hx0 hW0 hl2
    obtain ⟨j, rfl, hj, hk, HAL, hx⟩ := hrel
    obtain ⟨wo, hwo⟩ : ∃ wo, wo = wr := ⟨_, rfl⟩
    subst hwo
    have a1 := hx.cell a0'
    have b1 := hx.cell b0'
    by_cases hlt : j < a.length
    case pos =>
      have hi : (j : Int) < (a.length : Int) := by omega
      have hltb : j < b.length := by rw [← HL.out]; exact hlt
      have hib : (j : Int) < (b.length : Int) := by omega
      obtain ⟨q, o, qx, dx, rfl, ⟨m0, m1, m2⟩, hsx, hdx, hdx2⟩ := ent_at (h.ext (hx0'.trans hx)) hlt
      obtain ⟨q', o', qy, dy, rfl, ⟨n0, n1, n2⟩, hsy, hdy, hdy2⟩ := ent_at (h'.ext (hx0'.trans hx)) hltb
      have hga : a.getD j ent0 = a[j] := by simp [List.getD_eq_getElem?_getD, hlt]
      have hgb : b.getD j ent0 = b[j] := by simp [List.getD_eq_getElem?_getD, hltb]
      generalize a[j] = x at *
      generalize b[j] = y at *
      obtain ⟨x0, x1, lx⟩ := x
      obtain ⟨y0, y1, ly⟩ := y
      have HGA := Lib.hid hga
      have HGB := Lib.hid hgb
      simp only at m0 m1 m2 n0 n1 n2 hsx hsy hdx hdy
      unfold maxLen at hdx2 hdy2
      clear hga hgb
      obtain ⟨T, hT⟩ : ∃ T, sameE ⟨x0, x1, lx⟩ ⟨y0, y1, ly⟩ = T := ⟨_, rfl⟩
      have HT := Lib.hid hT
      clear hT
      go_wp2_with fail
      apply wp_region_dagF 14 (by kernel_rfl) (by kernel_rfl) (by kernel_rfl) (by decide)
      simp only [List.take_succ_cons, List.take_zero, List.drop_succ_cons, List.drop_zero]
      apply dagf_val rfl (by intro W hW H; go_simp <;> rfl)
      simp only [Act.put, List.setIfInBounds_toArray, List.set_cons_zero, List.set_cons_succ]
      apply dagf_val rfl (by intro W hW H; have q0 := hW.cell a1; go_simp <;> rfl)
      simp only [Act.put, List.setIfInBounds_toArray, List.set_cons_zero, List.set_cons_succ]
      apply dagf_val rfl (by intro W hW H; go_simp <;> rfl)
      simp only [Act.put, List.setIfInBounds_toArray, List.set_cons_zero, List.set_cons_succ]
      apply dagf_val rfl (by intro W hW H; go_simp <;> rfl)
      simp only [Act.put, List.setIfInBounds_toArray, List.set_cons_zero, List.set_cons_succ]
      apply dagf_val rfl (by intro W hW H; have q0 := hW.cell m0; have q1 := hW.cell m1; have q2 := hW.cell m2; go_simp <;> rfl)
      simp only [Act.put, List.setIfInBounds_toArray, List.set_cons_zero, List.set_cons_succ]
      apply dagf_val rfl (by intro W hW H; go_simp <;> rfl)
      simp only [Act.put, List.setIfInBounds_toArray, List.set_cons_zero, List.set_cons_succ]
      apply dagf_val rfl (by intro W hW H; have q0 := hW.cell b1; go_simp <;> rfl)
      simp only [Act.put, List.setIfInBounds_toArray, List.set_cons_zero, List.set_cons_succ]
      apply dagf_val rfl (by intro W hW H; go_simp <;> rfl)
      simp only [Act.put, List.setIfInBounds_toArray, List.set_cons_zero, List.set_cons_succ]
      apply dagf_val rfl (by intro W hW H; go_simp <;> rfl)
      simp only [Act.put, List.setIfInBounds_toArray, List.set_cons_zero, List.set_cons_succ]
      apply dagf_val rfl (by intro W hW H; have q0 := hW.cell n0; have q1 := hW.cell n1; have q2 := hW.cell n2; go_simp <;> rfl)
      simp only [Act.put, List.setIfInBounds_toArray, List.set_cons_zero, List.set_cons_succ]
      refine' dagf_row (fun v W => ∃ g, v = .pointer (some ⟨g, 0, none⟩) ∧ wo.heap.size ≤ g ∧ ObjAt W g 48 [.int .i64 0, .int .i64 0, .slice none 0 0]) (ObjAt.res _ _ _) rfl (fun W hW H => frow_alloc hW.size (by go_simp <;> rfl)) (fun u0 => _)
      rotate_left
      simp only [Act.put, List.setIfInBounds_toArray, List.set_cons_zero, List.set_cons_succ]
      refine' dagf_row (fun v W => ∃ g, v = .pointer (some ⟨g, 0, none⟩) ∧ wo.heap.size ≤ g ∧ ObjAt W g 48 [.int .i64 0, .int .i64 0, .slice none 0 0]) (ObjAt.res _ _ _) rfl (fun W hW H => frow_alloc hW.size (by go_simp <;> rfl)) (fun u1 => _)
      rotate_left
      simp only [Act.put, List.setIfInBounds_toArray, List.set_cons_zero, List.set_cons_succ]
      refine' dagf_upd 10 u0 _ (fun v W => ∃ g, v = .pointer (some ⟨g, 0, none⟩) ∧ wo.heap.size ≤ g ∧ ObjAt W g 48 [.int .i64 x0, .int .i64 x1, .slice qx lx.length dx]) (ObjAt.res _ _ _) (by kernel_rfl) (by repeat (first | exact List.mem_cons_self | refine mem_keep ?_ (by decide) | apply List.mem_cons_of_mem)) rfl (fun W hW H => fupd_store (cs := [.int .i64 0, .int .i64 0, .slice none 0 0]) (vs := [.int .i64 x0, .int .i64 x1, .slice qx lx.length dx]) rfl rfl rfl Go.Proofs.Ythiaaoiaabocfaa.T.rentSize rfl (fun u hu => by simp only [List.mem_cons, List.not_mem_nil, or_false] at hu; rcases hu with rfl | rfl | rfl <;> rfl) (H (10, u0, _) (by repeat (first | exact List.mem_cons_self | refine mem_keep ?_ (by decide) | apply List.mem_cons_of_mem)) (by kernel_rfl))) (fun z0 => _)
      rotate_left
      simp only [Act.put]
      refine' dagf_upd 11 u1 _ (fun v W => ∃ g, v = .pointer (some ⟨g, 0, none⟩) ∧ wo.heap.size ≤ g ∧ ObjAt W g 48 [.int .i64 y0, .int .i64 y1, .slice qy ly.length dy]) (ObjAt.res _ _ _) (by kernel_rfl) (by repeat (first | exact List.mem_cons_self | refine mem_keep ?_ (by decide) | apply List.mem_cons_of_mem)) rfl (fun W hW H => fupd_store (cs := [.int .i64 0, .int .i64 0, .slice none 0 0]) (vs := [.int .i64 y0, .int .i64 y1, .slice qy ly.length dy]) rfl rfl rfl Go.Proofs.Ythiaaoiaabocfaa.T.rentSize rfl (fun u hu => by simp only [List.mem_cons, List.not_mem_nil, or_false] at hu; rcases hu with rfl | rfl | rfl <;> rfl) (H (11, u1, _) (by repeat (first | exact List.mem_cons_self | refine mem_keep ?_ (by decide) | apply List.mem_cons_of_mem)) (by kernel_rfl))) (fun z1 => _)
      rotate_left
      simp only [Act.put]
      refine dagf_end fun W hW H HA => ?_
      obtain ⟨ga, ea, hga, oa⟩ : ∃ g, u0 = .pointer (some ⟨g, 0, none⟩) ∧ wo.heap.size ≤ g ∧ ObjAt W g 48 [.int .i64 x0, .int .i64 x1, .slice qx lx.length dx] := H (12, u0, _) (by repeat (first | exact List.mem_cons_self | refine mem_keep ?_ (by decide) | apply List.mem_cons_of_mem))
      obtain ⟨gb, eb, hgb, ob⟩ : ∃ g, u1 = .pointer (some ⟨g, 0, none⟩) ∧ wo.heap.size ≤ g ∧ ObjAt W g 48 [.int .i64 y0, .int .i64 y1, .slice qy ly.length dy] := H (13, u1, _) (by repeat (first | exact List.mem_cons_self | refine mem_keep ?_ (by decide) | apply List.mem_cons_of_mem))
      subst ea; subst eb
      clear H HA m0 m1 m2 n0 n1 n2 hga hgb
      have HWX : Hid (Ext wo W) := Lib.hid hW
      have ca0 := oa.cell (j := 0) rfl
      have ca1 := oa.cell (j := 1) rfl
      have ca2 := oa.cell (j := 2) rfl
      have cb0 := ob.cell (j := 0) rfl
      have cb1 := ob.cell (j := 1) rfl
      have cb2 := ob.cell (j := 2) rfl
      have hsx2 := hsx.ext hW
      have hsy2 := hsy.ext hW
      have hcase : (x0 != y0) = true ∨ (x0 = y0 ∧ (x1 != y1) = true) ∨ (x0 = y0 ∧ x1 = y1 ∧ ((lx.length : Int) != (ly.length : Int)) = true) ∨ (x0 = y0 ∧ x1 = y1 ∧ lx.length = ly.length) := by
        by_cases h0 : x0 = y0
        · by_cases h1 : x1 = y1
          · by_cases h2 : lx.length = ly.length
            · exact .inr (.inr (.inr ⟨h0, h1, h2⟩))
            · exact .inr (.inr (.inl ⟨h0, h1, by simp; omega⟩))
          · exact .inr (.inl ⟨h0, by simp [h1]⟩)
        · exact .inl (by simp [h0])
      rcases hcase with hc | ⟨rfl, hc⟩ | ⟨rfl, rfl, hc⟩ | ⟨rfl, rfl, hll⟩
      · skip
        go_wp2_with fail
        go_ret
        refine ⟨?_, hx0'.trans (hx.trans HWX.out)⟩
        have h1 : T = false := by rw [← HT.out]; unfold sameE; simp only; rw [show (x0 == y0) = false from by simpa using hc]; rfl
        rw [← HRES.out, all_found hlt (by rw [HGA.out, HGB.out, HT.out]; exact h1)]
        rfl
      · skip
        go_wp2_with fail
        go_ret
        refine ⟨?_, hx0'.trans (hx.trans HWX.out)⟩
        have h1 : T = false := by rw [← HT.out]; unfold sameE; simp only; rw [show (x1 == y1) = false from by simpa using hc, Bool.and_false]; rfl
        rw [← HRES.out, all_found hlt (by rw [HGA.out, HGB.out, HT.out]; exact h1)]
        rfl
      · skip
        go_wp2_with fail
        go_ret
        refine ⟨?_, hx0'.trans (hx.trans HWX.out)⟩
        have h1 : T = false := by rw [← HT.out]; unfold sameE; simp only; rw [show sameSs lx ly = false from by unfold sameSs; rw [show (lx.length == ly.length) = false from by simp at hc ⊢; omega]; rfl, Bool.and_false]
        rw [← HRES.out, all_found hlt (by rw [HGA.out, HGB.out, HT.out]; exact h1)]
        rfl
      · have hl4 : (lx.length : Int) = (ly.length : Int) := by omega
        skip
        have HLL := Lib.hid hll
        have HE : Hid (sameSs lx ly = T) := Lib.hid (by rw [← HT.out]; unfold sameE; simp only; simp)
        clear hll
        go_wp2_with fail
        clear ca0 ca1 cb0 cb1 hl4
        go_loopg [8] (lx.length) (fun k s8 wr => ∃ k' : Nat, s8 = .int .i64 k' ∧ k' ≤ lx.length ∧ k = lx.length - k' ∧ Hid (∀ i, i < k' → sameS (lx.getD i sn0) (ly.getD i sn0) = true) ∧ Ext W wr)
        case atStart => exact ⟨0, rfl, Nat.zero_le _, rfl, fun i hi => by omega, Ext.refl _⟩
        case round =>
          obtain ⟨k, rfl, hk1, hk2, HB, hxi⟩ := hrel
          obtain ⟨wi, hwi⟩ : ∃ wi, wi = wr := ⟨_, rfl⟩
          subst hwi
          have d2' := hxi.cell ca2
          have e2' := hxi.cell cb2
          by_cases hlt2 : k < lx.length
          case pos =>
            have hi2 : (k : Int) < (lx.length : Int) := by omega
            have hlt3 : k < ly.length := by rw [← HLL.out]; exact hlt2
            have hi3 : (k : Int) < (ly.length : Int) := by omega
            obtain ⟨bx, ox, rfl, ⟨r0, r1, r2⟩⟩ := sn_at (hsx2.ext hxi) hlt2
            obtain ⟨by', oy, rfl, ⟨t0, t1, t2⟩⟩ := sn_at (hsy2.ext hxi) hlt3
            have hgx : lx.getD k sn0 = lx[k] := by simp [List.getD_eq_getElem?_getD, hlt2]
            have hgy : ly.getD k sn0 = ly[k] := by simp [List.getD_eq_getElem?_getD, hlt3]
            generalize lx[k] = sx at *
            generalize ly[k] = sy at *
            obtain ⟨f0, f1, f2⟩ := sx
            obtain ⟨g0, g1, g2⟩ := sy
            simp only at r0 r1 r2 t0 t1 t2
            have HGX := Lib.hid hgx
            have HGY := Lib.hid hgy
            clear hgx hgy hsx2 hsy2
            go_wp2_with fail
            apply wp_region_dag (X := Ext) (by kernel_rfl) (by kernel_rfl) (fun _ _ _ => Ext.trans) (Ext.drew1 _)
            apply dag_val Ext.refl rfl (by intro W hW H; go_simp <;> rfl)
            simp only [Act.put, List.setIfInBounds_toArray, List.set_cons_zero, List.set_cons_succ]
            apply dag_val Ext.refl rfl (by intro W hW H; have q0 := hW.cell d2'; go_simp <;> rfl)
            simp only [Act.put, List.setIfInBounds_toArray, List.set_cons_zero, List.set_cons_succ]
            apply dag_val Ext.refl rfl (by intro W hW H; go_simp <;> rfl)
            simp only [Act.put, List.setIfInBounds_toArray, List.set_cons_zero, List.set_cons_succ]
            apply dag_val Ext.refl rfl (by intro W hW H; go_simp <;> rfl)
            simp only [Act.put, List.setIfInBounds_toArray, List.set_cons_zero, List.set_cons_succ]
            apply dag_val Ext.refl rfl (by intro W hW H; have q0 := hW.cell r0; have q1 := hW.cell r1; have q2 := hW.cell r2; go_simp <;> rfl)
            simp only [Act.put, List.setIfInBounds_toArray, List.set_cons_zero, List.set_cons_succ]
            apply dag_val Ext.refl rfl (by intro W hW H; go_simp <;> rfl)
            simp only [Act.put, List.setIfInBounds_toArray, List.set_cons_zero, List.set_cons_succ]
            apply dag_val Ext.refl rfl (by intro W hW H; have q0 := hW.cell e2'; go_simp <;> rfl)
            simp only [Act.put, List.setIfInBounds_toArray, List.set_cons_zero, List.set_cons_succ]
            apply dag_val Ext.refl rfl (by intro W hW H; go_simp <;> rfl)
            simp only [Act.put, List.setIfInBounds_toArray, List.set_cons_zero, List.set_cons_succ]
            apply dag_val Ext.refl rfl (by intro W hW H; go_simp <;> rfl)
            simp only [Act.put, List.setIfInBounds_toArray, List.set_cons_zero, List.set_cons_succ]
            apply dag_val Ext.refl rfl (by intro W hW H; have q0 := hW.cell t0; have q1 := hW.cell t1; have q2 := hW.cell t2; go_simp <;> rfl)
            simp only [Act.put, List.setIfInBounds_toArray, List.set_cons_zero, List.set_cons_succ]
            refine' dag_val Ext.refl rfl (fun W hW H => run_rneqSn rfl rfl rfl W) _
            rotate_left
            simp only [Act.put, List.setIfInBounds_toArray, List.set_cons_zero, List.set_cons_succ]
            refine dag_end fun W3 hW3 H => ?_
            clear H
            cases hS : sameS ⟨f0, f1, f2⟩ ⟨g0, g1, g2⟩ with
            | true =>
              have HS := Lib.hid hS
              clear hS
              go_wp2_with fail
              go_roundg (lx.length - (k + 1))
              case measure => omega
              case rel =>
                refine ⟨k + 1, by go_num, hlt2, rfl, fun i hi2 => ?_, hxi.trans hW3⟩
                by_cases hij : i = k
                · subst hij
                  rw [HGX.out, HGY.out]
                  exact HS.out
                · exact HB.out i (by omega)
            | false =>
              have HS := Lib.hid hS
              clear hS
              go_wp2_with fail
              go_ret
              refine ⟨?_, hx0'.trans (hx.trans (HWX.out.trans (hxi.trans hW3)))⟩
              have hq : (lx.length == ly.length) = true := by simp [HLL.out]
              have h1 : T = false := by
                rw [← HE.out]
                unfold sameSs
                rw [hq, Bool.true_and]
                exact all_found hlt2 (by rw [HGX.out, HGY.out]; exact HS.out)
              rw [← HRES.out, all_found hlt (by rw [HGA.out, HGB.out, HT.out]; exact h1)]
              rfl
          case neg =>
            have hke : k = lx.length := by omega
            subst hke
            have hi2 : ¬ (lx.length : Int) < (lx.length : Int) := by omega
            have hq : (lx.length == ly.length) = true := by simp [HLL.out]
            have HTT : Hid (T = true) := Lib.hid (by
              rw [← HE.out]
              unfold sameSs
              rw [hq, Bool.true_and]
              exact all_none HB.out)
            clear hlt2 hq
            go_wp2_with fail
            go_roundg (a.length - (j + 1))
            case measure => omega
            case rel =>
              refine ⟨j + 1, by go_num, hlt, rfl, fun i hi2 => ?_, hx.trans (HWX.out.trans hxi)⟩
              by_cases hij : i = j
              · subst hij
                rw [HGA.out, HGB.out, HT.out]
                exact HTT.out
              · exact HAL.out i (by omega)
    case neg =>
      have hje : j = a.length := by omega
      subst hje
      have hi : ¬ (a.length : Int) < (a.length : Int) := by omega
      clear hlt
      go_wp2_with fail
      go_ret
      refine ⟨?_, hx0'.trans hx⟩
      rw [← HRES.out, all_none HAL.out]
      rfl
end Go.Proofs.Ythiaaoiaabocfaa
