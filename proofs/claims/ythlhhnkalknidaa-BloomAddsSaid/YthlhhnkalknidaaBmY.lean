/- What the document's functions of layer 33 compute: Has, Add. (Begun.) -/
import Derived.Test.YthlhhnkalknidaaBmV
import Derived.Test.YthlhhnkalknidaaBmX
import Derived.Test.YthlhhnkalknidaaBmH
namespace Go.Proofs.Ythlhhnkalknidaa
open Go.RowKit

theorem all_at {ps : List Nat} {f : Nat → Bool} {j : Nat} (hj : j < ps.length) (h : f ps[j] = false) : ps.all f = false := by
  rw [List.all_eq_false]
  exact ⟨ps[j], List.getElem_mem hj, by rw [h]; simp⟩
set_option maxHeartbeats 2000000 in
theorem rhas_any (v : Value) (l : List UInt8) (each n : Int) (key : List UInt8) (w : World) (h : BV w v l) (hk : key.length ≤ maxLen) (hl : l.length ≤ 100000) :
    Calls Try.prog 16 #[stv v each n, .string ⟨key.toArray⟩] w fun e w' => e = .returned (.bool (hasB ⟨l, each, n⟩ key)) ∧ Ext w w' := by
  obtain ⟨p, c, rfl, hn, hc, hs⟩ := id h
  have hx0 := Ext.alloc w (.cells #[Value.slice p l.length c, .int .i64 each, .int .i64 n] 24)
  have ho0 : ObjAt (w.alloc (.cells #[Value.slice p l.length c, .int .i64 each, .int .i64 n] 24)) w.heap.size 24 [.slice p l.length c, .int .i64 each, .int .i64 n] := heap_alloc_new w _
  have P1 := rplaces_any _ l each n key _ (h.ext hx0) hk
  have hlt := placesB_lt ⟨l, each, n⟩ key
  have hfew := places_few ⟨l, each, n⟩ key
  obtain ⟨B, HB⟩ : ∃ B, Hid (hasB ⟨l, each, n⟩ key = B) := ⟨_, rfl⟩
  rw [HB.out]
  have HBD : Hid (hasB ⟨l, each, n⟩ key = (decide (0 < (placesB ⟨l, each, n⟩ key).length) && (placesB ⟨l, each, n⟩ key).all (bitAt l))) := rfl
  simp only at hlt
  generalize placesB ⟨l, each, n⟩ key = ps at *
  have hnl : (ni ps).length = ps.length := ni_length ps
  have HNL := Lib.hid hnl
  have HLT := Lib.hid hlt
  clear hnl hlt
  go_enter Try.func16, Try.ntmps16
  go_wp2_with (go_at_call 11; refine P1.mono ?_; rintro e w1 ⟨v1, rfl, hr1, hx1⟩
               obtain ⟨p1, c1, e5, _, hc5⟩ := (IO.view hr1).slice
               rw [HNL.out] at e5
               subst e5)
  have hr := IO.view hr1
  have hxa := hx0.trans hx1
  have ho1 := ho0.ext hx1
  unfold maxLen at hc5
  clear P1 hr1
  go_loopg [6] (ps.length) (fun k s6 wr => ∃ j : Nat, s6 = .int .i64 j ∧ j ≤ ps.length ∧ k = ps.length - j ∧ Hid (∀ t, t < j → ∀ q, ps[t]? = some q → bitAt l q = true) ∧ Ext w1 wr)
  case atStart => exact ⟨0, rfl, Nat.zero_le _, rfl, fun t ht => by omega, Ext.refl _⟩
  case round =>
    obtain ⟨j, rfl, hj, hk2, HA, hx⟩ := hrel
    obtain ⟨m0, m1, m2⟩ := (ho1.ext hx).cells3
    by_cases hjl : j < ps.length
    case pos =>
      have hi : (j : Int) < (ps.length : Int) := by omega
      obtain ⟨b3, o3, e9, hcell⟩ := int_at (hr.ext hx) (j := j) (by rw [HNL.out]; exact hjl)
      subst e9
      rw [ni_get] at hcell
      have hget : ps[j]? = some ps[j] := List.getElem?_eq_getElem hjl
      have HGET := Lib.hid hget
      have hall := fun hf : bitAt l ps[j] = false => all_at (f := bitAt l) hjl hf
      have B1 := fun W hW => rbit_any (.slice p l.length c) l each n ps[j] W hW (HLT.out _ (List.getElem_mem hjl)) hl
      have hbw := ((h.ext hxa).ext hx)
      generalize ps[j] = q at *
      cases hbit : bitAt l q with
      | true =>
        rw [hbit] at B1
        have HBT := Lib.hid hbit
        clear hbit hall hget
        go_wp2_with fail
        apply wp_region_dag (X := Ext) (by kernel_rfl) (by kernel_rfl) (fun _ _ _ => Ext.trans) (Ext.drew1 _)
        apply dag_val Ext.refl rfl (by intro W hW H; have q0 := hW.cell m0; have q1 := hW.cell m1; have q2 := hW.cell m2; go_simp <;> rfl)
        simp only [Act.put, List.setIfInBounds_toArray, List.set_cons_zero, List.set_cons_succ]
        apply dag_val Ext.refl rfl (by intro W hW H; go_simp <;> rfl)
        simp only [Act.put, List.setIfInBounds_toArray, List.set_cons_zero, List.set_cons_succ]
        apply dag_val Ext.refl rfl (by intro W hW H; go_simp <;> rfl)
        simp only [Act.put, List.setIfInBounds_toArray, List.set_cons_zero, List.set_cons_succ]
        apply dag_val Ext.refl rfl (by intro W hW H; go_simp <;> rfl)
        simp only [Act.put, List.setIfInBounds_toArray, List.set_cons_zero, List.set_cons_succ]
        apply dag_val Ext.refl rfl (by intro W hW H; have q0 := hW.cell hcell; go_simp <;> rfl)
        simp only [Act.put, List.setIfInBounds_toArray, List.set_cons_zero, List.set_cons_succ]
        refine' dag_call (c := .bool true) (f := 33) (args := #[stv (.slice p l.length c) each n, .int .i64 (q : Int)]) rfl (by intro W; go_simp <;> rfl) (fun W hW H => B1 W (hbw.ext hW)) _
        rotate_left
        simp only [Act.put, List.setIfInBounds_toArray, List.set_cons_zero, List.set_cons_succ]
        apply dag_val Ext.refl rfl (by intro W hW H; go_simp <;> rfl)
        simp only [Act.put, List.setIfInBounds_toArray, List.set_cons_zero, List.set_cons_succ]
        refine dag_end fun W hW H => ?_
        go_wp2_with fail
        go_roundg (ps.length - (j + 1))
        case measure => omega
        case rel =>
          refine ⟨j + 1, by go_num, hjl, rfl, fun t ht q' hq' => ?_, hx.trans hW⟩
          by_cases htj : t = j
          · subst htj
            have := HGET.out
            rw [hq'] at this
            cases this
            exact HBT.out
          · exact HA.out t (by omega) q' hq'
      | false =>
        rw [hbit] at B1
        have hallf := hall hbit
        have hB : B = false := by rw [← HB.out, HBD.out, hallf, Bool.and_false]
        subst hB
        clear hbit hall hget hallf
        go_wp2_with fail
        apply wp_region_dag (X := Ext) (by kernel_rfl) (by kernel_rfl) (fun _ _ _ => Ext.trans) (Ext.drew1 _)
        apply dag_val Ext.refl rfl (by intro W hW H; have q0 := hW.cell m0; have q1 := hW.cell m1; have q2 := hW.cell m2; go_simp <;> rfl)
        simp only [Act.put, List.setIfInBounds_toArray, List.set_cons_zero, List.set_cons_succ]
        apply dag_val Ext.refl rfl (by intro W hW H; go_simp <;> rfl)
        simp only [Act.put, List.setIfInBounds_toArray, List.set_cons_zero, List.set_cons_succ]
        apply dag_val Ext.refl rfl (by intro W hW H; go_simp <;> rfl)
        simp only [Act.put, List.setIfInBounds_toArray, List.set_cons_zero, List.set_cons_succ]
        apply dag_val Ext.refl rfl (by intro W hW H; go_simp <;> rfl)
        simp only [Act.put, List.setIfInBounds_toArray, List.set_cons_zero, List.set_cons_succ]
        apply dag_val Ext.refl rfl (by intro W hW H; have q0 := hW.cell hcell; go_simp <;> rfl)
        simp only [Act.put, List.setIfInBounds_toArray, List.set_cons_zero, List.set_cons_succ]
        refine' dag_call (c := .bool false) (f := 33) (args := #[stv (.slice p l.length c) each n, .int .i64 (q : Int)]) rfl (by intro W; go_simp <;> rfl) (fun W hW H => B1 W (hbw.ext hW)) _
        rotate_left
        simp only [Act.put, List.setIfInBounds_toArray, List.set_cons_zero, List.set_cons_succ]
        apply dag_val Ext.refl rfl (by intro W hW H; go_simp <;> rfl)
        simp only [Act.put, List.setIfInBounds_toArray, List.set_cons_zero, List.set_cons_succ]
        refine dag_end fun W hW H => ?_
        go_wp2_with fail
        go_ret
        exact ⟨rfl, (hxa.trans hx).trans hW⟩
    case neg =>
      obtain rfl : j = ps.length := by omega
      have hall : ps.all (bitAt l) = true := by
        rw [List.all_eq_true]
        intro q hq
        obtain ⟨t, ht, e⟩ := List.getElem_of_mem hq
        exact HA.out t ht q (by rw [List.getElem?_eq_getElem ht, e])
      by_cases h0 : 0 < ps.length
      · have h00 : (0 : Int) < (ps.length : Int) := by omega
        have hB : B = decide (0 < ps.length) := by rw [← HB.out, HBD.out, hall, Bool.and_true]
        subst hB
        clear h0 hall
        go_wp2_with fail
        go_ret
        exact ⟨rfl, hxa.trans hx⟩
      · have h00 : ¬ (0 : Int) < (ps.length : Int) := by omega
        have hB : B = decide (0 < ps.length) := by rw [← HB.out, HBD.out, hall, Bool.and_true]
        subst hB
        clear h0 hall
        go_wp2_with fail
        go_ret
        exact ⟨rfl, hxa.trans hx⟩

set_option maxHeartbeats 8000000 in
theorem radd_any (v : Value) (l : List UInt8) (each n : Int) (key : List UInt8) (w : World) (h : BV w v l) (hk : key.length ≤ maxLen) (hl0 : l.length ≤ 100000) :
    Calls Try.prog 14 #[stv v each n, .string ⟨key.toArray⟩] w fun e w' => ∃ v', e = .returned (stv v' (addB ⟨l, each, n⟩ key).each (addB ⟨l, each, n⟩ key).n) ∧ BV w' v' (addB ⟨l, each, n⟩ key).bits ∧ Ext w w' := by
  obtain ⟨p, c, rfl, hn, hc, hs⟩ := id h
  have oa : ObjAt ((w.alloc (.cells #[Value.slice p l.length c, .int .i64 each, .int .i64 n] 24)).alloc (.cells #[Value.slice none 0 0, .int .i64 0, .int .i64 0] 24)) w.heap.size 24 [.slice p l.length c, .int .i64 each, .int .i64 n] := heap_alloc2_old w _ _
  have ob : ObjAt ((w.alloc (.cells #[Value.slice p l.length c, .int .i64 each, .int .i64 n] 24)).alloc (.cells #[Value.slice none 0 0, .int .i64 0, .int .i64 0] 24)) (w.heap.size + 1) 24 [.slice none 0 0, .int .i64 0, .int .i64 0] := heap_alloc2_new w _ _
  have hx0 := (Ext.alloc w (.cells #[Value.slice p l.length c, .int .i64 each, .int .i64 n] 24)).trans (Ext.alloc _ (.cells #[Value.slice none 0 0, .int .i64 0, .int .i64 0] 24))
  have C1 := rcheck_any (.slice p l.length c) l each n _ (h.ext hx0)
  by_cases hg : goodB ⟨l, each, n⟩
  case neg =>
    have e1 : addB ⟨l, each, n⟩ key = ⟨l, each, n⟩ := by unfold addB; rw [if_neg hg]
    rw [e1]
    rw [checkB_bad hg] at C1
    clear hg e1
    go_enter Try.func14, Try.ntmps14
    go_wp2_with (go_at_call 18; refine C1.mono ?_; rintro e w1 ⟨rfl, hx1⟩
                 obtain ⟨m0, m1, m2⟩ := (oa.ext hx1).cells3
                 obtain ⟨⟨hg0, hk0, hg1, hk1, hg2, hk2⟩, ho6⟩ := (ob.ext hx1).stored3 (.slice p l.length c) (.int .i64 each) (.int .i64 n))
    refine bodyPost_ret (rst_results rfl _ _ (w.heap.size + 1) _ _ _ rfl ho6) rfl ?_
    have hxf := (hx0.trans hx1).set3 (g := w.heap.size + 1) (by omega) (.slice p l.length c) (.int .i64 each) (.int .i64 n)
    exact ⟨_, rfl, h.ext hxf, hxf⟩
  rw [checkB_ok hg] at C1
  have hgl := hg
  unfold goodB at hgl
  simp only at hgl
  obtain ⟨g1, g2, g3, g4, g5, g6⟩ := hgl
  have e1 : addB ⟨l, each, n⟩ key = ⟨setBits l (placesB ⟨l, each, n⟩ key), each, min (n + 1) 1099511627776⟩ := by unfold addB; rw [if_pos hg]
  rw [e1]
  have P1 := fun w h => rplaces_any (.slice p l.length c) l each n key w h hk
  have hlt := placesB_lt ⟨l, each, n⟩ key
  have hfew := places_few ⟨l, each, n⟩ key
  simp only at hlt
  generalize placesB ⟨l, each, n⟩ key = ps at *
  obtain ⟨M, hM⟩ : ∃ M, min (n + 1) 1099511627776 = M := ⟨_, rfl⟩
  rw [hM]
  have HM := Lib.hid hM
  have HLT := Lib.hid hlt
  have hws : IntKind.i64.wrap (n + 1) = n + 1 := by rw [IntKind.wrap_i64]; omega
  clear hg e1 hM hlt
  go_enter Try.func14, Try.ntmps14
  go_wp2_with (go_at_call 18; refine C1.mono ?_; rintro e w1 ⟨rfl, hx1⟩
               obtain ⟨m0, m1, m2⟩ := (oa.ext hx1).cells3)
  have hxb := hx0.trans hx1
  have ha2 := h.ext hxb
  have oa2 := oa.ext hx1
  have ob2 := ob.ext hx1
  clear C1
  apply wp_region_dagF 12 (by kernel_rfl) (by kernel_rfl) (by kernel_rfl) (by decide)
  simp only [List.take_succ_cons, List.take_zero, List.drop_succ_cons, List.drop_zero]
  refine' dagf_row (fun v W => FB W w1.heap.size v []) (FB.res _ _) rfl (fun W hW H => ⟨.slice (some ⟨W.heap.size, 0, none⟩) 0 0, W.alloc (.cells #[] 5), (by go_simp <;> rfl), Ext.alloc _ _, FB.lit0 W hW.size, fun k e => by have e' : W.heap.size = k := Option.some.inj e; omega⟩) (fun v0 => _)
  rotate_left
  simp only [Act.put, List.setIfInBounds_toArray, List.set_cons_zero, List.set_cons_succ]
  apply dagf_val rfl (by intro W hW H; go_simp <;> rfl)
  simp only [Act.put, List.setIfInBounds_toArray, List.set_cons_zero, List.set_cons_succ]
  apply dagf_val rfl (by intro W hW H; have q0 := hW.cell m0; go_simp <;> rfl)
  simp only [Act.put, List.setIfInBounds_toArray, List.set_cons_zero, List.set_cons_succ]
  refine' dagf_app 0 v0 _ (fun v W => FB W w1.heap.size v l) (FB.res _ _) (by kernel_rfl) (by repeat (first | exact List.mem_cons_self | refine mem_keep ?_ (by decide) | apply List.mem_cons_of_mem)) rfl (fun W hW H => fapp_bytes (vx := v0) (vy := .slice p l.length c) (l := []) (m := l) T.bytes rfl rfl rfl (H (0, v0, _) (by repeat (first | exact List.mem_cons_self | refine mem_keep ?_ (by decide) | apply List.mem_cons_of_mem)) (by kernel_rfl)) (ha2.ext hW) (by simp; omega) hW.size) (fun v3 => _)
  rotate_left
  simp only [Act.put, List.setIfInBounds_toArray, List.set_cons_zero, List.set_cons_succ]
  apply dagf_val rfl (by intro W hW H; go_simp <;> rfl)
  simp only [Act.put, List.setIfInBounds_toArray, List.set_cons_zero, List.set_cons_succ]
  apply dagf_val rfl (by intro W hW H; have q0 := hW.cell m1; go_simp <;> rfl)
  simp only [Act.put, List.setIfInBounds_toArray, List.set_cons_zero, List.set_cons_succ]
  apply dagf_val rfl (by intro W hW H; go_simp <;> rfl)
  simp only [Act.put, List.setIfInBounds_toArray, List.set_cons_zero, List.set_cons_succ]
  apply dagf_val rfl (by intro W hW H; have q0 := hW.cell m2; go_simp <;> rfl)
  simp only [Act.put, List.setIfInBounds_toArray, List.set_cons_zero, List.set_cons_succ]
  apply dagf_val rfl (by intro W hW H; go_simp <;> rfl)
  simp only [Act.put, List.setIfInBounds_toArray, List.set_cons_zero, List.set_cons_succ]
  refine' dagf_val rfl (fun W hW H => run_min rfl rfl rfl W) _
  rotate_left
  simp only [Act.put, List.setIfInBounds_toArray, List.set_cons_zero, List.set_cons_succ]
  refine' dagf_app 3 v3 _ (fun v W => ∃ p c, v = .agg (.slice p l.length c :: [.int .i64 each, .int .i64 (min (n + 1) 1099511627776)]).toArray ∧ FB W w1.heap.size (.slice p l.length c) l) (FB.resAgg _ _ _) (by kernel_rfl) (by repeat (first | exact List.mem_cons_self | refine mem_keep ?_ (by decide) | apply List.mem_cons_of_mem)) rfl (fun W hW H => fapp_build (H (3, v3, _) (by repeat (first | exact List.mem_cons_self | refine mem_keep ?_ (by decide) | apply List.mem_cons_of_mem)) (by kernel_rfl)) (by rintro p c rfl; go_simp <;> rfl)) (fun v10 => _)
  rotate_left
  simp only [Act.put, List.setIfInBounds_toArray, List.set_cons_zero, List.set_cons_succ]
  refine' dagf_row (fun v W => ∃ g, v = .pointer (some ⟨g, 0, none⟩) ∧ w1.heap.size ≤ g ∧ ObjAt W g 24 [.slice none 0 0, .int .i64 0, .int .i64 0]) (ObjAt.res _ _ _) rfl (fun W hW H => frow_alloc hW.size (by go_simp <;> rfl)) (fun v11 => _)
  rotate_left
  simp only [Act.put, List.setIfInBounds_toArray, List.set_cons_zero, List.set_cons_succ]
  refine dagf_end fun W hW H HA => ?_
  obtain ⟨g, e5, hgg, og⟩ : ∃ g, v11 = .pointer (some ⟨g, 0, none⟩) ∧ w1.heap.size ≤ g ∧ ObjAt W g 24 [.slice none 0 0, .int .i64 0, .int .i64 0] := H (11, v11, _) (by repeat (first | exact List.mem_cons_self | refine mem_keep ?_ (by decide) | apply List.mem_cons_of_mem))
  obtain ⟨p3, c3, e6, hf⟩ : ∃ p c, v10 = .agg (.slice p l.length c :: [.int .i64 each, .int .i64 (min (n + 1) 1099511627776)]).toArray ∧ FB W w1.heap.size (.slice p l.length c) l := H (10, v10, _) (by repeat (first | exact List.mem_cons_self | refine mem_keep ?_ (by decide) | apply List.mem_cons_of_mem))
  rw [HM.out] at e6
  have hap : ∀ k, (Value.slice p3 l.length c3).ownBlock = some k → k ≠ g := fun k hk e => HA (10, v10, _) (by repeat (first | exact List.mem_cons_self | refine mem_keep ?_ (by decide) | apply List.mem_cons_of_mem)) (11, v11, _) (by repeat (first | exact List.mem_cons_self | refine mem_keep ?_ (by decide) | apply List.mem_cons_of_mem)) (by show (10 : Nat) ≠ 11; decide) k (by rw [e6]; show ownOf (.agg (.slice p3 l.length c3 :: [.int .i64 each, .int .i64 M]).toArray) = _; rw [ownOf_agg]; exact hk) (by rw [e5, e]; rfl)
  subst e5
  subst e6
  clear H HA
  obtain ⟨b3, c4, e7, _, _, hb3, hb3l⟩ := hf.head (by intro e; rw [e] at g1; simp at g1)
  cases e7
  have hng : b3 ≠ g := hap b3 rfl
  have hlt1 := oa2.lt
  have hlt2 := ob2.lt
  have oa3 := (oa2.ext hW).far3 (g' := g) (by omega) (.slice (some ⟨b3, 0, none⟩) l.length c3) (.int .i64 each) (.int .i64 M)
  have ob3 := (ob2.ext hW).far3 (g' := g) (by omega) (.slice (some ⟨b3, 0, none⟩) l.length c3) (.int .i64 each) (.int .i64 M)
  obtain ⟨⟨c0, f0, c1, f1, c2, f2⟩, og3⟩ := og.stored3 (.slice (some ⟨b3, 0, none⟩) l.length c3) (.int .i64 each) (.int .i64 M)
  have hf3 := hf.far3 (g := g) (fun e => hng (Option.some.inj e)) (.slice (some ⟨b3, 0, none⟩) l.length c3) (.int .i64 each) (.int .i64 M)
  have hsx := hxb.size
  have hxW := (hxb.trans hW).set3 (g := g) (by omega) (.slice (some ⟨b3, 0, none⟩) l.length c3) (.int .i64 each) (.int .i64 M)
  have hb3w : w.heap.size ≤ b3 := by omega
  have n1 : w.heap.size + 1 ≠ b3 := by omega
  have n3 : w.heap.size + 1 ≠ g := by omega
  have N1 := Lib.hid n1
  have N3 := Lib.hid n3
  have NG := Lib.hid hng
  have NB := Lib.hid hb3w
  have NF := Lib.hid hf3.block.2.1
  obtain ⟨ma0, ma1, ma2⟩ := oa3.cells3
  clear hlt1 hlt2 n1 n3 hng hb3w hsx hgg hap hb3 hb3l m0 m1 m2
  have hnl : (ni ps).length = ps.length := ni_length ps
  have HNL := Lib.hid hnl
  clear hnl
  go_wp2_with (go_at_call 11; refine (P1 _ (h.ext hxW)).mono ?_; rintro e w3 ⟨v3, rfl, hr3, hx4⟩
               obtain ⟨p5, c5, e6, hc31, hc32⟩ := (IO.view hr3).slice
               rw [HNL.out] at e6 hc31
               subst e6)
  have hfa := hf3.keep hx4
  have hga := og3.ext hx4
  have hoa := ob3.ext hx4
  have hxa := hxW.trans hx4
  clear c0 f0 c1 f1 c2 f2 ma0 ma1 ma2 P1
  unfold maxLen at hc32
  go_loopg [7] (ps.length) (fun k s7 wr => ∃ j : Nat, s7 = .int .i64 j ∧ j ≤ ps.length ∧ k = ps.length - j ∧ FB wr w1.heap.size (.slice (some ⟨b3, 0, none⟩) l.length c3) (setBits l (ps.take j)) ∧ ObjAt wr g 24 [.slice (some ⟨b3, 0, none⟩) l.length c3, .int .i64 each, .int .i64 M] ∧
    ObjAt wr (w.heap.size + 1) 24 [.slice none 0 0, .int .i64 0, .int .i64 0] ∧ IO wr _ (.slice p5 ps.length c5) (ni ps) ∧ Ext w wr)
  case atStart => exact ⟨0, rfl, Nat.zero_le _, rfl, hfa, hga, hoa, hr3, hxa⟩
  case round =>
    obtain ⟨j, rfl, hj, hk, hfj, hoG, hoC, hr, hx⟩ := hrel
    obtain ⟨m0, m1, m2⟩ := hoG.cells3
    by_cases hlt : j < ps.length
    case pos =>
      have hi : (j : Int) < (ps.length : Int) := by omega
      obtain ⟨b5, o5, e9, hcell⟩ := int_at (IO.view hr) (j := j) (by rw [HNL.out]; exact hlt)
      subst e9
      rw [ni_get] at hcell
      have hpl := HLT.out ps[j] (List.getElem_mem hlt)
      have HST := Lib.hid (setBits_step l ps hlt)
      generalize hL1 : setBits l (ps.take j) = L at *
      have hlen1 : L.length = l.length := by rw [← hL1, setBits_length]
      generalize hp : ps[j] = pj at *
      have hjL : pj < 8 * L.length := by omega
      have B2 := fun W h => rbit_any (.slice (some ⟨b3, 0, none⟩) l.length c3) L each M pj W h hjL (by omega)
      have hne3 : (Value.slice (some ⟨b5, o5, none⟩) ps.length c5).ownBlock = none ∨ (Value.slice (some ⟨b5, o5, none⟩) ps.length c5).ownBlock ≠ some b3 := .inr fun e => by have := ORow.own hr b3 e; have := NF.out; omega
      have HN3 := Lib.hid hne3
      clear hne3
      cases hxj : bitAt L pj with
      | true =>
        rw [hxj] at B2
        have hstay := setBit_stays L pj hxj
        have HSTAY := Lib.hid hstay
        clear hxj hstay hp hL1 hlen1
        go_wp2_with fail
        apply wp_region_dag (X := Ext) (by kernel_rfl) (by kernel_rfl) (fun _ _ _ => Ext.trans) (Ext.drew1 _)
        apply dag_val Ext.refl rfl (by intro W hW H; have q0 := hW.cell m0; have q1 := hW.cell m1; have q2 := hW.cell m2; go_simp <;> rfl)
        simp only [Act.put, List.setIfInBounds_toArray, List.set_cons_zero, List.set_cons_succ]
        apply dag_val Ext.refl rfl (by intro W hW H; go_simp <;> rfl)
        simp only [Act.put, List.setIfInBounds_toArray, List.set_cons_zero, List.set_cons_succ]
        apply dag_val Ext.refl rfl (by intro W hW H; go_simp <;> rfl)
        simp only [Act.put, List.setIfInBounds_toArray, List.set_cons_zero, List.set_cons_succ]
        apply dag_val Ext.refl rfl (by intro W hW H; go_simp <;> rfl)
        simp only [Act.put, List.setIfInBounds_toArray, List.set_cons_zero, List.set_cons_succ]
        apply dag_val Ext.refl rfl (by intro W hW H; have q0 := hW.cell hcell; go_simp <;> rfl)
        simp only [Act.put, List.setIfInBounds_toArray, List.set_cons_zero, List.set_cons_succ]
        refine' dag_call (c := .bool true) (f := 33) (args := #[stv (.slice (some ⟨b3, 0, none⟩) l.length c3) each M, .int .i64 (pj : Int)]) rfl (by intro W; go_simp <;> rfl) (fun W hW H => B2 W (hfj.view.ext hW)) _
        rotate_left
        simp only [Act.put, List.setIfInBounds_toArray, List.set_cons_zero, List.set_cons_succ]
        apply dag_val Ext.refl rfl (by intro W hW H; go_simp <;> rfl)
        simp only [Act.put, List.setIfInBounds_toArray, List.set_cons_zero, List.set_cons_succ]
        refine dag_end fun W7 hW7 H => ?_
        clear H
        go_wp2_with fail
        go_roundg (ps.length - (j + 1))
        case measure => omega
        case rel => exact ⟨j + 1, by go_num, hlt, rfl, by rw [HST.out, HSTAY.out]; exact hfj.keep hW7, hoG.ext hW7, hoC.ext hW7, ORow.keep hr hW7, hx.trans hW7⟩
      | false =>
        rw [hxj] at B2
        obtain ⟨a, ha8⟩ : ∃ a, pj / 8 = a := ⟨_, rfl⟩
        obtain ⟨r, hr8⟩ : ∃ r, pj % 8 = r := ⟨_, rfl⟩
        have hal : a < L.length := by omega
        obtain ⟨hset, hbit⟩ := set_bit L pj a r ha8 hr8 hal
        rw [hxj] at hbit
        have HO := Lib.hid (plus_bit L[a] r (by omega) hbit.symm)
        have HSET := Lib.hid hset
        have hd : (pj : Int) / 8 = (a : Int) := by omega
        have hm : (pj : Int) % 8 = (r : Int) := by omega
        have hia : (a : Int) < (l.length : Int) := by omega
        have hr88 : (r : Int) < 8 := by omega
        have hp0 : 0 ≤ (pj : Int) := by omega
        have hwa : IntKind.i64.wrap (a : Int) = (a : Int) := by rw [IntKind.wrap_i64]; omega
        have htm : (pj : Int).tmod 8 = (r : Int) := by rw [Int.tmod_eq_emod_of_nonneg hp0]; exact hm
        have hmn : min r 8 = r := by omega
        clear hxj hset hbit ha8 hr8 hp hL1 hlen1
        go_wp2_with fail
        apply wp_region_dag (X := Ext) (by kernel_rfl) (by kernel_rfl) (fun _ _ _ => Ext.trans) (Ext.drew1 _)
        apply dag_val Ext.refl rfl (by intro W hW H; have q0 := hW.cell m0; have q1 := hW.cell m1; have q2 := hW.cell m2; go_simp <;> rfl)
        simp only [Act.put, List.setIfInBounds_toArray, List.set_cons_zero, List.set_cons_succ]
        apply dag_val Ext.refl rfl (by intro W hW H; go_simp <;> rfl)
        simp only [Act.put, List.setIfInBounds_toArray, List.set_cons_zero, List.set_cons_succ]
        apply dag_val Ext.refl rfl (by intro W hW H; go_simp <;> rfl)
        simp only [Act.put, List.setIfInBounds_toArray, List.set_cons_zero, List.set_cons_succ]
        apply dag_val Ext.refl rfl (by intro W hW H; go_simp <;> rfl)
        simp only [Act.put, List.setIfInBounds_toArray, List.set_cons_zero, List.set_cons_succ]
        apply dag_val Ext.refl rfl (by intro W hW H; have q0 := hW.cell hcell; go_simp <;> rfl)
        simp only [Act.put, List.setIfInBounds_toArray, List.set_cons_zero, List.set_cons_succ]
        refine' dag_call (c := .bool false) (f := 33) (args := #[stv (.slice (some ⟨b3, 0, none⟩) l.length c3) each M, .int .i64 (pj : Int)]) rfl (by intro W; go_simp <;> rfl) (fun W hW H => B2 W (hfj.view.ext hW)) _
        rotate_left
        simp only [Act.put, List.setIfInBounds_toArray, List.set_cons_zero, List.set_cons_succ]
        apply dag_val Ext.refl rfl (by intro W hW H; go_simp <;> rfl)
        simp only [Act.put, List.setIfInBounds_toArray, List.set_cons_zero, List.set_cons_succ]
        refine dag_end fun W6 hW6 H => ?_
        clear H
        have hf6 := hfj.keep hW6
        have hcb := hf6.cell (j := a) hal
        obtain ⟨c0', c1', c2'⟩ := (hoG.ext hW6).cells3
        have hcell6 := hW6.cell hcell
        go_wp2_with fail
        apply wp_region_dag_tail 17 (X := Ext) (by kernel_rfl) (by kernel_rfl) (by kernel_rfl) (by decide) (fun _ _ _ => Ext.trans) (Ext.drew1 _)
        simp only [List.take_succ_cons, List.take_zero, List.drop_succ_cons, List.drop_zero]
        apply dag_val Ext.refl rfl (by intro W hW H; go_simp <;> rfl)
        simp only [Act.put, List.setIfInBounds_toArray, List.set_cons_zero, List.set_cons_succ]
        apply dag_val Ext.refl rfl (by intro W hW H; have hq := hW.cell c0'; go_simp <;> rfl)
        simp only [Act.put, List.setIfInBounds_toArray, List.set_cons_zero, List.set_cons_succ]
        apply dag_val Ext.refl rfl (by intro W hW H; go_simp <;> rfl)
        simp only [Act.put, List.setIfInBounds_toArray, List.set_cons_zero, List.set_cons_succ]
        apply dag_val Ext.refl rfl (by intro W hW H; go_simp <;> rfl)
        simp only [Act.put, List.setIfInBounds_toArray, List.set_cons_zero, List.set_cons_succ]
        apply dag_val Ext.refl rfl (by intro W hW H; go_simp <;> rfl)
        simp only [Act.put, List.setIfInBounds_toArray, List.set_cons_zero, List.set_cons_succ]
        apply dag_val Ext.refl rfl (by intro W hW H; have hq := hW.cell hcell6; go_simp <;> rfl)
        simp only [Act.put, List.setIfInBounds_toArray, List.set_cons_zero, List.set_cons_succ]
        apply dag_val Ext.refl rfl (by intro W hW H; go_simp <;> rfl)
        simp only [Act.put, List.setIfInBounds_toArray, List.set_cons_zero, List.set_cons_succ]
        apply dag_val Ext.refl rfl (by intro W hW H; go_simp <;> rfl)
        simp only [Act.put, List.setIfInBounds_toArray, List.set_cons_zero, List.set_cons_succ]
        apply dag_val Ext.refl rfl (by intro W hW H; have hq := hW.cell hcb; go_simp <;> rfl)
        simp only [Act.put, List.setIfInBounds_toArray, List.set_cons_zero, List.set_cons_succ]
        apply dag_val Ext.refl rfl (by intro W hW H; go_simp <;> rfl)
        simp only [Act.put, List.setIfInBounds_toArray, List.set_cons_zero, List.set_cons_succ]
        apply dag_val Ext.refl rfl (by intro W hW H; go_simp <;> rfl)
        simp only [Act.put, List.setIfInBounds_toArray, List.set_cons_zero, List.set_cons_succ]
        apply dag_val Ext.refl rfl (by intro W hW H; go_simp <;> rfl)
        simp only [Act.put, List.setIfInBounds_toArray, List.set_cons_zero, List.set_cons_succ]
        apply dag_val Ext.refl rfl (by intro W hW H; have hq := hW.cell hcell6; go_simp <;> rfl)
        simp only [Act.put, List.setIfInBounds_toArray, List.set_cons_zero, List.set_cons_succ]
        apply dag_val Ext.refl rfl (by intro W hW H; go_simp <;> rfl)
        simp only [Act.put, List.setIfInBounds_toArray, List.set_cons_zero, List.set_cons_succ]
        apply dag_val Ext.refl rfl (by intro W hW H; go_simp <;> rfl)
        simp only [Act.put, List.setIfInBounds_toArray, List.set_cons_zero, List.set_cons_succ]
        apply dag_val Ext.refl rfl (by intro W hW H; go_simp <;> rfl)
        simp only [Act.put, List.setIfInBounds_toArray, List.set_cons_zero, List.set_cons_succ]
        apply dag_val Ext.refl rfl (by intro W hW H; go_simp <;> rfl)
        simp only [Act.put, List.setIfInBounds_toArray, List.set_cons_zero, List.set_cons_succ]
        refine dag_end fun W7 hW7 H => ?_
        clear H
        have hfW := hf6.keep hW7
        have hcW := hfW.cell (j := a) hal
        have hzW := hfW.free a
        go_wp2_with fail
        have HO2 := HO.out
        rw [HO2]
        have hx7 := hW6.trans hW7
        go_roundg (ps.length - (j + 1))
        case measure => omega
        case rel =>
          refine ⟨j + 1, by go_num, hlt, rfl, ?_, (hoG.ext hx7).far (p := ⟨b3, a, none⟩) (Ne.symm NG.out) _, (hoC.ext hx7).far (p := ⟨b3, a, none⟩) N1.out _, (ORow.keep hr hx7).beside (grown_set _ ⟨b3, a, none⟩ _) HN3.out fun _ _ hh => hh.elim, (hx.trans hx7).store (p := ⟨b3, a, none⟩) NB.out _⟩
          rw [HST.out, HSET.out]
          exact hfW.store a _
    case neg =>
      obtain rfl : j = ps.length := by omega
      rw [List.take_length] at hfj
      obtain ⟨⟨d0, k0, d1, k1, d2, k2⟩, ho6⟩ := hoC.stored3 (.slice (some ⟨b3, 0, none⟩) l.length c3) (.int .i64 each) (.int .i64 M)
      go_wp2_with fail
      refine bodyPost_ret (rst_results rfl _ _ (w.heap.size + 1) _ _ _ rfl ho6) rfl ?_
      have hne : (Value.slice (some ⟨b3, 0, none⟩) l.length c3).ownBlock ≠ some (w.heap.size + 1) := fun e => N1.out (Option.some.inj e).symm
      exact ⟨_, rfl, (hfj.far3 hne _ _ _).view, hx.set3 (by omega) _ _ _⟩
end Go.Proofs.Ythlhhnkalknidaa
