/- What the document's functions of layer 33 compute: Join. -/
import Derived.Test.YthlhhnkalknidaaBmU
import Derived.Test.YthlhhnkalknidaaBmJ
import Derived.Test.YthlhhnkalknidaaDagF
namespace Go.Proofs.Ythlhhnkalknidaa
open Go.RowKit

theorem plus_bit (c : UInt8) (r : Nat) (hr : r < 8) (h : c.toNat.testBit r = false) : ((c.toNat : Int) + 2 ^ r) % 256 = ((c ||| pow8 r).toNat : Int) := by
  obtain ⟨h1, h2⟩ := or_plus c r hr h
  have h3 : (2 : Int) ^ r = ((2 ^ r : Nat) : Int) := by simp
  rw [h1, toNat_ofNat8, h3]
  omega
theorem set_bit (L : List UInt8) (p a r : Nat) (ha : p / 8 = a) (hr : p % 8 = r) (hal : a < L.length) : setBit L p = L.set a (L[a] ||| pow8 r) ∧ bitAt L p = L[a].toNat.testBit r := by
  unfold setBit bitAt
  rw [ha, hr]
  simp [List.getD_eq_getElem?_getD, hal]
set_option maxHeartbeats 8000000 in
theorem rjoin_any (va : Value) (la : List UInt8) (ea na : Int) (vb : Value) (lb : List UInt8) (eb nb : Int) (w : World) (ha : BV w va la) (hb : BV w vb lb) (hla : la.length ≤ 100000) (hlb : lb.length ≤ 100000) :
    Calls Try.prog 22 #[stv va ea na, stv vb eb nb] w fun e w' => ∃ v', e = .returned (.tuple #[stv v' (joinS ⟨la, ea, na⟩ ⟨lb, eb, nb⟩).1.each (joinS ⟨la, ea, na⟩ ⟨lb, eb, nb⟩).1.n, .int .i64 (joinS ⟨la, ea, na⟩ ⟨lb, eb, nb⟩).2]) ∧ BV w' v' (joinS ⟨la, ea, na⟩ ⟨lb, eb, nb⟩).1.bits ∧ Ext w w' := by
  obtain ⟨p, c, rfl, _, hc1, _⟩ := id ha
  obtain ⟨q, d, rfl, _, hd1, _⟩ := id hb
  obtain ⟨oa, ob, oc, hx0, hsz⟩ := objs3 w 24 24 24 [.slice p la.length c, .int .i64 ea, .int .i64 na] [.slice q lb.length d, .int .i64 eb, .int .i64 nb] [.slice none 0 0, .int .i64 0, .int .i64 0]
  have HSZ := Lib.hid hsz
  clear hsz
  have CA := fun w h => rcheck_any (.slice p la.length c) la ea na w h
  have CB := fun w h => rcheck_any (.slice q lb.length d) lb eb nb w h
  obtain ⟨J, hJ⟩ : ∃ J, joinS ⟨la, ea, na⟩ ⟨lb, eb, nb⟩ = J := ⟨_, rfl⟩
  rw [hJ]
  unfold joinS at hJ
  simp only at hJ
  by_cases ga : goodB ⟨la, ea, na⟩
  case neg =>
    rw [if_pos (.inl ga)] at hJ
    subst hJ
    rw [checkB_bad ga] at CA
    clear ga
    go_enter Try.func22, Try.ntmps22
    go_wp2_with (go_at_call 18; refine (CA _ (ha.ext hx0)).mono ?_; rintro e w1 ⟨rfl, hx1⟩
                 obtain ⟨⟨hg0, hk0, hg1, hk1, hg2, hk2⟩, ho6⟩ := (oc.ext hx1).stored3 (.slice none 0 0) (.int .i64 0) (.int .i64 0))
    refine bodyPost_ret (rst_results2 rfl _ _ (w.heap.size + 2) _ _ _ rfl ho6) rfl ?_
    exact ⟨_, rfl, BV.nil _, (hx0.trans hx1).set3 (by omega) _ _ _⟩
  rw [checkB_ok ga] at CA
  by_cases gb : goodB ⟨lb, eb, nb⟩
  case neg =>
    rw [if_pos (.inr gb)] at hJ
    subst hJ
    rw [checkB_bad gb] at CB
    clear ga gb
    go_enter Try.func22, Try.ntmps22
    go_wp2_with (first
      | (go_at_call 18; have hq := hx1; refine (CB _ (hb.ext (hx0.trans hx1))).mono ?_; rintro e w2 ⟨rfl, hx2⟩
         obtain ⟨⟨hg0, hk0, hg1, hk1, hg2, hk2⟩, ho6⟩ := ((oc.ext hx1).ext hx2).stored3 (.slice none 0 0) (.int .i64 0) (.int .i64 0))
      | (go_at_call 18; refine (CA _ (ha.ext hx0)).mono ?_; rintro e w1 ⟨rfl, hx1⟩
         obtain ⟨hd0, hd1, hd2⟩ := (ob.ext hx1).cells3))
    refine bodyPost_ret (rst_results2 rfl _ _ (w.heap.size + 2) _ _ _ rfl ho6) rfl ?_
    exact ⟨_, rfl, BV.nil _, ((hx0.trans hx1).trans hx2).set3 (by omega) _ _ _⟩
  rw [checkB_ok gb] at CB
  rw [if_neg (by simp [ga, gb])] at hJ
  unfold goodB at ga gb
  simp only at ga gb
  by_cases hne : la.length ≠ lb.length ∨ ea ≠ eb
  · rw [if_pos hne] at hJ
    subst hJ
    rcases (by omega : ((la.length : Int) ≠ (lb.length : Int)) ∨ ((la.length : Int) = (lb.length : Int) ∧ ea ≠ eb)) with k1 | ⟨k1, k2⟩
    · have hz : ((la.length : Int) != (lb.length : Int)) = true := by rw [bne_iff_ne]; exact k1
      clear hne k1
      go_enter Try.func22, Try.ntmps22
      go_wp2_with (first
        | (go_at_call 18; have hq := hx1; refine (CB _ (hb.ext (hx0.trans hx1))).mono ?_; rintro e w2 ⟨rfl, hx2⟩
           obtain ⟨he0, he1, he2⟩ := ((oa.ext hx1).ext hx2).cells3
           obtain ⟨hf0, hf1, hf2⟩ := ((ob.ext hx1).ext hx2).cells3
           obtain ⟨⟨hg0, hk0, hg1, hk1, hg2, hk2⟩, ho6⟩ := ((oc.ext hx1).ext hx2).stored3 (.slice none 0 0) (.int .i64 0) (.int .i64 0))
        | (go_at_call 18; refine (CA _ (ha.ext hx0)).mono ?_; rintro e w1 ⟨rfl, hx1⟩
           obtain ⟨hd0, hd1, hd2⟩ := (ob.ext hx1).cells3))
      refine bodyPost_ret (rst_results2 rfl _ _ (w.heap.size + 2) _ _ _ rfl ho6) rfl ?_
      exact ⟨_, rfl, BV.nil _, ((hx0.trans hx1).trans hx2).set3 (by omega) _ _ _⟩
    · have hz : ((la.length : Int) != (lb.length : Int)) = false := by rw [k1]; simp
      have hz2 : (ea != eb) = true := by rw [bne_iff_ne]; exact k2
      clear hne k1 k2
      go_enter Try.func22, Try.ntmps22
      go_wp2_with (first
        | (go_at_call 18; have hq := hx1; refine (CB _ (hb.ext (hx0.trans hx1))).mono ?_; rintro e w2 ⟨rfl, hx2⟩
           obtain ⟨he0, he1, he2⟩ := ((oa.ext hx1).ext hx2).cells3
           obtain ⟨hf0, hf1, hf2⟩ := ((ob.ext hx1).ext hx2).cells3
           obtain ⟨⟨hg0, hk0, hg1, hk1, hg2, hk2⟩, ho6⟩ := ((oc.ext hx1).ext hx2).stored3 (.slice none 0 0) (.int .i64 0) (.int .i64 0))
        | (go_at_call 18; refine (CA _ (ha.ext hx0)).mono ?_; rintro e w1 ⟨rfl, hx1⟩
           obtain ⟨hd0, hd1, hd2⟩ := (ob.ext hx1).cells3))
      refine bodyPost_ret (rst_results2 rfl _ _ (w.heap.size + 2) _ _ _ rfl ho6) rfl ?_
      exact ⟨_, rfl, BV.nil _, ((hx0.trans hx1).trans hx2).set3 (by omega) _ _ _⟩
  rw [if_neg hne] at hJ
  have hlen : la.length = lb.length := by omega
  obtain ⟨M, hM⟩ : ∃ M, min (na + nb) 1099511627776 = M := ⟨_, rfl⟩
  rw [hM] at hJ
  subst hJ
  simp only
  have hz : ((la.length : Int) != (lb.length : Int)) = false := by rw [hlen]; simp
  have hz2 : (ea != eb) = false := by rw [bne_eq_false_iff_eq]; omega
  have HM := Lib.hid hM
  have HL := Lib.hid hlen
  obtain ⟨g1, g2, g3, g4, g5, g6⟩ := ga
  obtain ⟨k1, k2, k3, k4, k5, k6⟩ := gb
  have hws : IntKind.i64.wrap (na + nb) = na + nb := by rw [IntKind.wrap_i64]; omega
  clear hne hM hlen
  go_enter Try.func22, Try.ntmps22
  go_wp2_with (first
    | (go_at_call 18; have hq := hx1; refine (CB _ (hb.ext (hx0.trans hx1))).mono ?_; rintro e w2 ⟨rfl, hx2⟩
       obtain ⟨he0, he1, he2⟩ := ((oa.ext hx1).ext hx2).cells3
       obtain ⟨hf0, hf1, hf2⟩ := ((ob.ext hx1).ext hx2).cells3)
    | (go_at_call 18; refine (CA _ (ha.ext hx0)).mono ?_; rintro e w1 ⟨rfl, hx1⟩
       obtain ⟨hd0, hd1, hd2⟩ := (ob.ext hx1).cells3))
  have hxb := (hx0.trans hx1).trans hx2
  have oa2 := (oa.ext hx1).ext hx2
  have ob2 := (ob.ext hx1).ext hx2
  have oc2 := (oc.ext hx1).ext hx2
  have ha2 := ha.ext hxb
  clear hd0 hd1 hd2 CA CB
  apply wp_region_dagF 14 (by kernel_rfl) (by kernel_rfl) (by kernel_rfl) (by decide)
  simp only [List.take_succ_cons, List.take_zero, List.drop_succ_cons, List.drop_zero]
  refine' dagf_row (fun v W => FB W w2.heap.size v []) (FB.res _ _) rfl (fun W hW H => ⟨.slice (some ⟨W.heap.size, 0, none⟩) 0 0, W.alloc (.cells #[] 5), (by go_simp <;> rfl), Ext.alloc _ _, FB.lit0 W hW.size, fun k e => by have e' : W.heap.size = k := Option.some.inj e; omega⟩) (fun v0 => _)
  rotate_left
  simp only [Act.put, List.setIfInBounds_toArray, List.set_cons_zero, List.set_cons_succ]
  apply dagf_val rfl (by intro W hW H; go_simp <;> rfl)
  simp only [Act.put, List.setIfInBounds_toArray, List.set_cons_zero, List.set_cons_succ]
  apply dagf_val rfl (by intro W hW H; have q0 := hW.cell he0; go_simp <;> rfl)
  simp only [Act.put, List.setIfInBounds_toArray, List.set_cons_zero, List.set_cons_succ]
  refine' dagf_app 0 v0 _ (fun v W => FB W w2.heap.size v la) (FB.res _ _) (by kernel_rfl) (by repeat (first | exact List.mem_cons_self | refine mem_keep ?_ (by decide) | apply List.mem_cons_of_mem)) rfl (fun W hW H => fapp_bytes (vx := v0) (vy := .slice p la.length c) (l := []) (m := la) T.bytes rfl rfl rfl (H (0, v0, _) (by repeat (first | exact List.mem_cons_self | refine mem_keep ?_ (by decide) | apply List.mem_cons_of_mem)) (by kernel_rfl)) (ha2.ext hW) (by simp; omega) hW.size) (fun v3 => _)
  rotate_left
  simp only [Act.put, List.setIfInBounds_toArray, List.set_cons_zero, List.set_cons_succ]
  apply dagf_val rfl (by intro W hW H; go_simp <;> rfl)
  simp only [Act.put, List.setIfInBounds_toArray, List.set_cons_zero, List.set_cons_succ]
  apply dagf_val rfl (by intro W hW H; have q0 := hW.cell he1; go_simp <;> rfl)
  simp only [Act.put, List.setIfInBounds_toArray, List.set_cons_zero, List.set_cons_succ]
  apply dagf_val rfl (by intro W hW H; go_simp <;> rfl)
  simp only [Act.put, List.setIfInBounds_toArray, List.set_cons_zero, List.set_cons_succ]
  apply dagf_val rfl (by intro W hW H; have q0 := hW.cell he2; go_simp <;> rfl)
  simp only [Act.put, List.setIfInBounds_toArray, List.set_cons_zero, List.set_cons_succ]
  apply dagf_val rfl (by intro W hW H; go_simp <;> rfl)
  simp only [Act.put, List.setIfInBounds_toArray, List.set_cons_zero, List.set_cons_succ]
  apply dagf_val rfl (by intro W hW H; have q0 := hW.cell hf2; go_simp <;> rfl)
  simp only [Act.put, List.setIfInBounds_toArray, List.set_cons_zero, List.set_cons_succ]
  apply dagf_val rfl (by intro W hW H; go_simp <;> rfl)
  simp only [Act.put, List.setIfInBounds_toArray, List.set_cons_zero, List.set_cons_succ]
  refine' dagf_val rfl (fun W hW H => run_min rfl rfl rfl W) _
  rotate_left
  simp only [Act.put, List.setIfInBounds_toArray, List.set_cons_zero, List.set_cons_succ]
  refine' dagf_app 3 v3 _ (fun v W => ∃ p c, v = .agg (.slice p la.length c :: [.int .i64 ea, .int .i64 (min (na + nb) 1099511627776)]).toArray ∧ FB W w2.heap.size (.slice p la.length c) la) (FB.resAgg _ _ _) (by kernel_rfl) (by repeat (first | exact List.mem_cons_self | refine mem_keep ?_ (by decide) | apply List.mem_cons_of_mem)) rfl (fun W hW H => fapp_build (H (3, v3, _) (by repeat (first | exact List.mem_cons_self | refine mem_keep ?_ (by decide) | apply List.mem_cons_of_mem)) (by kernel_rfl)) (by rintro p c rfl; go_simp <;> rfl)) (fun v12 => _)
  rotate_left
  simp only [Act.put, List.setIfInBounds_toArray, List.set_cons_zero, List.set_cons_succ]
  refine' dagf_row (fun v W => ∃ g, v = .pointer (some ⟨g, 0, none⟩) ∧ w2.heap.size ≤ g ∧ ObjAt W g 24 [.slice none 0 0, .int .i64 0, .int .i64 0]) (ObjAt.res _ _ _) rfl (fun W hW H => frow_alloc hW.size (by go_simp <;> rfl)) (fun v13 => _)
  rotate_left
  simp only [Act.put, List.setIfInBounds_toArray, List.set_cons_zero, List.set_cons_succ]
  refine dagf_end fun W hW H HA => ?_
  obtain ⟨g, e5, hgg, og⟩ : ∃ g, v13 = .pointer (some ⟨g, 0, none⟩) ∧ w2.heap.size ≤ g ∧ ObjAt W g 24 [.slice none 0 0, .int .i64 0, .int .i64 0] := H (13, v13, _) (by repeat (first | exact List.mem_cons_self | refine mem_keep ?_ (by decide) | apply List.mem_cons_of_mem))
  obtain ⟨p3, c3, e6, hf⟩ : ∃ p c, v12 = .agg (.slice p la.length c :: [.int .i64 ea, .int .i64 (min (na + nb) 1099511627776)]).toArray ∧ FB W w2.heap.size (.slice p la.length c) la := H (12, v12, _) (by repeat (first | exact List.mem_cons_self | refine mem_keep ?_ (by decide) | apply List.mem_cons_of_mem))
  rw [HM.out] at e6
  have hap : ∀ k, (Value.slice p3 la.length c3).ownBlock = some k → k ≠ g := fun k hk e => HA (12, v12, _) (by repeat (first | exact List.mem_cons_self | refine mem_keep ?_ (by decide) | apply List.mem_cons_of_mem)) (13, v13, _) (by repeat (first | exact List.mem_cons_self | refine mem_keep ?_ (by decide) | apply List.mem_cons_of_mem)) (by show (12 : Nat) ≠ 13; decide) k (by rw [e6]; show ownOf (.agg (.slice p3 la.length c3 :: [.int .i64 ea, .int .i64 M]).toArray) = _; rw [ownOf_agg]; exact hk) (by rw [e5, e]; rfl)
  subst e5
  subst e6
  clear H HA
  obtain ⟨b3, c4, e7, _, _, hb3, hb3l⟩ := hf.head (by intro e; rw [e] at g1; simp at g1)
  cases e7
  have hng : b3 ≠ g := hap b3 rfl
  have hlt1 := ob2.lt
  have hlt2 := oc2.lt
  have ob3 := (ob2.ext hW).far3 (g' := g) (by omega) (.slice (some ⟨b3, 0, none⟩) la.length c3) (.int .i64 ea) (.int .i64 M)
  have oc3 := (oc2.ext hW).far3 (g' := g) (by omega) (.slice (some ⟨b3, 0, none⟩) la.length c3) (.int .i64 ea) (.int .i64 M)
  obtain ⟨⟨c0, f0, c1, f1, c2, f2⟩, og3⟩ := og.stored3 (.slice (some ⟨b3, 0, none⟩) la.length c3) (.int .i64 ea) (.int .i64 M)
  have hf3 := hf.far3 (g := g) (fun e => hng (Option.some.inj e)) (.slice (some ⟨b3, 0, none⟩) la.length c3) (.int .i64 ea) (.int .i64 M)
  have hsx := hxb.size
  have hxW := (hxb.trans hW).set3 (g := g) (by omega) (.slice (some ⟨b3, 0, none⟩) la.length c3) (.int .i64 ea) (.int .i64 M)
  have hb3w : w.heap.size ≤ b3 := by omega
  have n1 : w.heap.size + 1 ≠ b3 := by omega
  have n2 : w.heap.size + 2 ≠ b3 := by omega
  have n3 : w.heap.size ≤ g := by omega
  have n4 : w.heap.size + 2 ≠ g := by omega
  have N1 := Lib.hid n1
  have N2 := Lib.hid n2
  have N3 := Lib.hid n3
  have N4 := Lib.hid n4
  have NG := Lib.hid hng
  have NB := Lib.hid hb3w
  clear hlt1 hlt2 n1 n2 n3 n4 hng hb3w hsx hgg hap hb3 hb3l he0 he1 he2 hf0 hf1 hf2
  go_wp2_with fail
  go_loopg [7] (8 * lb.length) (fun k s7 wr => ∃ j : Nat, s7 = .int .i64 j ∧ j ≤ 8 * lb.length ∧ k = 8 * lb.length - j ∧ FB wr w2.heap.size (.slice (some ⟨b3, 0, none⟩) la.length c3) (orTo la lb j) ∧ ObjAt wr g 24 [.slice (some ⟨b3, 0, none⟩) la.length c3, .int .i64 ea, .int .i64 M] ∧
    ObjAt wr (w.heap.size + 1) 24 [.slice q lb.length d, .int .i64 eb, .int .i64 nb] ∧ ObjAt wr (w.heap.size + 2) 24 [.slice none 0 0, .int .i64 0, .int .i64 0] ∧ Ext w wr)
  case atStart => exact ⟨0, rfl, Nat.zero_le _, rfl, hf3, og3, ob3, oc3, hxW⟩
  case round =>
    obtain ⟨j, rfl, hj, hk, hfj, hoG, hoB, hoC, hx⟩ := hrel
    obtain ⟨m0, m1, m2⟩ := hoG.cells3
    obtain ⟨l0, l1, l2⟩ := hoB.cells3
    by_cases hlt : j < 8 * lb.length
    case pos =>
      have hi : (j : Int) < 8 * (lb.length : Int) := by omega
      obtain ⟨hL1, hL2⟩ := orTo_facts la lb HL.out j (by have := HL.out; omega)
      have HST := Lib.hid (orTo_succ la lb j)
      have B1 := rbit_any (.slice q lb.length d) lb eb nb j wr (hb.ext hx) hlt hlb
      cases hbj : bitAt lb j with
      | false =>
        rw [hbj] at B1 HST
        clear hbj
        go_wp2_with (go_at_call 33; refine B1.mono ?_; rintro e w5 ⟨rfl, hx5⟩)
        go_roundg (8 * lb.length - (j + 1))
        case measure => omega
        case rel => exact ⟨j + 1, by go_num, hlt, rfl, by rw [HST.out]; exact hfj.keep hx5, hoG.ext hx5, hoB.ext hx5, hoC.ext hx5, hx.trans hx5⟩
      | true =>
        rw [hbj] at B1 HST
        clear hbj
        generalize orTo la lb j = L at *
        have hjL : j < 8 * L.length := by rw [hL1]; have := HL.out; omega
        have B2 := fun W h => rbit_any (.slice (some ⟨b3, 0, none⟩) la.length c3) L ea M j W h hjL (by omega)
        cases hxj : bitAt L j with
        | true =>
          rw [hxj] at B2 HST
          clear hxj
          go_wp2_with (first
            | (go_at_call 33; have hq := hx5; refine (B2 _ (hfj.view.ext hx5)).mono ?_; rintro e w6 ⟨rfl, hx6⟩)
            | (go_at_call 33; refine B1.mono ?_; rintro e w5 ⟨rfl, hx5⟩
               clear m0 m1 m2
               obtain ⟨m0, m1, m2⟩ := (hoG.ext hx5).cells3))
          go_roundg (8 * lb.length - (j + 1))
          case measure => omega
          case rel => exact ⟨j + 1, by go_num, hlt, rfl, by rw [HST.out]; exact (hfj.keep hx5).keep hx6, (hoG.ext hx5).ext hx6, (hoB.ext hx5).ext hx6, (hoC.ext hx5).ext hx6, (hx.trans hx5).trans hx6⟩
        | false =>
          rw [hxj] at B2 HST
          obtain ⟨a, ha8⟩ : ∃ a, j / 8 = a := ⟨_, rfl⟩
          obtain ⟨r, hr8⟩ : ∃ r, j % 8 = r := ⟨_, rfl⟩
          have hal : a < L.length := by omega
          obtain ⟨hset, hbit⟩ := set_bit L j a r ha8 hr8 hal
          rw [hxj] at hbit
          have HO := Lib.hid (plus_bit L[a] r (by omega) hbit.symm)
          have HSET := Lib.hid hset
          have hd : (j : Int) / 8 = (a : Int) := by omega
          have hm : (j : Int) % 8 = (r : Int) := by omega
          have hia : (a : Int) < (la.length : Int) := by omega
          have hr88 : (r : Int) < 8 := by omega
          have hp0 : 0 ≤ (j : Int) := by omega
          have hwa : IntKind.i64.wrap (a : Int) = (a : Int) := by rw [IntKind.wrap_i64]; omega
          have htm : (j : Int).tmod 8 = (r : Int) := by rw [Int.tmod_eq_emod_of_nonneg hp0]; exact hm
          have hmn : min r 8 = r := by omega
          clear hxj hset hbit ha8 hr8
          go_wp2_with (first
            | (go_at_call 33; have hq := hx5; refine (B2 _ (hfj.view.ext hx5)).mono ?_; rintro e w6 ⟨rfl, hx6⟩)
            | (go_at_call 33; refine B1.mono ?_; rintro e w5 ⟨rfl, hx5⟩
               clear m0 m1 m2
               obtain ⟨m0, m1, m2⟩ := (hoG.ext hx5).cells3))
          have hf6 := (hfj.keep hx5).keep hx6
          have hcb := hf6.cell (j := a) hal
          obtain ⟨c0', c1', c2'⟩ := ((hoG.ext hx5).ext hx6).cells3
          apply wp_region_dag_tail 11 (X := Ext) (by kernel_rfl) (by kernel_rfl) (by kernel_rfl) (by decide) (fun _ _ _ => Ext.trans) (Ext.drew1 _)
          simp only [List.take_succ_cons, List.take_zero, List.drop_succ_cons, List.drop_zero]
          apply dag_val Ext.refl rfl (by intro W hW H; go_simp <;> rfl)
          simp only [Act.put, List.setIfInBounds_toArray, List.set_cons_zero, List.set_cons_succ]
          apply dag_val Ext.refl rfl (by intro W hW H; have hq := hW.cell c0'; go_simp <;> rfl)
          simp only [Act.put, List.setIfInBounds_toArray, List.set_cons_zero, List.set_cons_succ]
          apply dag_val Ext.refl rfl (by intro W hW H; go_simp <;> rfl)
          simp only [Act.put, List.setIfInBounds_toArray, List.set_cons_zero, List.set_cons_succ]
          apply dag_val Ext.refl rfl (by intro W hW H; go_simp <;> rfl)
          simp only [Act.put, List.setIfInBounds_toArray, List.set_cons_zero, List.set_cons_succ]
          apply dag_val Ext.refl rfl (by intro W hW H; go_simp <;> rfl)
          simp only [Act.put, List.setIfInBounds_toArray, List.set_cons_zero, List.set_cons_succ]
          apply dag_val Ext.refl rfl (by intro W hW H; have hq := hW.cell hcb; go_simp <;> rfl)
          simp only [Act.put, List.setIfInBounds_toArray, List.set_cons_zero, List.set_cons_succ]
          apply dag_val Ext.refl rfl (by intro W hW H; go_simp <;> rfl)
          simp only [Act.put, List.setIfInBounds_toArray, List.set_cons_zero, List.set_cons_succ]
          apply dag_val Ext.refl rfl (by intro W hW H; go_simp <;> rfl)
          simp only [Act.put, List.setIfInBounds_toArray, List.set_cons_zero, List.set_cons_succ]
          apply dag_val Ext.refl rfl (by intro W hW H; go_simp <;> rfl)
          simp only [Act.put, List.setIfInBounds_toArray, List.set_cons_zero, List.set_cons_succ]
          apply dag_val Ext.refl rfl (by intro W hW H; go_simp <;> rfl)
          simp only [Act.put, List.setIfInBounds_toArray, List.set_cons_zero, List.set_cons_succ]
          apply dag_val Ext.refl rfl (by intro W hW H; go_simp <;> rfl)
          simp only [Act.put, List.setIfInBounds_toArray, List.set_cons_zero, List.set_cons_succ]
          refine dag_end fun W7 hW7 H => ?_
          clear H
          have hfW := hf6.keep hW7
          have hcW := hfW.cell (j := a) hal
          have hzW := hfW.free a
          go_wp2_with fail
          have HO2 := HO.out
          rw [HO2]
          have hx7 := (hx5.trans hx6).trans hW7
          go_roundg (8 * lb.length - (j + 1))
          case measure => omega
          case rel =>
            refine ⟨j + 1, by go_num, hlt, rfl, ?_, (hoG.ext hx7).far (p := ⟨b3, a, none⟩) (Ne.symm NG.out) _, (hoB.ext hx7).far (p := ⟨b3, a, none⟩) N1.out _, (hoC.ext hx7).far (p := ⟨b3, a, none⟩) N2.out _, (hx.trans hx7).store (p := ⟨b3, a, none⟩) NB.out _⟩
            rw [HST.out]
            simp only [Bool.not_false, Bool.and_self, if_true]
            rw [HSET.out]
            exact hfW.store a _
    case neg =>
      obtain rfl : j = 8 * lb.length := by omega
      have hfin : orTo la lb (8 * lb.length) = orB la lb := by rw [← HL.out]; exact orTo_all la lb HL.out
      rw [hfin] at hfj
      obtain ⟨⟨d0, k0, d1, k1, d2, k2⟩, ho6⟩ := hoC.stored3 (.slice (some ⟨b3, 0, none⟩) la.length c3) (.int .i64 ea) (.int .i64 M)
      clear hfin
      go_wp2_with fail
      refine bodyPost_ret (rst_results2 rfl _ _ (w.heap.size + 2) _ _ _ rfl ho6) rfl ?_
      have hne : (Value.slice (some ⟨b3, 0, none⟩) la.length c3).ownBlock ≠ some (w.heap.size + 2) := fun e => N2.out (Option.some.inj e).symm
      exact ⟨_, rfl, (hfj.far3 hne _ _ _).view, hx.set3 (by omega) _ _ _⟩
end Go.Proofs.Ythlhhnkalknidaa
