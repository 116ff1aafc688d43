/- What the program's functions of layer 33 compute: Join. -/
import Derived.Test.YthlhhnkalknidaaBmA
namespace Go.Proofs.Ythlhhnkalknidaa
open Go.RowKit

theorem byte_or (x y : UInt8) : bits .or .u8 (x.toNat : Int) (y.toNat : Int) = ((x ||| y).toNat : Int) := by
  have e : ∀ x : UInt8, BitVec.ofInt 8 (x.toNat : Int) = x.toBitVec := fun x => by
    rw [BitVec.ofInt_natCast]; apply BitVec.eq_of_toNat_eq; simp
  show IntKind.u8.wrap ((BitVec.ofInt 8 (x.toNat : Int) ||| BitVec.ofInt 8 (y.toNat : Int)).toNat : Int) = _
  rw [e, e]
  exact byte_wrap_u8 (x ||| y)
/-- The first j bytes are joined. -/
def orFor (a b : List UInt8) (j : Nat) : List UInt8 := (orB a b).take j ++ a.drop j
theorem orFor_length (a b : List UInt8) (h : a.length = b.length) (j : Nat) (hj : j ≤ a.length) : (orFor a b j).length = a.length := by
  simp [orFor, orB_length a b h]; omega
theorem orFor_step (a b : List UInt8) (h : a.length = b.length) {j : Nat} (hj : j < a.length) : ∃ h1 : j < (orFor a b j).length, (orFor a b j)[j] = a[j] ∧ (orFor a b j).set j (a[j] ||| b[j]'(by omega)) = orFor a b (j + 1) := by
  have hol : (orB a b).length = a.length := orB_length a b h
  have h1 : j < (orFor a b j).length := by rw [orFor_length a b h j (by omega)]; exact hj
  have hg : (orB a b)[j]'(by omega) = a[j] ||| b[j]'(by omega) := by simp [orB]
  have h2 : (orFor a b j)[j]? = some a[j] := by
    unfold orFor
    rw [List.getElem?_append_right (by simp; omega), List.length_take, Nat.min_eq_left (by omega), Nat.sub_self, List.getElem?_drop, Nat.add_zero, List.getElem?_eq_getElem hj]
  refine ⟨h1, (List.getElem?_eq_some_iff.1 h2).2, ?_⟩
  unfold orFor
  rw [List.set_append_right _ _ (by simp; omega), List.take_succ_eq_append_getElem (by omega), hg, List.length_take, Nat.min_eq_left (by omega), Nat.sub_self, List.drop_eq_getElem_cons hj, List.append_assoc]
  rfl
theorem orFor_all (a b : List UInt8) (h : a.length = b.length) : orFor a b a.length = orB a b := by
  unfold orFor
  rw [List.drop_length, List.append_nil, List.take_of_length_le (by rw [orB_length a b h]; exact Nat.le_refl _)]
abbrev nilS : List Value := [.slice none 0 0, .int .i64 0, .int .i64 0]
set_option maxHeartbeats 4000000 in
theorem join_any (va : Value) (la : List UInt8) (ea na : Int) (vb : Value) (lb : List UInt8) (eb nb : Int) (w : World) (ha : BV w va la) (hb : BV w vb lb) (hla : la.length ≤ 100000) (_ : lb.length ≤ 100000) :
    Calls Try.prog 21 #[stv va ea na, stv vb eb nb] w fun e w' => ∃ v', e = .returned (.tuple #[stv v' (joinS ⟨la, ea, na⟩ ⟨lb, eb, nb⟩).1.each (joinS ⟨la, ea, na⟩ ⟨lb, eb, nb⟩).1.n, .int .i64 (joinS ⟨la, ea, na⟩ ⟨lb, eb, nb⟩).2]) ∧ BV w' v' (joinS ⟨la, ea, na⟩ ⟨lb, eb, nb⟩).1.bits ∧ Ext w w' := by
  obtain ⟨p, c, rfl, _, hc1, _⟩ := id ha
  obtain ⟨q, d, rfl, _, hd1, _⟩ := id hb
  obtain ⟨oa, ob, oc, hx0, hsz⟩ := objs3 w 27 27 27 [.slice p la.length c, .int .i64 ea, .int .i64 na] [.slice q lb.length d, .int .i64 eb, .int .i64 nb] nilS
  have HSZ := Lib.hid hsz
  clear hsz
  have CA := fun w h => check_any (.slice p la.length c) la ea na w h
  have CB := fun w h => check_any (.slice q lb.length d) lb eb nb w h
  obtain ⟨J, hJ⟩ : ∃ J, joinS ⟨la, ea, na⟩ ⟨lb, eb, nb⟩ = J := ⟨_, rfl⟩
  rw [hJ]
  unfold joinS at hJ
  simp only at hJ
  by_cases ga : goodB ⟨la, ea, na⟩
  case neg =>
    rw [if_pos (.inl ga)] at hJ
    subst hJ
    rw [checkB_bad ga] at CA
    clear ga
    go_enter Try.func21, Try.ntmps21
    go_wp2_with (go_at_call 17; refine (CA _ (ha.ext hx0)).mono ?_; rintro e w1 ⟨rfl, hx1⟩
                 obtain ⟨⟨hg0, hk0, hg1, hk1, hg2, hk2⟩, ho6⟩ := (oc.ext hx1).stored3 (.slice none 0 0) (.int .i64 0) (.int .i64 0))
    refine bodyPost_ret (st_results2 rfl _ _ (w.heap.size + 2) _ _ _ rfl ho6) rfl ?_
    exact ⟨_, rfl, BV.nil _, (hx0.trans hx1).set3 (by omega) _ _ _⟩
  rw [checkB_ok ga] at CA
  by_cases gb : goodB ⟨lb, eb, nb⟩
  case neg =>
    rw [if_pos (.inr gb)] at hJ
    subst hJ
    rw [checkB_bad gb] at CB
    clear ga gb
    go_enter Try.func21, Try.ntmps21
    go_wp2_with (first
      | (go_at_call 17; have hq := hx1; refine (CB _ (hb.ext (hx0.trans hx1))).mono ?_; rintro e w2 ⟨rfl, hx2⟩
         obtain ⟨⟨hg0, hk0, hg1, hk1, hg2, hk2⟩, ho6⟩ := ((oc.ext hx1).ext hx2).stored3 (.slice none 0 0) (.int .i64 0) (.int .i64 0))
      | (go_at_call 17; refine (CA _ (ha.ext hx0)).mono ?_; rintro e w1 ⟨rfl, hx1⟩
         obtain ⟨hd0, hd1, hd2⟩ := (ob.ext hx1).cells3))
    refine bodyPost_ret (st_results2 rfl _ _ (w.heap.size + 2) _ _ _ rfl ho6) rfl ?_
    exact ⟨_, rfl, BV.nil _, ((hx0.trans hx1).trans hx2).set3 (by omega) _ _ _⟩
  rw [checkB_ok gb] at CB
  rw [if_neg (by simp [ga, gb])] at hJ
  unfold goodB at ga gb
  simp only at ga gb
  by_cases hne : la.length ≠ lb.length ∨ ea ≠ eb
  · rw [if_pos hne] at hJ
    subst hJ
    rcases (by omega : ((la.length : Int) ≠ (lb.length : Int)) ∨ ((la.length : Int) = (lb.length : Int) ∧ ea ≠ eb)) with k1 | ⟨k1, k2⟩
    · have hz : ((la.length : Int) != (lb.length : Int)) = true := by rw [bne_iff_ne]; exact k1
      clear hne k1
      go_enter Try.func21, Try.ntmps21
      go_wp2_with (first
        | (go_at_call 17; have hq := hx1; refine (CB _ (hb.ext (hx0.trans hx1))).mono ?_; rintro e w2 ⟨rfl, hx2⟩
           obtain ⟨he0, he1, he2⟩ := ((oa.ext hx1).ext hx2).cells3
           obtain ⟨hf0, hf1, hf2⟩ := ((ob.ext hx1).ext hx2).cells3
           obtain ⟨⟨hg0, hk0, hg1, hk1, hg2, hk2⟩, ho6⟩ := ((oc.ext hx1).ext hx2).stored3 (.slice none 0 0) (.int .i64 0) (.int .i64 0))
        | (go_at_call 17; refine (CA _ (ha.ext hx0)).mono ?_; rintro e w1 ⟨rfl, hx1⟩
           obtain ⟨hd0, hd1, hd2⟩ := (ob.ext hx1).cells3))
      refine bodyPost_ret (st_results2 rfl _ _ (w.heap.size + 2) _ _ _ rfl ho6) rfl ?_
      exact ⟨_, rfl, BV.nil _, ((hx0.trans hx1).trans hx2).set3 (by omega) _ _ _⟩
    · have hz : ((la.length : Int) != (lb.length : Int)) = false := by rw [k1]; simp
      have hz2 : (ea != eb) = true := by rw [bne_iff_ne]; exact k2
      clear hne k1 k2
      go_enter Try.func21, Try.ntmps21
      go_wp2_with (first
        | (go_at_call 17; have hq := hx1; refine (CB _ (hb.ext (hx0.trans hx1))).mono ?_; rintro e w2 ⟨rfl, hx2⟩
           obtain ⟨he0, he1, he2⟩ := ((oa.ext hx1).ext hx2).cells3
           obtain ⟨hf0, hf1, hf2⟩ := ((ob.ext hx1).ext hx2).cells3
           obtain ⟨⟨hg0, hk0, hg1, hk1, hg2, hk2⟩, ho6⟩ := ((oc.ext hx1).ext hx2).stored3 (.slice none 0 0) (.int .i64 0) (.int .i64 0))
        | (go_at_call 17; refine (CA _ (ha.ext hx0)).mono ?_; rintro e w1 ⟨rfl, hx1⟩
           obtain ⟨hd0, hd1, hd2⟩ := (ob.ext hx1).cells3))
      refine bodyPost_ret (st_results2 rfl _ _ (w.heap.size + 2) _ _ _ rfl ho6) rfl ?_
      exact ⟨_, rfl, BV.nil _, ((hx0.trans hx1).trans hx2).set3 (by omega) _ _ _⟩
  rw [if_neg hne] at hJ
  have hlen : la.length = lb.length := by omega
  obtain ⟨M, hM⟩ : ∃ M, min (na + nb) 1099511627776 = M := ⟨_, rfl⟩
  rw [hM] at hJ
  subst hJ
  simp only
  have hz : ((la.length : Int) != (lb.length : Int)) = false := by rw [hlen]; simp
  have hz2 : (ea != eb) = false := by rw [bne_eq_false_iff_eq]; omega
  have HM := Lib.hid hM
  have HL := Lib.hid hlen
  have hbl : lb.length ≤ 4096 := gb.2.1
  have O1 := fun w h => own_any (.slice p la.length c) la ea na w h (by omega)
  obtain ⟨g1, g2, g3, g4, g5, g6⟩ := ga
  obtain ⟨k1, k2, k3, k4, k5, k6⟩ := gb
  clear hne hM hlen
  go_enter Try.func21, Try.ntmps21
  go_wp2_with (first
    | (go_at_call 17; have hq := hx1; refine (CB _ (hb.ext (hx0.trans hx1))).mono ?_; rintro e w2 ⟨rfl, hx2⟩
       obtain ⟨he0, he1, he2⟩ := ((oa.ext hx1).ext hx2).cells3
       obtain ⟨hf0, hf1, hf2⟩ := ((ob.ext hx1).ext hx2).cells3)
    | (go_at_call 17; refine (CA _ (ha.ext hx0)).mono ?_; rintro e w1 ⟨rfl, hx1⟩
       obtain ⟨hd0, hd1, hd2⟩ := (ob.ext hx1).cells3)
    | (go_at_call 32; refine (O1 _ (ha.ext ((hx0.trans hx1).trans hx2))).mono ?_; rintro e w3 ⟨v3, rfl, hfr, hx3⟩
       obtain ⟨b3, c3, e5, _, _, hb3, hbs⟩ := hfr.head (by intro e; rw [e] at g1; simp at g1)
       subst e5
       have hx4 := ((hx0.trans hx1).trans hx2).trans (hx3.trans (Ext.alloc w3 (.cells #[.slice (some ⟨b3, 0, none⟩) la.length c3, .int .i64 ea, .int .i64 na] 27)))
       have hf4 := hfr.keep (Ext.alloc w3 (.cells #[.slice (some ⟨b3, 0, none⟩) la.length c3, .int .i64 ea, .int .i64 na] 27))
       have ho4 : ObjAt (w3.alloc (.cells #[.slice (some ⟨b3, 0, none⟩) la.length c3, .int .i64 ea, .int .i64 na] 27)) w3.heap.size 27 [.slice (some ⟨b3, 0, none⟩) la.length c3, .int .i64 ea, .int .i64 na] := heap_alloc_new w3 _
       have oa4 := (((oa.ext hx1).ext hx2).ext hx3).ext (Ext.alloc w3 (.cells #[.slice (some ⟨b3, 0, none⟩) la.length c3, .int .i64 ea, .int .i64 na] 27))
       have ob4 := (((ob.ext hx1).ext hx2).ext hx3).ext (Ext.alloc w3 (.cells #[.slice (some ⟨b3, 0, none⟩) la.length c3, .int .i64 ea, .int .i64 na] 27))
       have oc4 := (((oc.ext hx1).ext hx2).ext hx3).ext (Ext.alloc w3 (.cells #[.slice (some ⟨b3, 0, none⟩) la.length c3, .int .i64 ea, .int .i64 na] 27))
       have hs1 := hx1.size
       have hs2 := hx2.size
       have hs3 := hx3.size
       rw [HSZ.out] at hs1
       obtain ⟨hg0, hg1, hg2⟩ := ob4.cells3))
  clear hd0 hd1 hd2 he0 he1 he2 hf0 hf1 hf2 hg0 hg1 hg2 CA CB O1
  go_loopg [36] (lb.length) (fun k s36 wr => ∃ j : Nat, s36 = .int .i64 j ∧ j ≤ lb.length ∧ k = lb.length - j ∧ FB wr w2.heap.size (.slice (some ⟨b3, 0, none⟩) la.length c3) (orFor la lb j) ∧ ObjAt wr w3.heap.size 27 [.slice (some ⟨b3, 0, none⟩) la.length c3, .int .i64 ea, .int .i64 na] ∧
    ObjAt wr w.heap.size 27 [.slice p la.length c, .int .i64 ea, .int .i64 na] ∧ ObjAt wr (w.heap.size + 1) 27 [.slice q lb.length d, .int .i64 eb, .int .i64 nb] ∧ ObjAt wr (w.heap.size + 2) 27 nilS ∧ Ext w wr)
  case atStart => exact ⟨0, rfl, Nat.zero_le _, rfl, by simpa [orFor] using hf4, ho4, oa4, ob4, oc4, hx4⟩
  case round =>
    obtain ⟨j, rfl, hj, hk, hf, hoD, hoA, hoB, hoC, hx⟩ := hrel
    by_cases hlt : j < lb.length
    case pos =>
      have hi : (j : Int) < (lb.length : Int) := by omega
      have hlta : j < la.length := by have := HL.out; omega
      have hi2 : (j : Int) < (la.length : Int) := by omega
      obtain ⟨_, _, e0, _, _, hsb⟩ := hb.ext hx
      cases e0
      obtain ⟨bq, oq, rfl, hcq⟩ := hsb.at (bs_get lb hlt)
      obtain ⟨hj1, hg1, hst⟩ := orFor_step la lb HL.out hlta
      have hcb := hf.cell (j := j) hj1
      rw [hg1] at hcb
      have hzb := hf.free j
      have hc0 := hoD.cell (j := 0) (u := .slice (some ⟨b3, 0, none⟩) la.length c3) rfl
      have HO := Lib.hid (byte_or la[j] lb[j])
      have HST := Lib.hid hst
      clear hg1 hst
      go_wp2_with fail
      rw [HO.out]
      go_roundg (lb.length - (j + 1))
      case measure => omega
      case rel =>
        refine ⟨j + 1, by go_num, hlt, rfl, ?_, hoD.far (p := ⟨b3, j, none⟩) (by simp; omega) _, hoA.far (p := ⟨b3, j, none⟩) (by simp; omega) _, hoB.far (p := ⟨b3, j, none⟩) (by simp; omega) _, hoC.far (p := ⟨b3, j, none⟩) (by simp; omega) _, hx.store (p := ⟨b3, j, none⟩) (by simp; omega) _⟩
        have := hf.store j (la[j] ||| lb[j])
        rw [HST.out] at this
        exact this
    case neg =>
      obtain rfl : j = lb.length := by omega
      have hfin : orFor la lb lb.length = orB la lb := by rw [← HL.out]; exact orFor_all la lb HL.out
      rw [hfin] at hf
      obtain ⟨hg0, hg1, hg2⟩ := hoA.cells3
      obtain ⟨hh0, hh1, hh2⟩ := hoB.cells3
      have hc2 := hoD.cell (j := 2) (u := .int .i64 na) rfl
      have hf2 := hoD.free 2
      have hoE := hoD.store 2 (.int .i64 M)
      obtain ⟨hd0, hd1, hd2⟩ := hoE.cells3
      have hoF := hoC.far (p := ⟨w3.heap.size, 2, none⟩) (by simp; omega) (.int .i64 M)
      obtain ⟨⟨hm0, hk0, hm1, hk1, hm2, hk2⟩, ho6⟩ := hoF.stored3 (.slice (some ⟨b3, 0, none⟩) la.length c3) (.int .i64 ea) (.int .i64 M)
      clear hfin
      go_wp2_with ((with_reducible show wpList _ _ _ (Oper.mk _ (Op.call { callee := Callee.builtin Builtin.min, args := _, argTypes := _ }) _ _ _ _ :: _) _ _); refine wpList_run rfl (run_min rfl rfl rfl _) ?_; rw [HM.out])
      refine bodyPost_ret (st_results2 rfl _ _ (w.heap.size + 2) _ _ _ rfl ho6) rfl ?_
      have hne : (Value.slice (some ⟨b3, 0, none⟩) la.length c3).ownBlock ≠ some (w.heap.size + 2) := fun e => by have e' : b3 = _ := Option.some.inj e; omega
      have hne2 : (Value.slice (some ⟨b3, 0, none⟩) la.length c3).ownBlock ≠ some (w3.heap.size) := fun e => by have e' : b3 = _ := Option.some.inj e; omega
      exact ⟨_, rfl, ((hf.far (p := ⟨w3.heap.size, 2, none⟩) hne2 _).far3 hne _ _ _).view, (hx.store (p := ⟨w3.heap.size, 2, none⟩) (by simp; omega) _).set3 (by omega) _ _ _⟩
end Go.Proofs.Ythlhhnkalknidaa
