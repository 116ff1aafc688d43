/- What the program's small functions of layer 21 compute: whether a commit may be, its key, its records. What the program's functions of layer 21 compute: Gone, Put, Get. -/
import Derived.Test.YtdklpenpmeplfaaCmR
import Derived.Test.YtdklpenpmeplfaaCm
import Derived.Test.YtdklpenpmeplfaaVarF
import Derived.Test.YtdklpenpmeplfaaDagF
import Derived.Test.YtdklpenpmeplfaaStrB
import Derived.Test.YtdklpenpmeplfaaCmE
import Derived.Test.YtdklpenpmeplfaaDagY
namespace Go.Proofs.Ytdklpenpmeplfaa
open Go.RowKit

def inI (n a b : Int) : Bool := decide (a ≤ n) && decide (n ≤ b)
theorem checkC_in (c : Cm) : checkC c = if inI c.group.length 1 20 = false then 6 else if inI c.topic.length 1 32 = false then 6 else if inI c.index 0 7 = false then 11 else if inI c.offset 0 4611686018427387903 = false then 11 else 0 := by
  unfold checkC inI
  simp only [Bool.and_eq_false_iff, decide_eq_false_iff_not]
  repeat' split
  all_goals omega
set_option maxHeartbeats 400000 in
theorem within_any (n a b : Int) (w : World) :
    Calls Try.prog 32 #[.int .i64 n, .int .i64 a, .int .i64 b] w fun e w' => e = .returned (.bool (inI n a b)) ∧ w = w' := by
  unfold inI
  by_cases h1 : a ≤ n
  · rw [decide_eq_true h1, Bool.true_and]
    go_enter Try.func32, Try.ntmps32
    go_wp2_with fail
    go_ret
    exact ⟨rfl, rfl⟩
  · rw [decide_eq_false h1, Bool.false_and]
    go_enter Try.func32, Try.ntmps32
    go_wp2_with fail
    go_ret
    exact ⟨rfl, rfl⟩
set_option maxHeartbeats 1000000 in
theorem check_any (c : Cm) (w : World) :
    Calls Try.prog 17 #[cmv c] w fun e w' => e = .returned (.int .i64 (checkC c)) ∧ Ext w w' := by
  rw [checkC_in]
  obtain ⟨g, t, i, o⟩ := c
  have hx0 := Ext.alloc w (.cells #[.string ⟨g.toArray⟩, .string ⟨t.toArray⟩, .int .i64 i, .int .i64 o] 33)
  have hs1 : (ByteArray.mk g.toArray).size = g.length := text_size _
  have hs2 : (ByteArray.mk t.toArray).size = t.length := text_size _
  simp only
  cases h1 : inI (g.length : Int) 1 20
  case' true => cases h2 : inI (t.length : Int) 1 32
  case' true.true => cases h3 : inI i 0 7
  case' true.true.true => cases h4 : inI o 0 4611686018427387903
  all_goals
    simp only [if_true, Bool.true_eq_false, if_false]
    go_enter Try.func17, Try.ntmps17
    go_wp2_with (go_at_call 32; refine (within_any _ _ _ _).mono ?_; rintro e w' ⟨rfl, rfl⟩)
    go_ret
    exact ⟨rfl, hx0⟩
set_option maxHeartbeats 1000000 in
theorem key_any (c : Cm) (hc : checkC c = 0) (w : World) :
    Calls Try.prog 33 #[cmv c] w fun e w' => e = .returned (.string ⟨(keyC c).toArray⟩) ∧ Ext w w' := by
  obtain ⟨h1, h2, h3, h4, h5, h6, h7, h8⟩ := checkC_ok hc
  obtain ⟨g, t, i, o⟩ := c
  unfold keyC
  simp only at *
  have hx0 := Ext.alloc w (.cells #[.string ⟨g.toArray⟩, .string ⟨t.toArray⟩, .int .i64 i, .int .i64 o] 33)
  have ho : ObjAt (w.alloc (.cells #[.string ⟨g.toArray⟩, .string ⟨t.toArray⟩, .int .i64 i, .int .i64 o] 33)) w.heap.size 33 [.string ⟨g.toArray⟩, .string ⟨t.toArray⟩, .int .i64 i, .int .i64 o] := heap_alloc_new w _
  have hc0 := ho.cell (j := 0) rfl
  have hc1 := ho.cell (j := 1) rfl
  have hc2 := ho.cell (j := 2) rfl
  have p1 := (vb_length (zig (g.length : Int))).2
  have p2 := (vb_length (zig (t.length : Int))).2
  have HLEN : Hid ((textV g).length + (textV t).length ≤ 1000) := by
    show _ ≤ _
    simp only [textV, putV, List.length_append]; omega
  have HG : Hid (g.length ≤ 1000) := Lib.hid (by omega)
  have HT : Hid (t.length ≤ 1000) := Lib.hid (by omega)
  obtain ⟨n, rfl⟩ : ∃ n : Nat, i = (n : Int) := ⟨i.toNat, by omega⟩
  have hwi : IntKind.u8.wrap (n : Int) = ((UInt8.ofNat n).toNat : Int) := by
    rw [IntKind.wrap_u8, UInt8.toNat_ofNat']; omega
  rw [Int.toNat_natCast]
  clear p1 p2 h1 h2 h3 h4 h5 h6 h7 h8 hc ho
  generalize UInt8.ofNat n = x at *
  go_enter Try.func33, Try.ntmps33
  go_wp2_with fail
  obtain ⟨w0, hw0⟩ : ∃ w0, w0 = w.alloc (.cells #[.string ⟨g.toArray⟩, .string ⟨t.toArray⟩, .int .i64 (n : Int), .int .i64 o] 33) := ⟨_, rfl⟩
  rw [← hw0] at hx0 hc0 hc1 hc2 ⊢
  clear hw0
  apply wp_region_dagF 6 (by kernel_rfl) (by kernel_rfl) (by kernel_rfl) (by decide)
  simp only [List.take_succ_cons, List.take_zero, List.drop_succ_cons, List.drop_zero]
  apply dagf_val rfl (by intro W hW H; go_simp <;> rfl)
  simp only [Act.put, List.setIfInBounds_toArray, List.set_cons_zero, List.set_cons_succ]
  apply dagf_val rfl (by intro W hW H; have hq := hW.cell hc0; go_simp <;> rfl)
  simp only [Act.put, List.setIfInBounds_toArray, List.set_cons_zero, List.set_cons_succ]
  refine' dagf_calls (fun v W => FB W w0.heap.size v (textV g)) (FB.res _ _) rfl (by intro W; go_simp <;> rfl) (fun W hW H => (text_any g (by have := HG.out; omega) W).mono (by rintro e w' ⟨v3, rfl, hf3, hx3⟩; exact ⟨v3, rfl, FB.base hf3 hW.size, hf3.fresh, hx3⟩)) (fun v1 => _)
  rotate_left
  simp only [Act.put, List.setIfInBounds_toArray, List.set_cons_zero, List.set_cons_succ]
  apply dagf_val rfl (by intro W hW H; go_simp <;> rfl)
  simp only [Act.put, List.setIfInBounds_toArray, List.set_cons_zero, List.set_cons_succ]
  apply dagf_val rfl (by intro W hW H; have hq := hW.cell hc1; go_simp <;> rfl)
  simp only [Act.put, List.setIfInBounds_toArray, List.set_cons_zero, List.set_cons_succ]
  refine' dagf_calls (fun v W => FB W w0.heap.size v (textV t)) (FB.res _ _) rfl (by intro W; go_simp <;> rfl) (fun W hW H => (text_any t (by have := HT.out; omega) W).mono (by rintro e w' ⟨v3, rfl, hf3, hx3⟩; exact ⟨v3, rfl, FB.base hf3 hW.size, hf3.fresh, hx3⟩)) (fun v2 => _)
  rotate_left
  simp only [Act.put, List.setIfInBounds_toArray, List.set_cons_zero, List.set_cons_succ]
  refine dagf_end fun W hW H HA => ?_
  have hf1 : FB W w0.heap.size v1 (textV g) := H (2, v1, _) (by repeat (first | exact List.mem_cons_self | refine mem_keep ?_ (by decide) | apply List.mem_cons_of_mem))
  have hf2 : FB W w0.heap.size v2 (textV t) := H (5, v2, _) (by repeat (first | exact List.mem_cons_self | refine mem_keep ?_ (by decide) | apply List.mem_cons_of_mem))
  clear H HA
  have hxw := hx0.trans hW
  have HWS := Lib.hid hW.size
  have k2 := hW.cell hc2
  go_wp2_with (first
    | (at_builtin; refine st_append T.bytes hf1 hf2.view ?_ (by have := HLEN.out; omega) HWS.out; intro v3 w3 hf3 hg3 _
       have hx3 := hW.append hf1 hg3
       have k3 := hx3.cell hc2
       have hf4 := hf3.keep (Ext.alloc w3 (.cells #[bv x] 5))
       have hl := FB.lit1 (B := 0) w3 (Nat.zero_le _) x
       have HX4 := Lib.hid (hx3.trans (Ext.alloc w3 (.cells #[bv x] 5))))
    | (at_builtin; refine st_append T.bytes hf4 hl.view ?_ (by have := HLEN.out; simp only [List.length_append, List.length_singleton]; omega) HX4.out.size; intro v5 w5 hf5 hg5 _
       have HX5 := Lib.hid (HX4.out.append hf4 hg5))
    | ((with_reducible show wpList _ _ _ (Oper.mk _ (Op.convert _ _ _) _ _ _ _ :: _) _ _); refine st_string T.bytes T.u8 T.str hf5.view ?_))
  go_ret
  refine ⟨?_, hx0.trans HX5.out⟩
  rw [List.append_assoc]
  rfl
theorem rec_one (r : Rec) : ∀ u ∈ recCells r, u.oneCell' = true := fun u hu => by
  unfold recCells at hu
  simp only [List.mem_cons, List.not_mem_nil, or_false] at hu
  rcases hu with rfl | rfl | rfl | rfl | rfl | rfl <;> rfl
theorem layC_bad {c : Cm} {time : Int} {dead : Bool} (h : checkC c ≠ 0) : layC c time dead = (rec0, checkC c) := by unfold layC; rw [if_pos h]
theorem layC_late {c : Cm} {time : Int} {dead : Bool} (h : checkC c = 0) (h2 : inI time 0 1099511627776 = false) : layC c time dead = (rec0, 11) := by
  unfold inI at h2
  simp only [Bool.and_eq_false_iff, decide_eq_false_iff_not] at h2
  unfold layC; rw [if_neg (by simp [h]), if_pos (by omega)]
theorem layC_in {c : Cm} {time : Int} {dead : Bool} (h : checkC c = 0) (h2 : inI time 0 1099511627776 = true) : layC c time dead = (⟨0, time, true, keyC c, dead, if dead then [] else putV c.offset⟩, 0) := by
  unfold inI at h2
  simp only [Bool.and_eq_true, decide_eq_true_eq] at h2
  unfold layC; rw [if_neg (by simp [h]), if_neg (by omega)]
set_option maxHeartbeats 1000000 in
theorem gone_any (c : Cm) (time : Int) (w : World) :
    Calls Try.prog 12 #[cmv c, .int .i64 time] w fun e w' => e = .returned (.tuple #[recv (layC c time true).1, .int .i64 (layC c time true).2]) ∧ Ext w w' := by
  have C1 := fun W => check_any c W
  have K1 := fun h W => key_any c h W
  have T1 := fun W => within_any time 0 1099511627776 W
  by_cases h1 : checkC c = 0
  case neg =>
    rw [layC_bad h1]
    have hb : (checkC c != 0) = true := by rw [bne_iff_ne]; exact h1
    generalize checkC c = k at *
    obtain ⟨g, t, i, o⟩ := c
    obtain ⟨oa, ob, hx0, hsz⟩ := objs2 w 33 25 [.string ⟨g.toArray⟩, .string ⟨t.toArray⟩, .int .i64 i, .int .i64 o] (recCells rec0)
    have HSZ := Lib.hid hsz
    clear hsz h1 K1 T1
    go_enter Try.func12, Try.ntmps12
    go_wp2_with (first
      | (go_at_call 17; refine (C1 _).mono ?_; rintro e w1 ⟨rfl, hx1⟩
         have o2 := ob.ext hx1)
      | ((with_reducible show wpList _ _ _ (Oper.mk _ (Op.store _ _ _) _ _ _ _ :: _) _ _); refine st_put (vs := recCells rec0) o2 T.recSize rfl (rec_one _) ?_; intro w2 o3 hg2))
    refine bodyPost_ret (rec_results2 rfl _ _ (w.heap.size + 1) rec0 rfl o3) rfl ?_
    exact ⟨rfl, (hx0.trans hx1).grown hg2 (Nat.le_succ _)⟩
  rw [h1] at C1
  have K2 := K1 h1
  clear K1
  cases h2 : inI time 0 1099511627776 with
  | false =>
    rw [layC_late h1 h2]
    rw [h2] at T1
    obtain ⟨g, t, i, o⟩ := c
    obtain ⟨oa, ob, hx0, hsz⟩ := objs2 w 33 25 [.string ⟨g.toArray⟩, .string ⟨t.toArray⟩, .int .i64 i, .int .i64 o] (recCells rec0)
    have HSZ := Lib.hid hsz
    clear hsz h1 h2
    go_enter Try.func12, Try.ntmps12
    go_wp2_with (first
      | (go_at_call 17; refine (C1 _).mono ?_; rintro e w1 ⟨rfl, hx1⟩
         have o2 := ob.ext hx1)
      | (go_at_call 32; refine (T1 _).mono ?_; rintro e w' ⟨rfl, rfl⟩)
      | ((with_reducible show wpList _ _ _ (Oper.mk _ (Op.store _ _ _) _ _ _ _ :: _) _ _); refine st_put (vs := recCells rec0) o2 T.recSize rfl (rec_one _) ?_; intro w2 o3 hg2))
    refine bodyPost_ret (rec_results2 rfl _ _ (w.heap.size + 1) rec0 rfl o3) rfl ?_
    exact ⟨rfl, (hx0.trans hx1).grown hg2 (Nat.le_succ _)⟩
  | true =>
    rw [layC_in h1 h2]
    rw [h2] at T1
    have HK := Lib.hid K2
    generalize keyC c = key at *
    obtain ⟨g, t, i, o⟩ := c
    obtain ⟨oa, ob, hx0, hsz⟩ := objs2 w 33 25 [.string ⟨g.toArray⟩, .string ⟨t.toArray⟩, .int .i64 i, .int .i64 o] (recCells rec0)
    have a0 := oa.cell (j := 0) rfl
    have a1 := oa.cell (j := 1) rfl
    have a2 := oa.cell (j := 2) rfl
    have a3 := oa.cell (j := 3) rfl
    have HSZ := Lib.hid hsz
    clear hsz h1 h2 oa
    go_enter Try.func12, Try.ntmps12
    go_wp2_with (first
      | (go_at_call 17; refine (C1 _).mono ?_; rintro e w1 ⟨rfl, hx1⟩
         have o2 := ob.ext hx1
         have b0 := hx1.cell a0
         have b1 := hx1.cell a1
         have b2 := hx1.cell a2
         have b3 := hx1.cell a3)
      | (go_at_call 32; refine (T1 _).mono ?_; rintro e w' ⟨rfl, rfl⟩)
      | (go_at_call 33; refine (K2 _).mono ?_; rintro e w3 ⟨rfl, hx3⟩
         have o5 := o2.ext hx3)
      | ((with_reducible show wpList _ _ _ (Oper.mk _ (Op.store _ _ _) _ _ _ _ :: _) _ _); refine st_put (vs := recCells ⟨0, time, true, key, true, []⟩) o5 T.recSize rfl (rec_one _) ?_; intro w2 o3 hg2))
    refine bodyPost_ret (rec_results2 rfl _ _ (w.heap.size + 1) ⟨0, time, true, key, true, []⟩ rfl o3) rfl ?_
    exact ⟨rfl, ((hx0.trans hx1).trans hx3).grown hg2 (Nat.le_succ _)⟩
theorem fb_apart {w0 : World} {k : Nat} (hk : k < w0.heap.size) {l : List UInt8} {i j : Nat} : ∀ v W W', (Ext W W' ∨ i ≠ j ∧ W.grownBy W' (some k)) → FB W w0.heap.size v l → FB W' w0.heap.size v l :=
  fun v W W' hs h => hs.elim (fun hx => h.keep hx) fun hz => h.kept hz.2 (by
    cases hv : v.ownBlock with
    | none => exact .inl rfl
    | some m =>
      refine .inr fun e => ?_
      have := (h.lt m hv).1
      have := Option.some.inj e
      omega)
theorem layC_gone_bad {c : Cm} {time : Int} (h : (layC c time true).2 ≠ 0) : (layC c time true).1 = rec0 ∧ layC c time false = (rec0, (layC c time true).2) := by
  by_cases h1 : checkC c = 0
  · cases h2 : inI time 0 1099511627776 with
    | false => rw [layC_late h1 h2, layC_late h1 h2]; exact ⟨rfl, rfl⟩
    | true => rw [layC_in h1 h2] at h; exact absurd rfl h
  · rw [layC_bad h1, layC_bad h1]; exact ⟨rfl, rfl⟩
theorem layC_gone_ok {c : Cm} {time : Int} (h : (layC c time true).2 = 0) : checkC c = 0 ∧ layC c time true = (⟨0, time, true, keyC c, true, []⟩, 0) ∧ layC c time false = (⟨0, time, true, keyC c, false, putV c.offset⟩, 0) := by
  obtain ⟨h1, h2, h3, h4⟩ := layC_ok h
  refine ⟨h1, h4, ?_⟩
  unfold layC
  rw [if_neg (by simp [h1]), if_neg (by omega)]
  rfl
set_option maxHeartbeats 1000000 in
theorem cput_any (c : Cm) (time : Int) (w : World) :
    Calls Try.prog 10 #[cmv c, .int .i64 time] w fun e w' => e = .returned (.tuple #[recv (layC c time false).1, .int .i64 (layC c time false).2]) ∧ Ext w w' := by
  have G1 := fun W => gone_any c time W
  by_cases h1 : (layC c time true).2 = 0
  case neg =>
    obtain ⟨e1, e2⟩ := layC_gone_bad h1
    rw [e2]
    rw [e1] at G1
    have hb : ((layC c time true).2 == 0) = false := by rw [beq_eq_false_iff_ne]; exact h1
    clear e1 e2 h1
    generalize (layC c time true).2 = k at *
    obtain ⟨g, t, i, o⟩ := c
    obtain ⟨oa, ob, hx0, hsz⟩ := objs2 w 33 25 [.string ⟨g.toArray⟩, .string ⟨t.toArray⟩, .int .i64 i, .int .i64 o] (recCells rec0)
    have HSZ := Lib.hid hsz
    clear hsz
    go_enter Try.func10, Try.ntmps10
    go_wp2_with (first
      | (go_at_call 12; refine (G1 _).mono ?_; rintro e w1 ⟨rfl, hx1⟩
         have o2 := ob.ext hx1
         have hxn := Ext.alloc w1 (.cells #[.int .i64 0, .int .i64 0, .bool false, .string ⟨#[]⟩, .bool false, .string ⟨#[]⟩] 25)
         have on : ObjAt (w1.alloc (.cells #[.int .i64 0, .int .i64 0, .bool false, .string ⟨#[]⟩, .bool false, .string ⟨#[]⟩] 25)) w1.heap.size 25 (recCells rec0) := heap_alloc_new w1 _
         have HX4 := Lib.hid ((hx0.trans hx1).trans hxn)
         have d0 := on.cell (j := 0) rfl
         have d1 := on.cell (j := 1) rfl
         have d2 := on.cell (j := 2) rfl
         have d3 := on.cell (j := 3) rfl
         have d4 := on.cell (j := 4) rfl
         have d5 := on.cell (j := 5) rfl
         have o4 := o2.ext hxn)
      | ((with_reducible show wpList _ _ _ (Oper.mk _ (Op.store _ _ _) _ _ _ _ :: _) _ _); refine st_put (vs := recCells rec0) o4 T.recSize rfl (rec_one _) ?_; intro w5 o5 hg5))
    refine bodyPost_ret (rec_results2 rfl _ _ (w.heap.size + 1) rec0 rfl o5) rfl ?_
    exact ⟨rfl, HX4.out.grown hg5 (Nat.le_succ _)⟩
  obtain ⟨hc, e1, e2⟩ := layC_gone_ok h1
  obtain ⟨-, -, -, -, -, -, k7, k8⟩ := checkC_ok hc
  rw [e2]
  rw [e1] at G1
  clear e1 e2 h1 hc
  generalize keyC c = key at *
  obtain ⟨g, t, i, o⟩ := c
  simp only at *
  have HO1 : Hid (-9223372036854775808 ≤ o) := Lib.hid (by omega)
  have HO2 : Hid (o ≤ 9223372036854775807) := Lib.hid (by omega)
  clear k7 k8
  obtain ⟨oa, ob, hx0, hsz⟩ := objs2 w 33 25 [.string ⟨g.toArray⟩, .string ⟨t.toArray⟩, .int .i64 i, .int .i64 o] (recCells rec0)
  have a3 := oa.cell (j := 3) rfl
  have HSZ := Lib.hid hsz
  clear hsz
  go_enter Try.func10, Try.ntmps10
  go_wp2_with (first
    | (go_at_call 12; refine (G1 _).mono ?_; rintro e w1 ⟨rfl, hx1⟩
       have o2 := ob.ext hx1
       have hxn := Ext.alloc w1 (.cells #[.int .i64 0, .int .i64 time, .bool true, .string ⟨key.toArray⟩, .bool true, .string ⟨#[]⟩] 25)
       have on : ObjAt (w1.alloc (.cells #[.int .i64 0, .int .i64 time, .bool true, .string ⟨key.toArray⟩, .bool true, .string ⟨#[]⟩] 25)) w1.heap.size 25 (recCells ⟨0, time, true, key, true, []⟩) := heap_alloc_new w1 _
       have b3 := (hx1.trans hxn).cell a3
       have o4 := o2.ext hxn))
  obtain ⟨w2, hw2⟩ : ∃ w2, w2 = w1.alloc (.cells #[.int .i64 0, .int .i64 time, .bool true, .string ⟨key.toArray⟩, .bool true, .string ⟨#[]⟩] 25) := ⟨_, rfl⟩
  rw [← hw2] at hxn on b3 o4 ⊢
  clear hw2
  have HK := Lib.hid on.lt
  have HLT := Lib.hid (Nat.lt_of_lt_of_le oa.lt hx1.size)
  have HX4 := Lib.hid ((hx0.trans hx1).trans hxn)
  have gc : ∀ W, w2.grownBy W (some w1.heap.size) → W.cell? ⟨w.heap.size, 3, none⟩ = some (.int .i64 o) := fun W hg => (keeps_grown hg).cell (fun e => Nat.ne_of_lt HLT.out (Option.some.inj e)) b3
  apply wp_region_dagY 5 7 (fun a b => a.grownBy b (some w1.heap.size)) (fun a b => a.grownBy b (some w1.heap.size)) (X := Ext) (by kernel_rfl) (by kernel_rfl) (by kernel_rfl) (by decide) (by decide) (fun _ _ _ => Ext.trans) (fun _ _ _ => World.grownBy.trans) (fun _ _ h => h.grownBy _) (fun _ _ h => h) (Ext.drew1 _)
  simp only [List.take_succ_cons, List.take_zero, List.drop_succ_cons, List.drop_zero]
  apply dagy_val Ext.refl rfl (by intro W hW H; go_simp <;> rfl)
  simp only [Act.put, List.setIfInBounds_toArray, List.set_cons_zero, List.set_cons_succ]
  apply dagy_val Ext.refl rfl (by intro W hW H; have hq := gc W hW.1; go_simp <;> rfl)
  simp only [Act.put, List.setIfInBounds_toArray, List.set_cons_zero, List.set_cons_succ]
  refine' dagy_calls (fun v W => FB W w2.heap.size v (putV o)) (fb_apart HK.out) rfl (by intro W; go_simp <;> rfl) (fun W hW H => (put_any o HO1.out HO2.out W).mono (by rintro e w' ⟨v3, rfl, hf3, hx3⟩; exact ⟨v3, rfl, hf3.base hW.1.size, (by unfold StepY; rw [if_neg (by decide)]; exact hx3)⟩)) (fun v1 => _)
  rotate_left
  simp only [Act.put, List.setIfInBounds_toArray, List.set_cons_zero, List.set_cons_succ]
  refine' dagy_val Ext.refl rfl (fun W hW H => run_op_bytes_string T.bytes T.u8 T.str rfl rfl (v := v1) (l := putV o) (show FB W w2.heap.size v1 (putV o) from H 2 (by kernel_rfl)).view) _
  rotate_left
  simp only [Act.put, List.setIfInBounds_toArray, List.set_cons_zero, List.set_cons_succ]
  apply dagy_val Ext.refl rfl (by intro W hW H; go_simp <;> rfl)
  simp only [Act.put, List.setIfInBounds_toArray, List.set_cons_zero, List.set_cons_succ]
  refine' dagy_store (fun W => ObjAt W w1.heap.size 25 (recCells ⟨0, time, true, key, false, []⟩) ∧ w2.grownBy W (some w1.heap.size)) (fun W W' hs hh => hs.elim (fun hx => ⟨hh.1.ext hx, hh.2.trans (hx.grownBy _)⟩) fun hz => absurd rfl hz.1) rfl (fun W hW H => by have hX := hW.2 (by kernel_rfl); have o5 := on.ext hX; have z0 := o5.cell (j := 4) rfl; have z1 := o5.free 4; exact ⟨_, (by go_simp <;> rfl), (by unfold StepY; rw [if_pos rfl]; exact grown_set _ ⟨w1.heap.size, 4, none⟩ _), o5.store 4 (.bool false), (hX.grownBy _).trans (grown_set _ ⟨w1.heap.size, 4, none⟩ _)⟩) (fun u => _)
  rotate_left
  simp only [Act.put]
  apply dagy_val Ext.refl rfl (by intro W hW H; go_simp <;> rfl)
  simp only [Act.put, List.setIfInBounds_toArray, List.set_cons_zero, List.set_cons_succ]
  refine dagy_end fun W H => ?_
  obtain ⟨o6, hg6⟩ : ObjAt W w1.heap.size 25 (recCells ⟨0, time, true, key, false, []⟩) ∧ w2.grownBy W (some w1.heap.size) := H 5
  clear H gc
  have z5 := o6.cell (j := 5) rfl
  have y5 := o6.free 5
  have o7 := o6.store 5 (.string ⟨(putV o).toArray⟩)
  have d0 := o7.cell (j := 0) rfl
  have d1 := o7.cell (j := 1) rfl
  have d2 := o7.cell (j := 2) rfl
  have d3 := o7.cell (j := 3) rfl
  have d4 := o7.cell (j := 4) rfl
  have d5 := o7.cell (j := 5) rfl
  have hgA := hg6.trans (grown_set W ⟨w1.heap.size, 5, none⟩ (.string ⟨(putV o).toArray⟩))
  have o8 := o4.kept hgA (by have h1 := HSZ.out; have h2 := hx1.size; have h3 := o2.lt; intro e; have := Option.some.inj e; omega)
  go_wp2_with ((with_reducible show wpList _ _ _ (Oper.mk _ (Op.store _ _ _) _ _ _ _ :: _) _ _); refine st_put (vs := recCells ⟨0, time, true, key, false, putV o⟩) o8 T.recSize rfl (rec_one _) ?_; intro w5 o9 hg9)
  refine bodyPost_ret (rec_results2 rfl _ _ (w.heap.size + 1) ⟨0, time, true, key, false, putV o⟩ rfl o9) rfl ?_
  exact ⟨rfl, (HX4.out.grown hgA (Nat.le_of_lt HLT.out)).grown hg9 (Nat.le_succ _)⟩
end Go.Proofs.Ytdklpenpmeplfaa
