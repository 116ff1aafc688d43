/- CommitBack: a commit is got from its record, and found behind it; taken away it is found no more. -/
import Derived.Test.YtdklpenpmeplfaaLaw21
namespace Go.Proofs.Ytdklpenpmeplfaa
open Go.RowKit

theorem layC_err {c : Cm} {time : Int} (h : (layC c time false).2 ≠ 0) : (layC c time false).2 = checkC c ∨ (layC c time false).2 = 11 := by
  unfold layC at *
  by_cases h1 : checkC c = 0
  · rw [if_neg (by simp [h1])] at h ⊢
    split
    · exact .inr rfl
    · rename_i h2; rw [if_neg h2] at h; exact absurd rfl h
  · rw [if_pos h1]; exact .inl rfl
theorem keyC_length {c : Cm} (h : checkC c = 0) : (keyC c).length ≤ 200 := by
  obtain ⟨h1, h2, h3, h4, -⟩ := checkC_ok h
  have p1 := (vb_length (zig (c.group.length : Int))).2
  have p2 := (vb_length (zig (c.topic.length : Int))).2
  unfold keyC textV putV
  simp only [List.length_append, List.length_singleton]
  omega
theorem putV_short (n : Int) : (putV n).length ≤ 10 := (vb_length (zig n)).2
theorem isC_self (g s : List UInt8) (i o : Int) : isC ⟨g, s, i, 0⟩ ⟨g, s, i, o⟩ = true := by
  unfold isC
  rw [show ordC ⟨g, s, i, o⟩ ⟨g, s, i, 0⟩ = 0 from ordC_zero.2 ⟨rfl, rfl, rfl⟩]
  rfl
theorem find_back (g s : List UInt8) (i o : Int) : findC [⟨g, s, i, o⟩] ⟨g, s, i, 0⟩ = (o, true) := by
  unfold findC
  rw [find_found (j := 0) (by simp) (isC_self g s i o) (fun t _ ht => absurd ht (Nat.not_lt_zero t))]
  rfl
theorem play_back {c : Cm} (h : checkC c = 0) (d t : Int) : playB [] [⟨d, t, true, keyC c, false, putV c.offset⟩] = [c] := by
  show playR [] _ = [c]
  rw [playR_put (get_put h d t) rfl]
  rfl
theorem play_gone {g s : List UInt8} {i o : Int} (h : checkC ⟨g, s, i, o⟩ = 0) (d t : Int) : playB [⟨g, s, i, o⟩] [⟨d, t, true, keyC ⟨g, s, i, o⟩, true, []⟩] = [] := by
  show playR [⟨g, s, i, o⟩] _ = []
  rw [playR_dead (get_gone h d t) rfl]
  unfold delC
  rw [find_found (j := 0) (by simp) (isC_self g s i o) (fun t _ ht => absurd ht (Nat.not_lt_zero t))]
  rfl
theorem run_eqlCm1 {o : Oper} {a : Act} {x y : Operand} {ty : TypeId} (ho : o.op = .binOp .eql 33 x y ty) {c : Cm} (hx : a.eval x = cmv c) (hy : a.eval y = cmv c) (W : World) :
    (execOp a.eval o).run Try.prog W = .ok (.value (.bool true)) W := by
  rw [run_eqlCm ho hx hy, eqC_refl]
theorem playL_any (l l' : List Cm) (v : Value) (d t : Int) (k : Bool) (key : List UInt8) (dead : Bool) (val : List UInt8) (r0 : World) (hv : CmV r0 v l) (hl : l.length ≤ 900) (hk : key.length ≤ 1000) (hva : val.length ≤ 1000) (hp : playB l [⟨d, t, k, key, dead, val⟩] = l') :
    Calls Try.prog 21 #[v, .agg #[.int .i64 0, .int .i64 0, .int .i64 0, .int .i64 0, .int .i64 0, .slice (some ⟨r0.heap.size, 0, none⟩) 1 1]] (r0.alloc (.cells #[.int .i64 d, .int .i64 t, .bool k, .string ⟨key.toArray⟩, .bool dead, .string ⟨val.toArray⟩] 25)) fun e w' => ∃ p c, e = .returned (.slice p l'.length c) ∧ CmV w' (.slice p l'.length c) l' ∧ Ext r0 w' := by
  have hx := Ext.alloc r0 (.cells #[.int .i64 d, .int .i64 t, .bool k, .string ⟨key.toArray⟩, .bool dead, .string ⟨val.toArray⟩] 25)
  refine (play1w v l 0 0 0 0 0 ⟨d, t, k, key, dead, val⟩ _ _ (hv.ext hx) (rec_lit1 ⟨d, t, k, key, dead, val⟩ r0 (by simp only [maxLen]; omega) (by simp only [maxLen]; omega)) hl hk hva).mono ?_
  rw [hp]
  rintro e w' ⟨p, c, rfl, _, _, h, hx2⟩
  exact ⟨p, c, rfl, h, hx.trans hx2⟩
set_option maxRecDepth 20000 in
set_option maxHeartbeats 2000000 in
theorem commitBack_walk (c : Cm) (time delta : Int) (w : World) (_ : -9223372036854775808 ≤ time ∧ time ≤ 9223372036854775807) (_ : -9223372036854775808 ≤ delta ∧ delta ≤ 9223372036854775807) :
    Calls Try.prog 5 #[cmv c, .int .i64 time, .int .i64 delta] w fun e w' => e = .returned (.bool true) ∧ Below w.heap.size w w' := by
  have hx0 := Ext.alloc w (.cells #[.string ⟨c.group.toArray⟩, .string ⟨c.topic.toArray⟩, .int .i64 c.index, .int .i64 c.offset] 23)
  have oc : ObjAt (w.alloc (.cells #[.string ⟨c.group.toArray⟩, .string ⟨c.topic.toArray⟩, .int .i64 c.index, .int .i64 c.offset] 23)) w.heap.size 23 (cmCells c) := heap_alloc_new w _
  obtain ⟨w0, hw0⟩ : ∃ w0, w0 = w.alloc (.cells #[.string ⟨c.group.toArray⟩, .string ⟨c.topic.toArray⟩, .int .i64 c.index, .int .i64 c.offset] 23) := ⟨_, rfl⟩
  have L1 := rlightC_any _ [c] _ (cm_lit1 c 23 w0)
  have hxl := Ext.alloc w0 (.cells #[.string ⟨c.group.toArray⟩, .string ⟨c.topic.toArray⟩, .int .i64 c.index, .int .i64 c.offset] 23)
  rw [hw0] at L1 hxl
  simp only [World.size_alloc] at L1
  have HXL := Lib.hid hxl
  have HX0 := Lib.hid hx0
  have HOC := Lib.hid (oc.ext hxl)
  clear hw0 hx0 oc hxl
  cases hl1 : lightC [c] with
  | false =>
    rw [hl1] at L1
    clear hl1
    go_enter Try.func5, Try.ntmps5
    go_wp2_with (first
      | (go_at_call 7; refine L1.mono ?_; rintro e w1 ⟨rfl, hx1⟩)
      | (go_at_call 9; refine (awake_any _).mono ?_; rintro e w3 ⟨rfl, hx3⟩))
    go_ret
    exact ⟨rfl, ((HX0.out.trans HXL.out).trans hx1).trans hx3⟩
  | true =>
  rw [hl1] at L1
  clear hl1
  have P1 := fun W => cput_any c time W
  by_cases hE : (layC c time false).2 = 0
  case neg =>
    have hb : ((layC c time false).2 != 0) = true := by rw [bne_iff_ne]; exact hE
    have C1 := fun W => check_any c W
    have herr := layC_err hE
    clear hE
    generalize (layC c time false).1 = R1 at *
    generalize (layC c time false).2 = E1 at *
    generalize checkC c = Z at *
    have hz : (Z == E1) = true ∨ ((Z == E1) = false ∧ (E1 == 11) = true) := by
      cases h : (Z == E1) with
      | true => exact .inl rfl
      | false =>
        refine .inr ⟨rfl, ?_⟩
        rw [beq_eq_false_iff_ne] at h
        exact beq_iff_eq.2 (herr.resolve_left fun e => h e.symm)
    clear herr
    rcases hz with hz | ⟨hz, hz2⟩
    all_goals
      go_enter Try.func5, Try.ntmps5
      go_wp2_with (first
        | (go_at_call 7; refine L1.mono ?_; rintro e w1 ⟨rfl, hx1⟩
           have oc1 := HOC.out.ext hx1
           have a0 := oc1.cell (j := 0) rfl
           have a1 := oc1.cell (j := 1) rfl
           have a2 := oc1.cell (j := 2) rfl
           have a3 := oc1.cell (j := 3) rfl
           have hxx := Ext.alloc w1 (.cells #[.string ⟨c.group.toArray⟩, .string ⟨c.topic.toArray⟩, .int .i64 c.index, .int .i64 c.offset] 33)
           have ox : ObjAt (w1.alloc (.cells #[.string ⟨c.group.toArray⟩, .string ⟨c.topic.toArray⟩, .int .i64 c.index, .int .i64 c.offset] 33)) w1.heap.size 33 (cmCells c) := heap_alloc_new w1 _)
        | (go_at_call 10; refine (P1 _).mono ?_; rintro e w2 ⟨rfl, hx2⟩
           have hxr := hx2.trans (Ext.alloc w2 (.cells #[.int .i64 R1.delta, .int .i64 R1.time, .bool R1.keyed, .string ⟨R1.key.toArray⟩, .bool R1.dead, .string ⟨R1.value.toArray⟩] 25))
           have ox2 := ox.ext hxr
           have b0 := ox2.cell (j := 0) rfl
           have b1 := ox2.cell (j := 1) rfl
           have b2 := ox2.cell (j := 2) rfl
           have b3 := ox2.cell (j := 3) rfl)
        | (go_at_call 17; refine (C1 _).mono ?_; rintro e w3 ⟨rfl, hx3⟩)
        | (go_at_call 9; refine (awake_any _).mono ?_; rintro e w4 ⟨rfl, hx4⟩))
      go_ret
      exact ⟨rfl, ((((HX0.out.trans HXL.out).trans hx1).trans (hxx.trans hxr)).trans hx3).trans hx4⟩
  obtain ⟨hc, ht0, ht1, e1⟩ := layC_ok hE
  simp only [Bool.false_eq_true, if_false] at e1
  rw [e1] at P1
  have G1 := fun W => gone_any c time W
  rw [layC_fine hc (by omega) (by omega)] at G1
  simp only [if_true] at G1
  have K1 := fun W => cget_any ⟨delta, time, true, keyC c, false, putV c.offset⟩ W (by have := keyC_length hc; show (keyC c).length ≤ 1000; omega) (by have := putV_short c.offset; show (putV c.offset).length ≤ 1000; omega)
  rw [get_put hc] at K1
  obtain ⟨g, s, i, o⟩ := c
  simp only at *
  have PL1 := fun r0 => playL_any [] [⟨g, s, i, o⟩] (.slice none 0 0) delta time true (keyC ⟨g, s, i, o⟩) false (putV o) r0 (SRow.nil _ _) (by simp) (by have := keyC_length hc; omega) (by have := putV_short o; omega) (play_back hc delta time)
  have PL2 := fun v r0 h => playL_any [⟨g, s, i, o⟩] [] v 0 time true (keyC ⟨g, s, i, o⟩) true [] r0 h (by simp) (by have := keyC_length hc; omega) (by simp) (play_gone hc 0 time)
  have F1 := fun v W h => cfind_any v [⟨g, s, i, o⟩] ⟨g, s, i, 0⟩ W h rfl
  rw [find_back] at F1
  have F2 := fun v W h => cfind_any v [] ⟨g, s, i, 0⟩ W h rfl
  simp only [findC, List.findIdx?_nil, List.length_nil, List.length_singleton] at F1 F2 PL1 PL2
  generalize keyC ⟨g, s, i, o⟩ = key at *
  generalize putV o = val at *
  clear hc ht0 ht1 e1 hE
  have ko : (o == o) = true := by simp
  go_enter Try.func5, Try.ntmps5
  go_wp2_with (first
    | (go_at_call 7; refine L1.mono ?_; rintro e w1 ⟨rfl, hx1⟩
       have oc1 := HOC.out.ext hx1
       have a0 := oc1.cell (j := 0) rfl
       have a1 := oc1.cell (j := 1) rfl
       have a2 := oc1.cell (j := 2) rfl
       have a3 := oc1.cell (j := 3) rfl
       have hxx := Ext.alloc w1 (.cells #[.string ⟨g.toArray⟩, .string ⟨s.toArray⟩, .int .i64 i, .int .i64 o] 33)
       have ox : ObjAt (w1.alloc (.cells #[.string ⟨g.toArray⟩, .string ⟨s.toArray⟩, .int .i64 i, .int .i64 o] 33)) w1.heap.size 33 (cmCells ⟨g, s, i, o⟩) := heap_alloc_new w1 _)
    | (go_at_call 10; refine (P1 _).mono ?_; rintro e w2 ⟨rfl, hx2⟩
       have hxr := hx2.trans (Ext.alloc w2 (.cells #[.int .i64 delta, .int .i64 time, .bool true, .string ⟨key.toArray⟩, .bool false, .string ⟨val.toArray⟩] 25))
       have or2 : ObjAt (w2.alloc (.cells #[.int .i64 delta, .int .i64 time, .bool true, .string ⟨key.toArray⟩, .bool false, .string ⟨val.toArray⟩] 25)) w2.heap.size 25 (recCells ⟨delta, time, true, key, false, val⟩) := heap_alloc_new w2 _
       have ox2 := ox.ext hxr
       have oc2 := oc1.ext (hxx.trans hxr)
       have HX2 := Lib.hid (((HX0.out.trans HXL.out).trans hx1).trans (hxx.trans hxr))
       have r0 : _ = some (Value.int .i64 delta) := or2.cell (j := 0) rfl
       have r1 : _ = some (Value.int .i64 time) := or2.cell (j := 1) rfl
       have r2 : _ = some (Value.bool true) := or2.cell (j := 2) rfl
       have r3 : _ = some (Value.string ⟨key.toArray⟩) := or2.cell (j := 3) rfl
       have r4 : _ = some (Value.bool false) := or2.cell (j := 4) rfl
       have r5 : _ = some (Value.string ⟨val.toArray⟩) := or2.cell (j := 5) rfl
       have hqq := or2)
    | (go_at_call 14; refine (K1 _).mono ?_; rintro e w3 ⟨rfl, hx3⟩
       have hxy := hx3.trans (Ext.alloc w3 (.cells #[.string ⟨g.toArray⟩, .string ⟨s.toArray⟩, .int .i64 i, .int .i64 o] 33))
       have oy : ObjAt (w3.alloc (.cells #[.string ⟨g.toArray⟩, .string ⟨s.toArray⟩, .int .i64 i, .int .i64 o] 33)) w3.heap.size 33 (cmCells ⟨g, s, i, o⟩) := heap_alloc_new w3 _
       have or3 := or2.ext hxy
       have s0 : _ = some (Value.int .i64 delta) := or3.cell (j := 0) rfl
       have s1 : _ = some (Value.int .i64 time) := or3.cell (j := 1) rfl
       have s2 : _ = some (Value.bool true) := or3.cell (j := 2) rfl
       have s3 : _ = some (Value.string ⟨key.toArray⟩) := or3.cell (j := 3) rfl
       have s4 : _ = some (Value.bool false) := or3.cell (j := 4) rfl
       have s5 : _ = some (Value.string ⟨val.toArray⟩) := or3.cell (j := 5) rfl
       have PL := PL1 (w3.alloc (.cells #[.string ⟨g.toArray⟩, .string ⟨s.toArray⟩, .int .i64 i, .int .i64 o] 33))
       simp only [World.size_alloc] at PL)
    | (go_at_call 12; refine (G1 _).mono ?_; rintro e w6 ⟨rfl, hx6⟩
       have hxg := Ext.alloc w6 (.cells #[.int .i64 0, .int .i64 time, .bool true, .string ⟨key.toArray⟩, .bool true, .string ⟨#[]⟩] 25)
       have og : ObjAt (w6.alloc (.cells #[.int .i64 0, .int .i64 time, .bool true, .string ⟨key.toArray⟩, .bool true, .string ⟨#[]⟩] 25)) w6.heap.size 25 (recCells ⟨0, time, true, key, true, []⟩) := heap_alloc_new w6 _
       have g0 : _ = some (Value.int .i64 0) := og.cell (j := 0) rfl
       have g1 : _ = some (Value.int .i64 time) := og.cell (j := 1) rfl
       have g2 : _ = some (Value.bool true) := og.cell (j := 2) rfl
       have g3 : _ = some (Value.string ⟨key.toArray⟩) := og.cell (j := 3) rfl
       have g4 : _ = some (Value.bool true) := og.cell (j := 4) rfl
       have g5 : _ = some (Value.string ⟨#[]⟩) := og.cell (j := 5) rfl
       have PM := PL2 (.slice p4 1 c4) (w6.alloc (.cells #[.int .i64 0, .int .i64 time, .bool true, .string ⟨key.toArray⟩, .bool true, .string ⟨#[]⟩] 25)) (hv4.ext ((hx5.trans hx6).trans hxg))
       simp only [World.size_alloc] at PM
       have HX6 := Lib.hid (((HX5.out).trans hx6).trans hxg)
       have HS6 := Lib.hid (hx6.trans hxg))
    | (go_at_call 21; have hq := hx6; refine PM.mono ?_; rintro e w7 ⟨p7, c7, rfl, hv7, hx7⟩
       have oc7 := oc4.ext (hx5.trans (HS6.out.trans hx7))
       have u0 := oc7.cell (j := 0) rfl
       have u1 := oc7.cell (j := 1) rfl
       have u2 := oc7.cell (j := 2) rfl
       have hvn := hv7)
    | (go_at_call 21; refine PL.mono ?_; rintro e w4 ⟨p4, c4, rfl, hv4, hx4⟩
       have HX4 := Lib.hid ((HX2.out.trans hxy).trans hx4)
       have oc4 := oc2.ext (hxy.trans hx4)
       have t0 := oc4.cell (j := 0) rfl
       have t1 := oc4.cell (j := 1) rfl
       have t2 := oc4.cell (j := 2) rfl)
    | (go_at_call 22; have hq := hx7; refine (F2 _ _ hvn).mono ?_; rintro e w8 ⟨rfl, hx8⟩
       have hs8 := hx5.trans ((HS6.out.trans hx7).trans hx8)
       have oc8 := oc4.ext hs8
       have oy8 := oy.ext (hx4.trans hs8)
       have ox8 := ox2.ext (hxy.trans (hx4.trans hs8))
       have m3 := oc8.cell (j := 3) rfl
       have y0 := oy8.cell (j := 0) rfl
       have y1 := oy8.cell (j := 1) rfl
       have y2 := oy8.cell (j := 2) rfl
       have y3 := oy8.cell (j := 3) rfl
       have x0 := ox8.cell (j := 0) rfl
       have x1 := ox8.cell (j := 1) rfl
       have x2 := ox8.cell (j := 2) rfl
       have x3 := ox8.cell (j := 3) rfl
       clear hs8)
    | (go_at_call 22; refine (F1 _ _ hv4).mono ?_; rintro e w5 ⟨rfl, hx5⟩
       have HX5 := Lib.hid (HX4.out.trans hx5)
       have ox5 := ox2.ext (hxy.trans (hx4.trans hx5))
       have n0 := ox5.cell (j := 0) rfl
       have n1 := ox5.cell (j := 1) rfl
       have n2 := ox5.cell (j := 2) rfl
       have n3 := ox5.cell (j := 3) rfl)
    | ((with_reducible show wpList _ _ _ (Oper.mk _ (Op.binOp BinOp.eql 33 _ _ _) _ _ _ _ :: _) _ _); refine wpList_run rfl (run_eqlCm1 rfl (c := ⟨g, s, i, o⟩) rfl rfl _) ?_)
    | (go_at_call 9; refine (awake_any _).mono ?_; rintro e w9 ⟨rfl, hx9⟩))
  go_ret
  exact ⟨rfl, (((HX6.out.trans hx7).trans hx8).trans hx9)⟩
end Go.Proofs.Ytdklpenpmeplfaa
