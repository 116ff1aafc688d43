/- What compact's functions compute of batches of one record each: Last (a map), what stays, Clean. -/
import Derived.Test.YtdklpenpmeplfaaCmC
import Derived.Test.YtdklpenpmeplfaaCmR
import Derived.Test.YtdklpenpmeplfaaStrB
import Derived.Deep.LoopGhost
import Derived.Maps.OwnOps
import Derived.Maps.OwnSet
import Derived.StringKeys
namespace Go.Proofs.Ytdklpenpmeplfaa
open Go.RowKit

/-! ### A map of texts to numbers -/
theorem T.strKey : Go.Maps.Keyed Try.prog 9 := Go.Maps.string_keyed Try.underlying9
theorem T.zeroI (w : World) : (zeroValue 3).run Try.prog w = .ok (.int .i64 0) w := by kernel_rfl
def LMap (w : World) (b n : Nat) (f : List UInt8 → Option Int) : Prop :=
  ∃ D : DataW Unit, w.ownsMap Try.prog 9 (plainElem Try.prog 3) b n D ∧ ∀ k : List UInt8, Maps.has D (.string k) = (f k).isSome ∧ D.atKey (.string k) (.lit (.int .i64 0)) = .lit (.int .i64 ((f k).getD 0))
theorem LMap.made (w : World) : LMap (w.alloc (.map #[] 0)) w.heap.size 0 (fun _ => none) :=
  ⟨_, World.ownsMap_made _ _ _ _, fun k => ⟨rfl, Maps.atKey_of_not_has rfl _⟩⟩
theorem LMap.ext {w w' : World} {b n : Nat} {f : List UInt8 → Option Int} (h : LMap w b n f) (hx : Ext w w') : LMap w' b n f := by
  obtain ⟨D, h1, h2⟩ := h
  exact ⟨D, h1.kept (hx.grownBy none) (by simp), h2⟩
theorem LMap.lt {w : World} {b n : Nat} {f : List UInt8 → Option Int} (h : LMap w b n f) : b < w.heap.size := by obtain ⟨D, h1, _⟩ := h; exact h1.lt
theorem text_key {k : List UInt8} (hk : k.length ≤ maxLen) : keyOf Try.prog 9 (.string ⟨k.toArray⟩) = some (.string k) := by
  have := Go.WideMaps.keyOf_string_mk (P := Try.prog) (k := 9) Try.underlying9 (s := ⟨k.toArray⟩) (by show k.toArray.size ≤ _; simpa using hk)
  simpa using this
theorem LMap.look {w : World} {b n : Nat} {f : List UInt8 → Option Int} (h : LMap w b n f) {k : List UInt8} (hk : k.length ≤ maxLen) :
    (Instr.lookup 92 (.map (some b)) (.string ⟨k.toArray⟩) false).run Try.prog w = .ok (.int .i64 ((f k).getD 0)) w := by
  obtain ⟨D, h1, h2⟩ := h
  obtain ⟨c, hr, hat, _⟩ := h1.lookup_int T.strKey Try.underlying92 Try.underlying3 (T.zeroI w) (text_key hk)
  rw [(h2 k).2] at hat
  have e : (f k).getD 0 = c := (Lit.int.inj (DataW.lit.inj hat)).2
  rw [e]; exact hr
theorem LMap.look2 {w : World} {b n : Nat} {f : List UInt8 → Option Int} (h : LMap w b n f) {k : List UInt8} (hk : k.length ≤ maxLen) :
    (Instr.lookup 92 (.map (some b)) (.string ⟨k.toArray⟩) true).run Try.prog w = .ok (.tuple #[.int .i64 ((f k).getD 0), .bool (f k).isSome]) w := by
  obtain ⟨D, h1, h2⟩ := h
  obtain ⟨v, ps, hr, hv⟩ := h1.look_ok T.strKey Try.underlying92 (T.zeroI w) (plainElem_int Try.underlying3 (by decide)) (text_key hk)
  obtain ⟨c, rfl, hc, _⟩ := plainElem_int_inv Try.underlying3 hv
  have hc1 := congrArg Prod.fst hc
  simp only [(h2 k).2] at hc1
  have e : (f k).getD 0 = c := (Lit.int.inj (DataW.lit.inj hc1)).2
  rw [e, ← (h2 k).1]; exact hr
theorem run_op_lookup {P : Program} {o : Oper} {a : Act} {m x : Operand} {t : TypeId} {c : Bool} (ho : o.op = Op.lookup t m x c) {vm vx r : Value} {w : World} (hm : a.eval m = vm) (hx : a.eval x = vx) (h : (Instr.lookup t vm vx c).run P w = .ok r w) : (execOp a.eval o).run P w = .ok (.value r) w := by
  simp [execOp, ho, hm, hx, h, Result.andThen]
theorem LMap.step {w' : World} {b n : Nat} {f : List UInt8 → Option Int} {D : DataW Unit} {k : List UInt8} {v : Int} (h2 : ∀ k : List UInt8, Maps.has D (.string k) = (f k).isSome ∧ D.atKey (.string k) (.lit (.int .i64 0)) = .lit (.int .i64 ((f k).getD 0))) (hD : Maps.IsMap D)
    (h : w'.ownsMap Try.prog 9 (plainElem Try.prog 3) b (n + 1) (D.put (.string k) (.lit (.int .i64 v)))) : LMap w' b (n + 1) (fun k' => if k' = k then some v else f k') := by
  refine ⟨_, h, fun k' => ?_⟩
  simp only
  by_cases e : k' = k
  · subst e
    rw [if_pos rfl]
    exact ⟨Maps.has_put_same (k := .string k') hD trivial _, Maps.atKey_put_same (k := .string k') hD trivial _ _⟩
  · rw [if_neg e]
    have hne : (Lit.string k') ≠ (Lit.string k) := fun h => e (by injection h)
    rw [Maps.has_put_other hne, Maps.atKey_put_other hne]
    exact h2 k'
theorem oneB_at {w : World} {p : Option Addr} {n c : Nat} {rs : List Rec} (h : BatV w (.slice p n c) (mkB rs)) {i : Nat} (hi : i < rs.length) :
    ∃ b o q d, p = some ⟨b, o, none⟩ ∧ BatCells w b o i (oneB rs i) (.slice q 1 d) ∧ RecV w (.slice q 1 d) [rs.getD i rec0] ∧ 1 ≤ d ∧ d ≤ maxLen := by
  have hl : i < (mkB rs).length := by rw [mkB_length]; exact hi
  obtain ⟨b, o, cs, e, _, hc, hu⟩ := h.cells (by decide) hl
  obtain ⟨v, e2, h1⟩ := hu.now
  rw [mkB_at rs hl] at e2 h1
  obtain ⟨q, d, e3, h2, h3⟩ := h1.slice
  subst e3
  subst e2
  exact ⟨b, o, q, d, e, ⟨hc 0 _ rfl, hc 1 _ rfl, hc 2 _ rfl, hc 3 _ rfl, hc 4 _ rfl, hc 5 _ rfl⟩, h1, h2, h3⟩
theorem Good.bound {rs : List Rec} {j : Nat} {f : List UInt8 → Option Int} (h : Good rs j f) {k : List UInt8} {v : Int} (hv : f k = some v) : v < (j : Int) := by
  obtain ⟨i, rfl, h2, _⟩ := h.2 k v hv
  omega
set_option maxRecDepth 20000 in
set_option maxHeartbeats 1000000 in
theorem last_any (v : Value) (rs : List Rec) (w : World) (h : BatV w v (mkB rs)) (hl : rs.length ≤ 1000) (hf : ∀ r ∈ rs, r.delta = 0 ∧ r.keyed = true ∧ r.key.length ≤ 1000) :
    Calls Try.prog 51 #[v] w fun e w' => ∃ f, e = .returned (.map (some w.heap.size)) ∧ LMap w' w.heap.size rs.length f ∧ Good rs rs.length f ∧ Ext w w' := by
  obtain ⟨p, c, e0, hn, hc⟩ := h.slice
  rw [mkB_length] at e0 hn
  subst e0
  unfold maxLen at hc
  have hmm := @run_makeMap Try.prog
  have HL := Lib.hid hl
  have HF := Lib.hid hf
  have HM := Lib.hid (LMap.made w)
  have HX := Lib.hid (Ext.alloc w (.map #[] 0))
  clear hl hf
  go_enter Try.func51, Try.ntmps51
  go_wp2_with fail
  go_loopg [14] (rs.length) (fun k s14 wr => ∃ (j : Nat) (f : List UInt8 → Option Int), s14 = .int .i64 j ∧ j ≤ rs.length ∧ k = rs.length - j ∧ Hid (LMap wr w.heap.size j f) ∧ Hid (Good rs j f) ∧ Hid (Ext w wr))
  case atStart => exact ⟨0, _, rfl, Nat.zero_le _, rfl, HM, Lib.hid (Good.zero rs), HX⟩
  case round =>
    obtain ⟨j, f, rfl, hj, hk, HM, HG, HX⟩ := hrel
    obtain ⟨wo, hwo⟩ : ∃ wo, wo = wr := ⟨_, rfl⟩
    subst hwo
    by_cases hlt : j < rs.length
    case neg =>
      have hje : j = rs.length := by omega
      subst hje
      have hi : ¬ (rs.length : Int) < (rs.length : Int) := by omega
      clear hlt
      go_wp2_with fail
      go_ret
      exact ⟨rfl, f, HM.out, HG.out, HX.out⟩
    have hi : (j : Int) < (rs.length : Int) := by omega
    obtain ⟨b, o, q, d, rfl, ⟨m0, m1, m2, m3, m4, m5⟩, hr1, h1d, hdm⟩ := oneB_at (h.ext HX.out) hlt
    unfold maxLen at hdm
    have hfr := HF.out (rs.getD j rec0) (by rw [getD_at hlt]; exact List.getElem_mem hlt)
    have hgs := HG.out.step
    unfold oneB at m0 m1 m2 m3 m4
    generalize rs.getD j rec0 = r at *
    obtain ⟨rd, rt, rk, key, dead, val⟩ := r
    simp only at hfr m0 m1 m2 m3 m4
    obtain ⟨rfl, rfl, hkl⟩ := hfr
    obtain ⟨bb, oo, rfl, ⟨n0, n1, n2, n3, n4, n5⟩, _, _⟩ := rec_at hr1 (j := 0) (by simp)
    simp only [List.getElem_cons_zero, Nat.zero_mul, Nat.add_zero] at n0 n1 n2 n3 n4 n5
    have HKL := Lib.hid hkl
    have HGS := Lib.hid hgs
    have hxa := Ext.alloc wo (.cells #[.int .i64 (j : Int), .int .i64 1, .int .i64 0, .int .i64 0, .int .i64 0, .slice (some ⟨bb, oo, none⟩) 1 d] 46)
    have oa : ObjAt (wo.alloc (.cells #[.int .i64 (j : Int), .int .i64 1, .int .i64 0, .int .i64 0, .int .i64 0, .slice (some ⟨bb, oo, none⟩) 1 d] 46)) wo.heap.size 46 [.int .i64 (j : Int), .int .i64 1, .int .i64 0, .int .i64 0, .int .i64 0, .slice (some ⟨bb, oo, none⟩) 1 d] := heap_alloc_new wo _
    have hxb := Ext.alloc (wo.alloc (.cells #[.int .i64 (j : Int), .int .i64 1, .int .i64 0, .int .i64 0, .int .i64 0, .slice (some ⟨bb, oo, none⟩) 1 d] 46)) (.cells #[.int .i64 0, .int .i64 rt, .bool true, .string ⟨key.toArray⟩, .bool dead, .string ⟨val.toArray⟩] 25)
    have ob : ObjAt ((wo.alloc (.cells #[.int .i64 (j : Int), .int .i64 1, .int .i64 0, .int .i64 0, .int .i64 0, .slice (some ⟨bb, oo, none⟩) 1 d] 46)).alloc (.cells #[.int .i64 0, .int .i64 rt, .bool true, .string ⟨key.toArray⟩, .bool dead, .string ⟨val.toArray⟩] 25)) (wo.alloc (.cells #[.int .i64 (j : Int), .int .i64 1, .int .i64 0, .int .i64 0, .int .i64 0, .slice (some ⟨bb, oo, none⟩) 1 d] 46)).heap.size 25 [.int .i64 0, .int .i64 rt, .bool true, .string ⟨key.toArray⟩, .bool dead, .string ⟨val.toArray⟩] := heap_alloc_new _ _
    have oa2 := oa.ext hxb
    simp only [World.size_alloc] at ob
    have a0 := oa2.cell (j := 0) rfl
    have a5 := oa.cell (j := 5) rfl
    have p0 := hxa.cell n0
    have p1 := hxa.cell n1
    have p2 := hxa.cell n2
    have p3 := hxa.cell n3
    have p4 := hxa.cell n4
    have p5 := hxa.cell n5
    have b0 := ob.cell (j := 0) rfl
    have b2 := ob.cell (j := 2) rfl
    have b3 := ob.cell (j := 3) rfl
    have hwj : IntKind.i64.wrap (j : Int) = (j : Int) := by have := HL.out; rw [IntKind.wrap_i64]; omega
    have hM := HM.out.ext (hxa.trans hxb)
    have hlk := hM.look2 (k := key) (by have := HKL.out; simp only [maxLen]; omega)
    have HLK := Lib.hid hlk
    obtain ⟨D, hD1, hD2⟩ := hM
    have HXX := Lib.hid (HX.out.trans (hxa.trans hxb))
    have HD1 := Lib.hid hD1
    have HD2 := Lib.hid hD2
    have HBD := Lib.hid (fun v (hv : f key = some v) => HG.out.bound hv)
    clear hgs hkl hr1 h1d oa ob oa2 hxa hxb hlk hD1 hD2 HG HM
    cases hfk : f key with
    | none =>
      have hl2 := HLK.out
      rw [hfk] at hl2
      simp only [Option.getD_none, Option.isSome_none] at hl2
      clear hfk
      go_wp2_with fail
      refine wp_loop_rounds 2 ?_
      rw [rounds_succ]
      go_wp2_with (first
        | ((with_reducible show wpList _ _ _ (Oper.mk _ (Op.lookup _ _ _ _) _ _ _ _ :: _) _ _); refine wpList_run rfl (run_op_lookup rfl rfl rfl hl2) ?_)
        | (at_mapUpdate; refine wpList_mapUpdate_own _ rfl _ _ _ 92 rfl 9 3 T.strKey Try.underlying92 _ _ _ _ rfl HD1.out (by have := HL.out; simp only [maxLen]; omega) _ _ _ rfl rfl (text_key (by have := HKL.out; simp only [maxLen]; omega)) _ [] (plainElem_int Try.underlying3 (WalkArith.wf_i64 (by have := HL.out; omega))) ?_; intro w1 hown1 hgrow1
           have HO1 := Lib.hid hown1
           have HG1 := Lib.hid hgrow1
           clear hown1 hgrow1))
      rw [rounds_succ]
      go_wp2_with fail
      go_roundg (rs.length - (j + 1))
      case measure => omega
      case rel => exact ⟨j + 1, _, by clear hwj; go_num, hlt, rfl, Lib.hid (LMap.step HD2.out HD1.out.isMap HO1.out), HGS, Lib.hid (HXX.out.grown HG1.out (Nat.le_refl _))⟩
    | some v =>
      have hv := HBD.out v hfk
      have hl2 := HLK.out
      rw [hfk] at hl2
      simp only [Option.getD_some, Option.isSome_some] at hl2
      clear hfk
      go_wp2_with fail
      refine wp_loop_rounds 2 ?_
      rw [rounds_succ]
      go_wp2_with (first
        | ((with_reducible show wpList _ _ _ (Oper.mk _ (Op.lookup _ _ _ _) _ _ _ _ :: _) _ _); refine wpList_run rfl (run_op_lookup rfl rfl rfl hl2) ?_)
        | (at_mapUpdate; refine wpList_mapUpdate_own _ rfl _ _ _ 92 rfl 9 3 T.strKey Try.underlying92 _ _ _ _ rfl HD1.out (by have := HL.out; simp only [maxLen]; omega) _ _ _ rfl rfl (text_key (by have := HKL.out; simp only [maxLen]; omega)) _ [] (plainElem_int Try.underlying3 (WalkArith.wf_i64 (by have := HL.out; omega))) ?_; intro w1 hown1 hgrow1
           have HO1 := Lib.hid hown1
           have HG1 := Lib.hid hgrow1
           clear hown1 hgrow1))
      rw [rounds_succ]
      go_wp2_with fail
      go_roundg (rs.length - (j + 1))
      case measure => omega
      case rel => exact ⟨j + 1, _, by clear hwj; go_num, hlt, rfl, Lib.hid (LMap.step HD2.out HD1.out.isMap HO1.out), HGS, Lib.hid (HXX.out.grown HG1.out (Nat.le_refl _))⟩
/-! ### What stays -/
set_option maxHeartbeats 1000000 in
theorem late_any (m : Value) (r : Rec) (w : World) (hd : r.dead = false) (h1 : m.oneCell' = true) :
    Calls Try.prog 77 #[.agg #[m, .int .i64 0, .int .i64 0], recv r] w fun e w' => e = .returned (.bool false) ∧ Ext w w' := by
  obtain ⟨d, t, k, y, z, v⟩ := r
  simp only at hd
  subst hd
  obtain ⟨oa, ob, hx0, hsz⟩ := objs2 w 95 25 [m, .int .i64 0, .int .i64 0] [.int .i64 d, .int .i64 t, .bool k, .string ⟨y.toArray⟩, .bool false, .string ⟨v.toArray⟩]
  have HSZ := Lib.hid hsz
  have b4 := ob.cell (j := 4) rfl
  clear hsz oa ob
  go_enter Try.func77, Try.ntmps77
  go_wp2_with fail
  go_ret
  exact ⟨rfl, hx0⟩
set_option maxRecDepth 20000 in
set_option maxHeartbeats 1000000 in
theorem keeps_any (b n : Nat) (f : List UInt8 → Option Int) (rs : List Rec) (i : Nat) (v : Value) (w : World) (hm : LMap w b n f) (hG : Good rs rs.length f) (hi : i < rs.length) (hn : rs.length ≤ 1000)
    (hr : (rs.getD i rec0).delta = 0 ∧ (rs.getD i rec0).keyed = true ∧ (rs.getD i rec0).dead = false ∧ (rs.getD i rec0).key.length ≤ 1000) :
    Calls Try.prog 55 #[.agg #[.map (some b), .int .i64 0, .int .i64 0], .agg #[.int .i64 (i : Int), .int .i64 1, .int .i64 0, .int .i64 0, .int .i64 0, v], recv (rs.getD i rec0)] w fun e w' => e = .returned (.bool (keepI rs i)) ∧ Ext w w' := by
  have hk := hG.keep hi
  generalize rs.getD i rec0 = r at *
  obtain ⟨d, t, k, y, z, va⟩ := r
  simp only at hr hk
  obtain ⟨rfl, rfl, rfl, hl⟩ := hr
  obtain ⟨oa, ob, oc, hx0, hsz⟩ := objs3 w 95 46 25 [.map (some b), .int .i64 0, .int .i64 0] [.int .i64 (i : Int), .int .i64 1, .int .i64 0, .int .i64 0, .int .i64 0, v] [.int .i64 0, .int .i64 t, .bool true, .string ⟨y.toArray⟩, .bool false, .string ⟨va.toArray⟩]
  have hlk := (hm.ext hx0).look (k := y) (by simp only [maxLen]; omega)
  have HSZ := Lib.hid hsz
  have a0 := oa.cell (j := 0) rfl
  have a1 := oa.cell (j := 1) rfl
  have a2 := oa.cell (j := 2) rfl
  have b0 := ob.cell (j := 0) rfl
  have c0 := oc.cell (j := 0) rfl
  have c1 := oc.cell (j := 1) rfl
  have c2 := oc.cell (j := 2) rfl
  have c3 := oc.cell (j := 3) rfl
  have c4 := oc.cell (j := 4) rfl
  have c5 := oc.cell (j := 5) rfl
  have hwi : IntKind.i64.wrap (i : Int) = (i : Int) := by rw [IntKind.wrap_i64]; omega
  have L1 := fun W => late_any (.map (some b)) ⟨0, t, true, y, false, va⟩ W rfl rfl
  generalize (f y).getD 0 = g at *
  clear hm hG hsz oa ob oc hl
  cases hB : keepI rs i with
  | true =>
    rw [hB] at hk
    clear hB
    go_enter Try.func55, Try.ntmps55
    go_wp2_with (first
      | ((with_reducible show wpList _ _ _ (Oper.mk _ (Op.lookup _ _ _ _) _ _ _ _ :: _) _ _); refine wpList_run rfl (run_op_lookup rfl rfl rfl hlk) ?_)
      | (go_at_call 77; refine (L1 _).mono ?_; rintro e w1 ⟨rfl, hx1⟩))
    go_ret
    exact ⟨rfl, hx0.trans hx1⟩
  | false =>
    rw [hB] at hk
    clear hB
    go_enter Try.func55, Try.ntmps55
    go_wp2_with ((with_reducible show wpList _ _ _ (Oper.mk _ (Op.lookup _ _ _ _) _ _ _ _ :: _) _ _); refine wpList_run rfl (run_op_lookup rfl rfl rfl hlk) ?_)
    go_ret
    exact ⟨rfl, hx0⟩
end Go.Proofs.Ytdklpenpmeplfaa
