/- What commit.Get computes. -/
import Derived.Test.YtdklpenpmeplfaaCmG
import Derived.Test.YtdklpenpmeplfaaCmE
namespace Go.Proofs.Ytdklpenpmeplfaa
open Go.RowKit

/-- What the end of Get wants to know of memory: a record, whose first two cells turn to nought, another one, that is laid new, a commit. -/
structure GotF (tc : TypeId) (w : World) (b k : Nat) (r y : Rec) (c : Cm) : Prop where
  z0 : (w.alloc (.cells #[.int .i64 y.delta, .int .i64 y.time, .bool y.keyed, .string ⟨y.key.toArray⟩, .bool y.dead, .string ⟨y.value.toArray⟩] 25)).cell? ⟨b, 0, none⟩ = some (.int .i64 r.delta)
  f0 : (w.alloc (.cells #[.int .i64 y.delta, .int .i64 y.time, .bool y.keyed, .string ⟨y.key.toArray⟩, .bool y.dead, .string ⟨y.value.toArray⟩] 25)).frozen? ⟨b, 0, none⟩ = false
  z1 : ((w.alloc (.cells #[.int .i64 y.delta, .int .i64 y.time, .bool y.keyed, .string ⟨y.key.toArray⟩, .bool y.dead, .string ⟨y.value.toArray⟩] 25)).setCell ⟨b, 0, none⟩ (.int .i64 0)).cell? ⟨b, 1, none⟩ = some (.int .i64 r.time)
  f1 : ((w.alloc (.cells #[.int .i64 y.delta, .int .i64 y.time, .bool y.keyed, .string ⟨y.key.toArray⟩, .bool y.dead, .string ⟨y.value.toArray⟩] 25)).setCell ⟨b, 0, none⟩ (.int .i64 0)).frozen? ⟨b, 1, none⟩ = false
  oR : ObjAt (((w.alloc (.cells #[.int .i64 y.delta, .int .i64 y.time, .bool y.keyed, .string ⟨y.key.toArray⟩, .bool y.dead, .string ⟨y.value.toArray⟩] 25)).setCell ⟨b, 0, none⟩ (.int .i64 0)).setCell ⟨b, 1, none⟩ (.int .i64 0)) b 25 (recCells { r with delta := 0, time := 0 })
  oY : ObjAt (((w.alloc (.cells #[.int .i64 y.delta, .int .i64 y.time, .bool y.keyed, .string ⟨y.key.toArray⟩, .bool y.dead, .string ⟨y.value.toArray⟩] 25)).setCell ⟨b, 0, none⟩ (.int .i64 0)).setCell ⟨b, 1, none⟩ (.int .i64 0)) w.heap.size 25 (recCells y)
  oC : ObjAt (((w.alloc (.cells #[.int .i64 y.delta, .int .i64 y.time, .bool y.keyed, .string ⟨y.key.toArray⟩, .bool y.dead, .string ⟨y.value.toArray⟩] 25)).setCell ⟨b, 0, none⟩ (.int .i64 0)).setCell ⟨b, 1, none⟩ (.int .i64 0)) k tc (cmCells c)
  oZ : ObjAt (((w.alloc (.cells #[.int .i64 y.delta, .int .i64 y.time, .bool y.keyed, .string ⟨y.key.toArray⟩, .bool y.dead, .string ⟨y.value.toArray⟩] 25)).setCell ⟨b, 0, none⟩ (.int .i64 0)).setCell ⟨b, 1, none⟩ (.int .i64 0)) (b + 1) tc (cmCells cm0)
  gr : w.grownBy (((w.alloc (.cells #[.int .i64 y.delta, .int .i64 y.time, .bool y.keyed, .string ⟨y.key.toArray⟩, .bool y.dead, .string ⟨y.value.toArray⟩] 25)).setCell ⟨b, 0, none⟩ (.int .i64 0)).setCell ⟨b, 1, none⟩ (.int .i64 0)) (some b)
theorem gotF {tc : TypeId} {w : World} {b k : Nat} {r : Rec} {c : Cm} (hR : ObjAt w b 25 (recCells r)) (hZ : ObjAt w (b + 1) tc (cmCells cm0)) (hC : ObjAt w k tc (cmCells c)) (hk : k ≠ b) (y : Rec) : GotF tc w b k r y c := by
  have hx := Ext.alloc w (.cells #[.int .i64 y.delta, .int .i64 y.time, .bool y.keyed, .string ⟨y.key.toArray⟩, .bool y.dead, .string ⟨y.value.toArray⟩] 25)
  have hY : ObjAt (w.alloc (.cells #[.int .i64 y.delta, .int .i64 y.time, .bool y.keyed, .string ⟨y.key.toArray⟩, .bool y.dead, .string ⟨y.value.toArray⟩] 25)) w.heap.size 25 (recCells y) := heap_alloc_new w _
  have hl := hR.lt
  have r1 := hR.ext hx
  have r2 := r1.store 0 (.int .i64 0)
  have r3 := r2.store 1 (.int .i64 0)
  refine ⟨r1.cell (j := 0) rfl, r1.free 0, r2.cell (j := 1) rfl, r2.free 1, r3, (hY.far (p := ⟨b, 0, none⟩) (by simp; omega) _).far (p := ⟨b, 1, none⟩) (by simp; omega) _, ((hC.ext hx).far (p := ⟨b, 0, none⟩) (by simpa using hk) _).far (p := ⟨b, 1, none⟩) (by simpa using hk) _, ((hZ.ext hx).far (p := ⟨b, 0, none⟩) (by simp) _).far (p := ⟨b, 1, none⟩) (by simp) _, ((hx.grownBy _).trans (grown_set _ ⟨b, 0, none⟩ _)).trans (grown_set _ ⟨b, 1, none⟩ _)⟩
theorem fixN_wrap (r : RdV) : IntKind.i64.wrap (fixN r) = fixN r := by
  have : 0 ≤ fixN r ∧ fixN r < 256 := by
    unfold fixN
    split
    · have := (r.b.headD 0).toNat_lt; omega
    · omega
  rw [IntKind.wrap_i64]; omega
def getV' (c : Cm) (r y : Rec) (e : Int) : Cm × Int := if e ≠ 0 ∨ sameR y { r with delta := 0, time := 0 } = false then (cm0, 4) else (c, 0)
theorem getC_eq (r : Rec) : getC r = getV' (readC r) r (layC (readC r) 0 r.dead).1 (layC (readC r) 0 r.dead).2 := rfl
theorem getV'_bad {c : Cm} {r y : Rec} {e : Int} (h : e ≠ 0) : getV' c r y e = (cm0, 4) := by unfold getV'; rw [if_pos (.inl h)]
theorem getV'_off {c : Cm} {r y : Rec} {e : Int} (h : sameR y { r with delta := 0, time := 0 } = false) : getV' c r y e = (cm0, 4) := by unfold getV'; rw [if_pos (.inr h)]
theorem getV'_ok {c : Cm} {r y : Rec} {e : Int} (h : e = 0) (h2 : sameR y { r with delta := 0, time := 0 } = true) : getV' c r y e = (c, 0) := by
  unfold getV'
  rw [if_neg]
  rintro (h3 | h3)
  · exact h3 h
  · rw [h2] at h3; cases h3
set_option maxRecDepth 20000 in
set_option maxHeartbeats 1000000 in
theorem cgetD_any (d t : Int) (k : Bool) (key val : List UInt8) (w : World) (hl : key.length ≤ 1000) :
    Calls Try.prog 14 #[recv ⟨d, t, k, key, true, val⟩] w fun e w' => e = .returned (.tuple #[cmv (getC ⟨d, t, k, key, true, val⟩).1, .int .i64 (getC ⟨d, t, k, key, true, val⟩).2]) ∧ Ext w w' := by
  have G1 := fun W => gone_any (readC ⟨d, t, k, key, true, val⟩) 0 W
  rw [getC_eq]
  simp only
  generalize hY : (layC (readC ⟨d, t, k, key, true, val⟩) 0 true).1 = Y at *
  generalize hE : (layC (readC ⟨d, t, k, key, true, val⟩) 0 true).2 = E at *
  clear hY hE
  unfold readC at *
  simp only [if_true] at *
  have hfw := fixN_wrap (textR 32 (textR 20 ⟨key, 0⟩))
  obtain ⟨g, hg⟩ : ∃ g, textL 20 ⟨key, 0⟩ = g := ⟨_, rfl⟩
  obtain ⟨s, hs⟩ : ∃ s, textL 32 (textR 20 ⟨key, 0⟩) = s := ⟨_, rfl⟩
  obtain ⟨i, hi⟩ : ∃ i, fixN (textR 32 (textR 20 ⟨key, 0⟩)) = i := ⟨_, rfl⟩
  have T1 := fun g1 W h => rtext_any g1 ⟨key, 0⟩ 20 W h
  have T2 := fun g1 W h => rtext_any g1 (textR 20 ⟨key, 0⟩) 32 W h
  have F1 := fun g1 W h => fixed1_any g1 (textR 32 (textR 20 ⟨key, 0⟩)) W h
  rw [hg] at T1 G1
  rw [hs] at T2 G1
  rw [hi] at F1 G1 hfw
  rw [hg, hs, hi]
  clear hg hs hi
  have HL := Lib.hid hl
  clear hl
  obtain ⟨oR, oZ, hx0, hsz⟩ := objs2 w 25 33 (recCells ⟨d, t, k, key, true, val⟩) (cmCells cm0)
  have HSZ := Lib.hid hsz
  clear hsz
  have b3 := oR.cell (j := 3) rfl
  by_cases hE : E = 0
  case neg =>
    have hb : (E != 0) = true := by rw [bne_iff_ne]; exact hE
    rw [getV'_bad hE]
    clear hE
    go_enter Try.func14, Try.ntmps14
    go_wp2_with (first
      | ((with_reducible show wpList _ _ _ (Oper.mk _ (Op.convert _ _ _) _ _ _ _ :: _) _ _); refine st_bytes2 T.bytes T.u8 T.str key (by have := HL.out; omega) ?_; intro c1 w1 hb1 hx1; simp only [World.size_alloc] at hb1)
      | (go_at_call 34; refine (new_any _ key _ hb1 (by have := HL.out; omega)).mono ?_; rintro e w2 ⟨g1, rfl, hg1, hr1, hx2⟩; have HG1 := Lib.hid (Nat.le_trans hx1.size hg1); clear hg1)
      | (go_at_call 35; have hq := hr2; refine (T2 g1 _ hr2).mono ?_; rintro e w4 ⟨rfl, hr3, hg3⟩)
      | (go_at_call 35; refine (T1 g1 _ hr1).mono ?_; rintro e w3 ⟨rfl, hr2, hg2⟩)
      | (go_at_call 36; refine (F1 g1 _ hr3).mono ?_; rintro e w5 ⟨rfl, hr4, hg4⟩
         have HXA := Lib.hid ((((hx1.trans hx2).grown hg2 HG1.out).grown hg3 HG1.out).grown hg4 HG1.out)
         have hxc := Ext.alloc w5 (.cells #[.string ⟨g.toArray⟩, .string ⟨s.toArray⟩, .int .i64 i, .int .i64 0] 33)
         have oC : ObjAt (w5.alloc (.cells #[.string ⟨g.toArray⟩, .string ⟨s.toArray⟩, .int .i64 i, .int .i64 0] 33)) w5.heap.size 33 (cmCells ⟨g, s, i, 0⟩) := heap_alloc_new w5 _
         have oR2 := (oR.ext HXA.out).ext hxc
         have oZ2 := (oZ.ext HXA.out).ext hxc
         have e4 := oR2.cell (j := 4) rfl
         have q0 := oC.cell (j := 0) rfl
         have q1 := oC.cell (j := 1) rfl
         have q2 := oC.cell (j := 2) rfl
         have q3 := oC.cell (j := 3) rfl)
      | (go_at_call 12; refine (G1 _).mono ?_; rintro e w6 ⟨rfl, hx6⟩
         obtain ⟨z0, f0, z1, f1, oR8, oY8, oC8, oZ8, gr8⟩ := gotF (oR2.ext hx6) (oZ2.ext hx6) (oC.ext hx6) (by have h1 := Nat.lt_of_lt_of_le oR.lt HXA.out.size; omega) Y
         have r0 : _ = some (Value.int .i64 0) := oR8.cell (j := 0) rfl
         have r1 : _ = some (Value.int .i64 0) := oR8.cell (j := 1) rfl
         have r2 : _ = some (Value.bool k) := oR8.cell (j := 2) rfl
         have r3 : _ = some (Value.string ⟨key.toArray⟩) := oR8.cell (j := 3) rfl
         have r4 : _ = some (Value.bool true) := oR8.cell (j := 4) rfl
         have r5 : _ = some (Value.string ⟨val.toArray⟩) := oR8.cell (j := 5) rfl
         have y0 := oY8.cell (j := 0) rfl
         have y1 := oY8.cell (j := 1) rfl
         have y2 := oY8.cell (j := 2) rfl
         have y3 := oY8.cell (j := 3) rfl
         have y4 := oY8.cell (j := 4) rfl
         have y5 := oY8.cell (j := 5) rfl
         have c0 := oC8.cell (j := 0) rfl
         have c1 := oC8.cell (j := 1) rfl
         have c2 := oC8.cell (j := 2) rfl
         have c3 := oC8.cell (j := 3) rfl
         have HX8 := Lib.hid ((hx0.trans ((HXA.out.trans hxc).trans hx6)).grown gr8 (Nat.le_refl _)))
      | ((with_reducible show wpList _ _ _ (Oper.mk _ (Op.binOp BinOp.neq 25 _ _ _) _ _ _ _ :: _) _ _); refine wpList_run rfl (run_neqRec rfl (c := Y) (d := ⟨0, 0, k, key, true, val⟩) rfl rfl _) ?_)
      | ((with_reducible show wpList _ _ _ (Oper.mk _ (Op.store _ _ _) _ _ _ _ :: _) _ _); refine st_put (vs := cmCells cm0) oZ8 T.cmSize rfl (cm_one _) ?_; intro wF oF hgF))

    refine bodyPost_ret (cm_results2 rfl _ _ (w.heap.size + 1) _ _ _ _ rfl oF) rfl ?_
    exact ⟨rfl, HX8.out.grown hgF (Nat.le_succ _)⟩
  have hb : (E != 0) = false := by rw [hE]; rfl
  cases hS : sameR Y ⟨0, 0, k, key, true, val⟩ with
  | false =>
    rw [getV'_off hS]
    clear hE
    go_enter Try.func14, Try.ntmps14
    go_wp2_with (first
      | ((with_reducible show wpList _ _ _ (Oper.mk _ (Op.convert _ _ _) _ _ _ _ :: _) _ _); refine st_bytes2 T.bytes T.u8 T.str key (by have := HL.out; omega) ?_; intro c1 w1 hb1 hx1; simp only [World.size_alloc] at hb1)
      | (go_at_call 34; refine (new_any _ key _ hb1 (by have := HL.out; omega)).mono ?_; rintro e w2 ⟨g1, rfl, hg1, hr1, hx2⟩; have HG1 := Lib.hid (Nat.le_trans hx1.size hg1); clear hg1)
      | (go_at_call 35; have hq := hr2; refine (T2 g1 _ hr2).mono ?_; rintro e w4 ⟨rfl, hr3, hg3⟩)
      | (go_at_call 35; refine (T1 g1 _ hr1).mono ?_; rintro e w3 ⟨rfl, hr2, hg2⟩)
      | (go_at_call 36; refine (F1 g1 _ hr3).mono ?_; rintro e w5 ⟨rfl, hr4, hg4⟩
         have HXA := Lib.hid ((((hx1.trans hx2).grown hg2 HG1.out).grown hg3 HG1.out).grown hg4 HG1.out)
         have hxc := Ext.alloc w5 (.cells #[.string ⟨g.toArray⟩, .string ⟨s.toArray⟩, .int .i64 i, .int .i64 0] 33)
         have oC : ObjAt (w5.alloc (.cells #[.string ⟨g.toArray⟩, .string ⟨s.toArray⟩, .int .i64 i, .int .i64 0] 33)) w5.heap.size 33 (cmCells ⟨g, s, i, 0⟩) := heap_alloc_new w5 _
         have oR2 := (oR.ext HXA.out).ext hxc
         have oZ2 := (oZ.ext HXA.out).ext hxc
         have e4 := oR2.cell (j := 4) rfl
         have q0 := oC.cell (j := 0) rfl
         have q1 := oC.cell (j := 1) rfl
         have q2 := oC.cell (j := 2) rfl
         have q3 := oC.cell (j := 3) rfl)
      | (go_at_call 12; refine (G1 _).mono ?_; rintro e w6 ⟨rfl, hx6⟩
         obtain ⟨z0, f0, z1, f1, oR8, oY8, oC8, oZ8, gr8⟩ := gotF (oR2.ext hx6) (oZ2.ext hx6) (oC.ext hx6) (by have h1 := Nat.lt_of_lt_of_le oR.lt HXA.out.size; omega) Y
         have r0 : _ = some (Value.int .i64 0) := oR8.cell (j := 0) rfl
         have r1 : _ = some (Value.int .i64 0) := oR8.cell (j := 1) rfl
         have r2 : _ = some (Value.bool k) := oR8.cell (j := 2) rfl
         have r3 : _ = some (Value.string ⟨key.toArray⟩) := oR8.cell (j := 3) rfl
         have r4 : _ = some (Value.bool true) := oR8.cell (j := 4) rfl
         have r5 : _ = some (Value.string ⟨val.toArray⟩) := oR8.cell (j := 5) rfl
         have y0 := oY8.cell (j := 0) rfl
         have y1 := oY8.cell (j := 1) rfl
         have y2 := oY8.cell (j := 2) rfl
         have y3 := oY8.cell (j := 3) rfl
         have y4 := oY8.cell (j := 4) rfl
         have y5 := oY8.cell (j := 5) rfl
         have c0 := oC8.cell (j := 0) rfl
         have c1 := oC8.cell (j := 1) rfl
         have c2 := oC8.cell (j := 2) rfl
         have c3 := oC8.cell (j := 3) rfl
         have HX8 := Lib.hid ((hx0.trans ((HXA.out.trans hxc).trans hx6)).grown gr8 (Nat.le_refl _)))
      | ((with_reducible show wpList _ _ _ (Oper.mk _ (Op.binOp BinOp.neq 25 _ _ _) _ _ _ _ :: _) _ _); refine wpList_run rfl (run_neqRec rfl (c := Y) (d := ⟨0, 0, k, key, true, val⟩) rfl rfl _) ?_)
      | ((with_reducible show wpList _ _ _ (Oper.mk _ (Op.store _ _ _) _ _ _ _ :: _) _ _); refine st_put (vs := cmCells cm0) oZ8 T.cmSize rfl (cm_one _) ?_; intro wF oF hgF))

    refine bodyPost_ret (cm_results2 rfl _ _ (w.heap.size + 1) _ _ _ _ rfl oF) rfl ?_
    exact ⟨rfl, HX8.out.grown hgF (Nat.le_succ _)⟩
  | true =>
    rw [getV'_ok hE hS]
    clear hE
    go_enter Try.func14, Try.ntmps14
    go_wp2_with (first
      | ((with_reducible show wpList _ _ _ (Oper.mk _ (Op.convert _ _ _) _ _ _ _ :: _) _ _); refine st_bytes2 T.bytes T.u8 T.str key (by have := HL.out; omega) ?_; intro c1 w1 hb1 hx1; simp only [World.size_alloc] at hb1)
      | (go_at_call 34; refine (new_any _ key _ hb1 (by have := HL.out; omega)).mono ?_; rintro e w2 ⟨g1, rfl, hg1, hr1, hx2⟩; have HG1 := Lib.hid (Nat.le_trans hx1.size hg1); clear hg1)
      | (go_at_call 35; have hq := hr2; refine (T2 g1 _ hr2).mono ?_; rintro e w4 ⟨rfl, hr3, hg3⟩)
      | (go_at_call 35; refine (T1 g1 _ hr1).mono ?_; rintro e w3 ⟨rfl, hr2, hg2⟩)
      | (go_at_call 36; refine (F1 g1 _ hr3).mono ?_; rintro e w5 ⟨rfl, hr4, hg4⟩
         have HXA := Lib.hid ((((hx1.trans hx2).grown hg2 HG1.out).grown hg3 HG1.out).grown hg4 HG1.out)
         have hxc := Ext.alloc w5 (.cells #[.string ⟨g.toArray⟩, .string ⟨s.toArray⟩, .int .i64 i, .int .i64 0] 33)
         have oC : ObjAt (w5.alloc (.cells #[.string ⟨g.toArray⟩, .string ⟨s.toArray⟩, .int .i64 i, .int .i64 0] 33)) w5.heap.size 33 (cmCells ⟨g, s, i, 0⟩) := heap_alloc_new w5 _
         have oR2 := (oR.ext HXA.out).ext hxc
         have oZ2 := (oZ.ext HXA.out).ext hxc
         have e4 := oR2.cell (j := 4) rfl
         have q0 := oC.cell (j := 0) rfl
         have q1 := oC.cell (j := 1) rfl
         have q2 := oC.cell (j := 2) rfl
         have q3 := oC.cell (j := 3) rfl)
      | (go_at_call 12; refine (G1 _).mono ?_; rintro e w6 ⟨rfl, hx6⟩
         obtain ⟨z0, f0, z1, f1, oR8, oY8, oC8, oZ8, gr8⟩ := gotF (oR2.ext hx6) (oZ2.ext hx6) (oC.ext hx6) (by have h1 := Nat.lt_of_lt_of_le oR.lt HXA.out.size; omega) Y
         have r0 : _ = some (Value.int .i64 0) := oR8.cell (j := 0) rfl
         have r1 : _ = some (Value.int .i64 0) := oR8.cell (j := 1) rfl
         have r2 : _ = some (Value.bool k) := oR8.cell (j := 2) rfl
         have r3 : _ = some (Value.string ⟨key.toArray⟩) := oR8.cell (j := 3) rfl
         have r4 : _ = some (Value.bool true) := oR8.cell (j := 4) rfl
         have r5 : _ = some (Value.string ⟨val.toArray⟩) := oR8.cell (j := 5) rfl
         have y0 := oY8.cell (j := 0) rfl
         have y1 := oY8.cell (j := 1) rfl
         have y2 := oY8.cell (j := 2) rfl
         have y3 := oY8.cell (j := 3) rfl
         have y4 := oY8.cell (j := 4) rfl
         have y5 := oY8.cell (j := 5) rfl
         have c0 := oC8.cell (j := 0) rfl
         have c1 := oC8.cell (j := 1) rfl
         have c2 := oC8.cell (j := 2) rfl
         have c3 := oC8.cell (j := 3) rfl
         have HX8 := Lib.hid ((hx0.trans ((HXA.out.trans hxc).trans hx6)).grown gr8 (Nat.le_refl _)))
      | ((with_reducible show wpList _ _ _ (Oper.mk _ (Op.binOp BinOp.neq 25 _ _ _) _ _ _ _ :: _) _ _); refine wpList_run rfl (run_neqRec rfl (c := Y) (d := ⟨0, 0, k, key, true, val⟩) rfl rfl _) ?_)
      | ((with_reducible show wpList _ _ _ (Oper.mk _ (Op.store _ _ _) _ _ _ _ :: _) _ _); refine st_put (vs := cmCells ⟨g, s, i, 0⟩) oZ8 T.cmSize rfl (cm_one _) ?_; intro wF oF hgF))

    refine bodyPost_ret (cm_results2 rfl _ _ (w.heap.size + 1) _ _ _ _ rfl oF) rfl ?_
    exact ⟨rfl, HX8.out.grown hgF (Nat.le_succ _)⟩
end Go.Proofs.Ytdklpenpmeplfaa
