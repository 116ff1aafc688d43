/- What the document's Get of layer 21 computes. What the document's Get of layer 21 computes, of a record that is not dead; of any. -/
import Derived.Test.YtdklpenpmeplfaaCmD
import Derived.Test.YtdklpenpmeplfaaCmI
namespace Go.Proofs.Ytdklpenpmeplfaa
open Go.RowKit

theorem BV.apart {W W' : World} {v : Value} {l : List UInt8} {g : Nat} {t : TypeId} {cs : List Value} (h : BV W v l) (ho : ObjAt W g t cs) (hc : ∀ u ∈ cs, ∀ x : UInt8, u ≠ bv x) (hg : W.grownBy W' (some g)) : BV W' v l := by
  obtain ⟨p, c, e, h1, h2, h3⟩ := h
  refine ⟨p, c, e, h1, h2, fun hne => ?_⟩
  obtain ⟨b, o, e2, hcell⟩ := h3 hne
  refine ⟨b, o, e2, fun j u hu => ?_⟩
  have hbg : b ≠ g := by
    rintro rfl
    cases l with
    | nil => exact hne rfl
    | cons x r =>
      have h5 := hcell 0 (bv x) rfl
      rw [Nat.add_zero] at h5
      unfold World.cell? at h5
      have h' : W.heap[b]? = some (.cells cs.toArray t) := ho
      simp only [h'] at h5
      have h6 : cs[o]? = some (bv x) := by simpa using h5
      exact hc _ (List.mem_of_getElem? h6) x rfl
  exact (keeps_grown hg).cell (a := ⟨b, o + j, none⟩) (fun e => hbg (Option.some.inj e)) (hcell j u hu)
theorem cm_nob (c : Cm) : ∀ u ∈ cmCells c, ∀ x : UInt8, u ≠ bv x := fun u hu x => by
  unfold cmCells at hu
  simp only [List.mem_cons, List.not_mem_nil, or_false] at hu
  rcases hu with rfl | rfl | rfl | rfl <;> (intro e; cases e)
theorem rd_nob (p : Option Addr) (n c : Nat) (e : Int) : ∀ u ∈ [Value.slice p n c, Value.int .i64 e], ∀ x : UInt8, u ≠ bv x := fun u hu x => by
  simp only [List.mem_cons, List.not_mem_nil, or_false] at hu
  rcases hu with rfl | rfl <;> (intro e; cases e)
theorem rd_one (p : Option Addr) (n c : Nat) (e : Int) : ∀ u ∈ [Value.slice p n c, Value.int .i64 e], u.oneCell' = true := fun u hu => by
  simp only [List.mem_cons, List.not_mem_nil, or_false] at hu
  rcases hu with rfl | rfl <;> rfl
/-- The boxes of Get: the record, the result, the commit that is read. -/
structure SG (w W : World) (r : Rec) (c : Cm) : Prop where
  oR : ObjAt W w.heap.size 25 (recCells r)
  oZ : ObjAt W (w.heap.size + 1) 23 (cmCells cm0)
  oC : ObjAt W (w.heap.size + 2) 23 (cmCells c)
  x : Ext w W
theorem SG.ext {w W W' : World} {r : Rec} {c : Cm} (h : SG w W r c) (hx : Ext W W') : SG w W' r c := ⟨h.oR.ext hx, h.oZ.ext hx, h.oC.ext hx, h.x.trans hx⟩
theorem SG.grown {w W W' : World} {r : Rec} {c : Cm} {g : Nat} (h : SG w W r c) (hg : W.grownBy W' (some g)) (hb : w.heap.size + 2 < g) : SG w W' r c :=
  ⟨h.oR.kept hg (fun e => by have := Option.some.inj e; omega), h.oZ.kept hg (fun e => by have := Option.some.inj e; omega), h.oC.kept hg (fun e => by have := Option.some.inj e; omega), h.x.grown hg (by omega)⟩
theorem SG.set0 {w W : World} {r : Rec} {g s g' : List UInt8} {i o : Int} (h : SG w W r ⟨g, s, i, o⟩) : SG w (W.setCell ⟨w.heap.size + 2, 0, none⟩ (.string ⟨g'.toArray⟩)) r ⟨g', s, i, o⟩ :=
  ⟨h.oR.far (by simp) _, h.oZ.far (by simp) _, h.oC.store 0 _, h.x.store (by simp) _⟩
theorem SG.set1 {w W : World} {r : Rec} {g s s' : List UInt8} {i o : Int} (h : SG w W r ⟨g, s, i, o⟩) : SG w (W.setCell ⟨w.heap.size + 2, 1, none⟩ (.string ⟨s'.toArray⟩)) r ⟨g, s', i, o⟩ :=
  ⟨h.oR.far (by simp) _, h.oZ.far (by simp) _, h.oC.store 1 _, h.x.store (by simp) _⟩
theorem SG.set2 {w W : World} {r : Rec} {g s : List UInt8} {i i' o : Int} (h : SG w W r ⟨g, s, i, o⟩) : SG w (W.setCell ⟨w.heap.size + 2, 2, none⟩ (.int .i64 i')) r ⟨g, s, i', o⟩ :=
  ⟨h.oR.far (by simp) _, h.oZ.far (by simp) _, h.oC.store 2 _, h.x.store (by simp) _⟩
theorem SG.set3 {w W : World} {r : Rec} {g s : List UInt8} {i o o' : Int} (h : SG w W r ⟨g, s, i, o⟩) : SG w (W.setCell ⟨w.heap.size + 2, 3, none⟩ (.int .i64 o')) r ⟨g, s, i, o'⟩ :=
  ⟨h.oR.far (by simp) _, h.oZ.far (by simp) _, h.oC.store 3 _, h.x.store (by simp) _⟩
set_option maxRecDepth 20000 in
set_option maxHeartbeats 1000000 in
theorem rgetD_any (d t : Int) (k : Bool) (key val : List UInt8) (w : World) (hl : key.length ≤ 1000) :
    Calls Try.prog 15 #[recv ⟨d, t, k, key, true, val⟩] w fun e w' => e = .returned (.tuple #[cmv (getC ⟨d, t, k, key, true, val⟩).1, .int .i64 (getC ⟨d, t, k, key, true, val⟩).2]) ∧ Ext w w' := by
  have G1 := fun W => rlay_any (readC ⟨d, t, k, key, true, val⟩) 0 true W
  rw [getC_eq]
  simp only
  generalize hY : (layC (readC ⟨d, t, k, key, true, val⟩) 0 true).1 = Y at *
  generalize hE : (layC (readC ⟨d, t, k, key, true, val⟩) 0 true).2 = E at *
  clear hY hE
  unfold readC at *
  simp only [if_true] at *
  have hfw := fixN_wrap (textR 32 (textR 20 ⟨key, 0⟩))
  have T1 := fun v wv h => rtextr_any v ⟨key, 0⟩ 20 wv wv h (Ext.refl _)
  obtain ⟨g, hg⟩ : ∃ g, textL 20 ⟨key, 0⟩ = g := ⟨_, rfl⟩
  rw [hg] at T1 G1 ⊢
  generalize textR 20 ⟨key, 0⟩ = r1 at *
  have T2 := fun v wv h => rtextr_any v r1 32 wv wv h (Ext.refl _)
  obtain ⟨s, hs⟩ : ∃ s, textL 32 r1 = s := ⟨_, rfl⟩
  rw [hs] at T2 G1 ⊢
  generalize textR 32 r1 = r2 at *
  have F1 := fun v wv h => rfix1_any v r2 wv wv h (Ext.refl _)
  obtain ⟨i, hi⟩ : ∃ i, fixN r2 = i := ⟨_, rfl⟩
  rw [hi] at F1 G1 hfw ⊢
  generalize fixR r2 = r3 at *
  clear hg hs hi
  have HL := Lib.hid hl
  clear hl
  obtain ⟨oR, oZ, oC, hx0, hsz⟩ := objs3 w 25 23 23 (recCells ⟨d, t, k, key, true, val⟩) (cmCells cm0) (cmCells cm0)
  have S0 : SG w _ ⟨d, t, k, key, true, val⟩ ⟨[], [], 0, 0⟩ := ⟨oR, oZ, oC, hx0⟩
  clear hsz hx0 oZ oC
  have b3 := oR.cell (j := 3) rfl
  have HS0 := Lib.hid S0
  clear S0 oR
  have M1 := fun W => rsame_any Y ⟨0, 0, k, key, true, val⟩ W
  by_cases hE : E = 0
  case neg =>
    have hb : (E != 0) = true := by rw [bne_iff_ne]; exact hE
    rw [getV'_bad hE]
    clear hE
    go_enter Try.func15, Try.ntmps15
    go_wp2_with (first
      | ((with_reducible show wpList _ _ _ (Oper.mk _ (Op.convert _ _ _) _ _ _ _ :: _) _ _); refine st_bytes2 T.bytes T.u8 T.str key (by have := HL.out; omega) ?_; intro c1 w1 hb1 hx1; simp only [World.size_alloc] at hb1
         have hxa1 := Ext.alloc w1 (.cells #[(.slice (some ⟨w.heap.size + 1 + 1 + 1, 0, none⟩) key.length c1), .int .i64 0] 76)
         have oX : ObjAt (w1.alloc (.cells #[(.slice (some ⟨w.heap.size + 1 + 1 + 1, 0, none⟩) key.length c1), .int .i64 0] 76)) w1.heap.size 76 [(.slice (some ⟨w.heap.size + 1 + 1 + 1, 0, none⟩) key.length c1), .int .i64 0] := heap_alloc_new w1 _
         have S1 := HS0.out.ext hx1
         have HLT := Lib.hid S1.oC.lt
         have HSA := Lib.hid (S1.ext hxa1)
         have hbA := hb1.ext hxa1
         have x0 := oX.cell (j := 0) rfl
         have x1 := oX.cell (j := 1) rfl
         clear S1 hxa1)
      | (go_at_call 38; have hq := hb7; refine (T2 _ _ hb7).mono ?_; rintro e w5 ⟨v5, rfl, hb5, hx5⟩
         obtain ⟨p5, c5, e9, _, _, _⟩ := id hb5
         subst e9
         have HS5 := Lib.hid (HS4.out.ext hx5)
         have oX5 := oX4.ext hx5
         have hb5x := hb5.ext hx5)
      | (go_at_call 38; refine (T1 _ _ hbA).mono ?_; rintro e w2 ⟨v2, rfl, hb2, hx2⟩
         obtain ⟨p2, c2, e9, _, _, _⟩ := id hb2
         subst e9
         have HS2 := Lib.hid (HSA.out.ext hx2)
         have oX2 := oX.ext hx2
         have hb2x := hb2.ext hx2)
      | ((with_reducible show wpList _ _ _ (Oper.mk _ (Op.store _ _ _) _ _ _ _ :: _) _ _); have hq := oX5; refine st_put (vs := [.slice p5 r2.b.length c5, .int .i64 r2.e]) oX5 T.rdInfo rfl (rd_one _ _ _ _) ?_; intro w6 oX6 hg6
         have S6 := HS5.out.grown hg6 HLT.out
         have hb6 := hb5x.apart oX5 (rd_nob _ _ _ _) hg6
         have z6 := S6.oC.cell (j := 1) rfl
         have y6 := S6.oC.free 1
         have HS7 := Lib.hid (S6.set1 (s' := s))
         have oX7 := oX6.far (p := ⟨w.heap.size + 2, 1, none⟩) (Nat.ne_of_gt HLT.out) (.string ⟨s.toArray⟩)
         have hb8 := hb6.apart S6.oC (cm_nob _) (grown_set w6 ⟨w.heap.size + 2, 1, none⟩ (.string ⟨s.toArray⟩))
         have x4 := oX7.cell (j := 0) rfl
         have x5 := oX7.cell (j := 1) rfl
         clear S6)
      | ((with_reducible show wpList _ _ _ (Oper.mk _ (Op.store _ _ _) _ _ _ _ :: _) _ _); refine st_put (vs := [.slice p2 r1.b.length c2, .int .i64 r1.e]) oX2 T.rdInfo rfl (rd_one _ _ _ _) ?_; intro w3 oX3 hg3
         have S3 := HS2.out.grown hg3 HLT.out
         have hb3 := hb2x.apart oX2 (rd_nob _ _ _ _) hg3
         have z0 := S3.oC.cell (j := 0) rfl
         have y0 := S3.oC.free 0
         have HS4 := Lib.hid (S3.set0 (g' := g))
         have oX4 := oX3.far (p := ⟨w.heap.size + 2, 0, none⟩) (Nat.ne_of_gt HLT.out) (.string ⟨g.toArray⟩)
         have hb7 := hb3.apart S3.oC (cm_nob _) (grown_set w3 ⟨w.heap.size + 2, 0, none⟩ (.string ⟨g.toArray⟩))
         have x2 := oX4.cell (j := 0) rfl
         have x3 := oX4.cell (j := 1) rfl
         clear S3)
      | (go_at_call 39; refine (F1 _ _ hb8).mono ?_; rintro e w8 ⟨v8, rfl, hbF, hx8⟩
         obtain ⟨p8, c8, e9, _, _, _⟩ := id hbF
         subst e9
         have S8 := (HS7.out.ext hx8).ext (Ext.alloc w8 (.cells #[.slice p8 r3.b.length c8, .int .i64 r3.e] 76))
         have z8 := S8.oC.cell (j := 2) rfl
         have y8 := S8.oC.free 2
         have S9 := S8.set2 (i' := i)
         have e4 := S9.oR.cell (j := 4) rfl
         have q0 := S9.oC.cell (j := 0) rfl
         have q1 := S9.oC.cell (j := 1) rfl
         have q2 := S9.oC.cell (j := 2) rfl
         have q3 := S9.oC.cell (j := 3) rfl
         have HSC := Lib.hid S9
         clear S8 S9)
      | (go_at_call 31; refine (G1 _).mono ?_; rintro e w10 ⟨rfl, hx10⟩
         have SD := HSC.out.ext hx10
         obtain ⟨za, fa, zc, fc, oR8, oY8, oC8, oZ8, gr8⟩ := gotF SD.oR SD.oZ SD.oC (by simp) Y
         have r0 : _ = some (Value.int .i64 0) := oR8.cell (j := 0) rfl
         have r1c : _ = some (Value.int .i64 0) := oR8.cell (j := 1) rfl
         have r2c : _ = some (Value.bool k) := oR8.cell (j := 2) rfl
         have r3c : _ = some (Value.string ⟨key.toArray⟩) := oR8.cell (j := 3) rfl
         have r4c : _ = some (Value.bool true) := oR8.cell (j := 4) rfl
         have r5c : _ = some (Value.string ⟨val.toArray⟩) := oR8.cell (j := 5) rfl
         have ya := oY8.cell (j := 0) rfl
         have yb1 := oY8.cell (j := 1) rfl
         have yc := oY8.cell (j := 2) rfl
         have yd := oY8.cell (j := 3) rfl
         have ye := oY8.cell (j := 4) rfl
         have yf := oY8.cell (j := 5) rfl
         have HX8 := Lib.hid (SD.x.grown gr8 (Nat.le_refl _))
         clear SD)
      | ((with_reducible show wpList _ _ _ (Oper.mk _ (Op.store _ _ _) _ _ _ _ :: _) _ _); have hq := oZ8; refine st_put (vs := cmCells cm0) oZ8 T.rcmSize rfl (cm_one _) ?_; intro wF oF hgF))
    refine bodyPost_ret (rcm_results2 rfl _ _ (w.heap.size + 1) _ _ _ _ rfl oF) rfl ?_
    exact ⟨rfl, HX8.out.grown hgF (Nat.le_succ _)⟩
  have hb : (E != 0) = false := by rw [hE]; rfl
  cases hS : sameR Y ⟨0, 0, k, key, true, val⟩ with
  | false =>
    rw [getV'_off hS]
    rw [hS] at M1
    clear hE hS
    go_enter Try.func15, Try.ntmps15
    go_wp2_with (first
      | ((with_reducible show wpList _ _ _ (Oper.mk _ (Op.convert _ _ _) _ _ _ _ :: _) _ _); refine st_bytes2 T.bytes T.u8 T.str key (by have := HL.out; omega) ?_; intro c1 w1 hb1 hx1; simp only [World.size_alloc] at hb1
         have hxa1 := Ext.alloc w1 (.cells #[(.slice (some ⟨w.heap.size + 1 + 1 + 1, 0, none⟩) key.length c1), .int .i64 0] 76)
         have oX : ObjAt (w1.alloc (.cells #[(.slice (some ⟨w.heap.size + 1 + 1 + 1, 0, none⟩) key.length c1), .int .i64 0] 76)) w1.heap.size 76 [(.slice (some ⟨w.heap.size + 1 + 1 + 1, 0, none⟩) key.length c1), .int .i64 0] := heap_alloc_new w1 _
         have S1 := HS0.out.ext hx1
         have HLT := Lib.hid S1.oC.lt
         have HSA := Lib.hid (S1.ext hxa1)
         have hbA := hb1.ext hxa1
         have x0 := oX.cell (j := 0) rfl
         have x1 := oX.cell (j := 1) rfl
         clear S1 hxa1)
      | (go_at_call 38; have hq := hb7; refine (T2 _ _ hb7).mono ?_; rintro e w5 ⟨v5, rfl, hb5, hx5⟩
         obtain ⟨p5, c5, e9, _, _, _⟩ := id hb5
         subst e9
         have HS5 := Lib.hid (HS4.out.ext hx5)
         have oX5 := oX4.ext hx5
         have hb5x := hb5.ext hx5)
      | (go_at_call 38; refine (T1 _ _ hbA).mono ?_; rintro e w2 ⟨v2, rfl, hb2, hx2⟩
         obtain ⟨p2, c2, e9, _, _, _⟩ := id hb2
         subst e9
         have HS2 := Lib.hid (HSA.out.ext hx2)
         have oX2 := oX.ext hx2
         have hb2x := hb2.ext hx2)
      | ((with_reducible show wpList _ _ _ (Oper.mk _ (Op.store _ _ _) _ _ _ _ :: _) _ _); have hq := oX5; refine st_put (vs := [.slice p5 r2.b.length c5, .int .i64 r2.e]) oX5 T.rdInfo rfl (rd_one _ _ _ _) ?_; intro w6 oX6 hg6
         have S6 := HS5.out.grown hg6 HLT.out
         have hb6 := hb5x.apart oX5 (rd_nob _ _ _ _) hg6
         have z6 := S6.oC.cell (j := 1) rfl
         have y6 := S6.oC.free 1
         have HS7 := Lib.hid (S6.set1 (s' := s))
         have oX7 := oX6.far (p := ⟨w.heap.size + 2, 1, none⟩) (Nat.ne_of_gt HLT.out) (.string ⟨s.toArray⟩)
         have hb8 := hb6.apart S6.oC (cm_nob _) (grown_set w6 ⟨w.heap.size + 2, 1, none⟩ (.string ⟨s.toArray⟩))
         have x4 := oX7.cell (j := 0) rfl
         have x5 := oX7.cell (j := 1) rfl
         clear S6)
      | ((with_reducible show wpList _ _ _ (Oper.mk _ (Op.store _ _ _) _ _ _ _ :: _) _ _); refine st_put (vs := [.slice p2 r1.b.length c2, .int .i64 r1.e]) oX2 T.rdInfo rfl (rd_one _ _ _ _) ?_; intro w3 oX3 hg3
         have S3 := HS2.out.grown hg3 HLT.out
         have hb3 := hb2x.apart oX2 (rd_nob _ _ _ _) hg3
         have z0 := S3.oC.cell (j := 0) rfl
         have y0 := S3.oC.free 0
         have HS4 := Lib.hid (S3.set0 (g' := g))
         have oX4 := oX3.far (p := ⟨w.heap.size + 2, 0, none⟩) (Nat.ne_of_gt HLT.out) (.string ⟨g.toArray⟩)
         have hb7 := hb3.apart S3.oC (cm_nob _) (grown_set w3 ⟨w.heap.size + 2, 0, none⟩ (.string ⟨g.toArray⟩))
         have x2 := oX4.cell (j := 0) rfl
         have x3 := oX4.cell (j := 1) rfl
         clear S3)
      | (go_at_call 39; refine (F1 _ _ hb8).mono ?_; rintro e w8 ⟨v8, rfl, hbF, hx8⟩
         obtain ⟨p8, c8, e9, _, _, _⟩ := id hbF
         subst e9
         have S8 := (HS7.out.ext hx8).ext (Ext.alloc w8 (.cells #[.slice p8 r3.b.length c8, .int .i64 r3.e] 76))
         have z8 := S8.oC.cell (j := 2) rfl
         have y8 := S8.oC.free 2
         have S9 := S8.set2 (i' := i)
         have e4 := S9.oR.cell (j := 4) rfl
         have q0 := S9.oC.cell (j := 0) rfl
         have q1 := S9.oC.cell (j := 1) rfl
         have q2 := S9.oC.cell (j := 2) rfl
         have q3 := S9.oC.cell (j := 3) rfl
         have HSC := Lib.hid S9
         clear S8 S9)
      | (go_at_call 31; refine (G1 _).mono ?_; rintro e w10 ⟨rfl, hx10⟩
         have SD := HSC.out.ext hx10
         obtain ⟨za, fa, zc, fc, oR8, oY8, oC8, oZ8, gr8⟩ := gotF SD.oR SD.oZ SD.oC (by simp) Y
         have r0 : _ = some (Value.int .i64 0) := oR8.cell (j := 0) rfl
         have r1c : _ = some (Value.int .i64 0) := oR8.cell (j := 1) rfl
         have r2c : _ = some (Value.bool k) := oR8.cell (j := 2) rfl
         have r3c : _ = some (Value.string ⟨key.toArray⟩) := oR8.cell (j := 3) rfl
         have r4c : _ = some (Value.bool true) := oR8.cell (j := 4) rfl
         have r5c : _ = some (Value.string ⟨val.toArray⟩) := oR8.cell (j := 5) rfl
         have ya := oY8.cell (j := 0) rfl
         have yb1 := oY8.cell (j := 1) rfl
         have yc := oY8.cell (j := 2) rfl
         have yd := oY8.cell (j := 3) rfl
         have ye := oY8.cell (j := 4) rfl
         have yf := oY8.cell (j := 5) rfl
         have HX8 := Lib.hid (SD.x.grown gr8 (Nat.le_refl _))
         clear SD)
      | (go_at_call 16; refine (M1 _).mono ?_; rintro e w11 ⟨rfl, hx11⟩
         have oC9 := oC8.ext hx11
         have oZ9 := oZ8.ext hx11
         have HX9 := Lib.hid (HX8.out.trans hx11)
         have c0 := oC9.cell (j := 0) rfl
         have c1c := oC9.cell (j := 1) rfl
         have c2c := oC9.cell (j := 2) rfl
         have c3c := oC9.cell (j := 3) rfl)
      | ((with_reducible show wpList _ _ _ (Oper.mk _ (Op.store _ _ _) _ _ _ _ :: _) _ _); have hq := oZ9; refine st_put (vs := cmCells cm0) oZ9 T.rcmSize rfl (cm_one _) ?_; intro wF oF hgF))
    refine bodyPost_ret (rcm_results2 rfl _ _ (w.heap.size + 1) _ _ _ _ rfl oF) rfl ?_
    exact ⟨rfl, HX9.out.grown hgF (Nat.le_succ _)⟩
  | true =>
    rw [getV'_ok hE hS]
    rw [hS] at M1
    clear hE hS
    go_enter Try.func15, Try.ntmps15
    go_wp2_with (first
      | ((with_reducible show wpList _ _ _ (Oper.mk _ (Op.convert _ _ _) _ _ _ _ :: _) _ _); refine st_bytes2 T.bytes T.u8 T.str key (by have := HL.out; omega) ?_; intro c1 w1 hb1 hx1; simp only [World.size_alloc] at hb1
         have hxa1 := Ext.alloc w1 (.cells #[(.slice (some ⟨w.heap.size + 1 + 1 + 1, 0, none⟩) key.length c1), .int .i64 0] 76)
         have oX : ObjAt (w1.alloc (.cells #[(.slice (some ⟨w.heap.size + 1 + 1 + 1, 0, none⟩) key.length c1), .int .i64 0] 76)) w1.heap.size 76 [(.slice (some ⟨w.heap.size + 1 + 1 + 1, 0, none⟩) key.length c1), .int .i64 0] := heap_alloc_new w1 _
         have S1 := HS0.out.ext hx1
         have HLT := Lib.hid S1.oC.lt
         have HSA := Lib.hid (S1.ext hxa1)
         have hbA := hb1.ext hxa1
         have x0 := oX.cell (j := 0) rfl
         have x1 := oX.cell (j := 1) rfl
         clear S1 hxa1)
      | (go_at_call 38; have hq := hb7; refine (T2 _ _ hb7).mono ?_; rintro e w5 ⟨v5, rfl, hb5, hx5⟩
         obtain ⟨p5, c5, e9, _, _, _⟩ := id hb5
         subst e9
         have HS5 := Lib.hid (HS4.out.ext hx5)
         have oX5 := oX4.ext hx5
         have hb5x := hb5.ext hx5)
      | (go_at_call 38; refine (T1 _ _ hbA).mono ?_; rintro e w2 ⟨v2, rfl, hb2, hx2⟩
         obtain ⟨p2, c2, e9, _, _, _⟩ := id hb2
         subst e9
         have HS2 := Lib.hid (HSA.out.ext hx2)
         have oX2 := oX.ext hx2
         have hb2x := hb2.ext hx2)
      | ((with_reducible show wpList _ _ _ (Oper.mk _ (Op.store _ _ _) _ _ _ _ :: _) _ _); have hq := oX5; refine st_put (vs := [.slice p5 r2.b.length c5, .int .i64 r2.e]) oX5 T.rdInfo rfl (rd_one _ _ _ _) ?_; intro w6 oX6 hg6
         have S6 := HS5.out.grown hg6 HLT.out
         have hb6 := hb5x.apart oX5 (rd_nob _ _ _ _) hg6
         have z6 := S6.oC.cell (j := 1) rfl
         have y6 := S6.oC.free 1
         have HS7 := Lib.hid (S6.set1 (s' := s))
         have oX7 := oX6.far (p := ⟨w.heap.size + 2, 1, none⟩) (Nat.ne_of_gt HLT.out) (.string ⟨s.toArray⟩)
         have hb8 := hb6.apart S6.oC (cm_nob _) (grown_set w6 ⟨w.heap.size + 2, 1, none⟩ (.string ⟨s.toArray⟩))
         have x4 := oX7.cell (j := 0) rfl
         have x5 := oX7.cell (j := 1) rfl
         clear S6)
      | ((with_reducible show wpList _ _ _ (Oper.mk _ (Op.store _ _ _) _ _ _ _ :: _) _ _); refine st_put (vs := [.slice p2 r1.b.length c2, .int .i64 r1.e]) oX2 T.rdInfo rfl (rd_one _ _ _ _) ?_; intro w3 oX3 hg3
         have S3 := HS2.out.grown hg3 HLT.out
         have hb3 := hb2x.apart oX2 (rd_nob _ _ _ _) hg3
         have z0 := S3.oC.cell (j := 0) rfl
         have y0 := S3.oC.free 0
         have HS4 := Lib.hid (S3.set0 (g' := g))
         have oX4 := oX3.far (p := ⟨w.heap.size + 2, 0, none⟩) (Nat.ne_of_gt HLT.out) (.string ⟨g.toArray⟩)
         have hb7 := hb3.apart S3.oC (cm_nob _) (grown_set w3 ⟨w.heap.size + 2, 0, none⟩ (.string ⟨g.toArray⟩))
         have x2 := oX4.cell (j := 0) rfl
         have x3 := oX4.cell (j := 1) rfl
         clear S3)
      | (go_at_call 39; refine (F1 _ _ hb8).mono ?_; rintro e w8 ⟨v8, rfl, hbF, hx8⟩
         obtain ⟨p8, c8, e9, _, _, _⟩ := id hbF
         subst e9
         have S8 := (HS7.out.ext hx8).ext (Ext.alloc w8 (.cells #[.slice p8 r3.b.length c8, .int .i64 r3.e] 76))
         have z8 := S8.oC.cell (j := 2) rfl
         have y8 := S8.oC.free 2
         have S9 := S8.set2 (i' := i)
         have e4 := S9.oR.cell (j := 4) rfl
         have q0 := S9.oC.cell (j := 0) rfl
         have q1 := S9.oC.cell (j := 1) rfl
         have q2 := S9.oC.cell (j := 2) rfl
         have q3 := S9.oC.cell (j := 3) rfl
         have HSC := Lib.hid S9
         clear S8 S9)
      | (go_at_call 31; refine (G1 _).mono ?_; rintro e w10 ⟨rfl, hx10⟩
         have SD := HSC.out.ext hx10
         obtain ⟨za, fa, zc, fc, oR8, oY8, oC8, oZ8, gr8⟩ := gotF SD.oR SD.oZ SD.oC (by simp) Y
         have r0 : _ = some (Value.int .i64 0) := oR8.cell (j := 0) rfl
         have r1c : _ = some (Value.int .i64 0) := oR8.cell (j := 1) rfl
         have r2c : _ = some (Value.bool k) := oR8.cell (j := 2) rfl
         have r3c : _ = some (Value.string ⟨key.toArray⟩) := oR8.cell (j := 3) rfl
         have r4c : _ = some (Value.bool true) := oR8.cell (j := 4) rfl
         have r5c : _ = some (Value.string ⟨val.toArray⟩) := oR8.cell (j := 5) rfl
         have ya := oY8.cell (j := 0) rfl
         have yb1 := oY8.cell (j := 1) rfl
         have yc := oY8.cell (j := 2) rfl
         have yd := oY8.cell (j := 3) rfl
         have ye := oY8.cell (j := 4) rfl
         have yf := oY8.cell (j := 5) rfl
         have HX8 := Lib.hid (SD.x.grown gr8 (Nat.le_refl _))
         clear SD)
      | (go_at_call 16; refine (M1 _).mono ?_; rintro e w11 ⟨rfl, hx11⟩
         have oC9 := oC8.ext hx11
         have oZ9 := oZ8.ext hx11
         have HX9 := Lib.hid (HX8.out.trans hx11)
         have c0 := oC9.cell (j := 0) rfl
         have c1c := oC9.cell (j := 1) rfl
         have c2c := oC9.cell (j := 2) rfl
         have c3c := oC9.cell (j := 3) rfl)
      | ((with_reducible show wpList _ _ _ (Oper.mk _ (Op.store _ _ _) _ _ _ _ :: _) _ _); have hq := oZ9; refine st_put (vs := cmCells ⟨g, s, i, 0⟩) oZ9 T.rcmSize rfl (cm_one _) ?_; intro wF oF hgF))
    refine bodyPost_ret (rcm_results2 rfl _ _ (w.heap.size + 1) _ _ _ _ rfl oF) rfl ?_
    exact ⟨rfl, HX9.out.grown hgF (Nat.le_succ _)⟩
set_option maxRecDepth 20000 in
set_option maxHeartbeats 1000000 in
theorem rgetP_any (d t : Int) (k : Bool) (key val : List UInt8) (w : World) (hl : key.length ≤ 1000) (hv : val.length ≤ 1000) :
    Calls Try.prog 15 #[recv ⟨d, t, k, key, false, val⟩] w fun e w' => e = .returned (.tuple #[cmv (getC ⟨d, t, k, key, false, val⟩).1, .int .i64 (getC ⟨d, t, k, key, false, val⟩).2]) ∧ Ext w w' := by
  have G1 := fun W => rlay_any (readC ⟨d, t, k, key, false, val⟩) 0 false W
  rw [getC_eq]
  simp only
  generalize hY : (layC (readC ⟨d, t, k, key, false, val⟩) 0 false).1 = Y at *
  generalize hE : (layC (readC ⟨d, t, k, key, false, val⟩) 0 false).2 = E at *
  clear hY hE
  unfold readC at *
  simp only [Bool.false_eq_true, if_false] at *
  have hfw := fixN_wrap (textR 32 (textR 20 ⟨key, 0⟩))
  have N1 := fun v wv h => rnum_any v ⟨val, 0⟩ wv wv h (Ext.refl _)
  obtain ⟨o, hO⟩ : ∃ o, numN ⟨val, 0⟩ = o := ⟨_, rfl⟩
  rw [hO] at N1 G1 ⊢
  generalize numR ⟨val, 0⟩ = rN at *
  clear hO
  have T1 := fun v wv h => rtextr_any v ⟨key, 0⟩ 20 wv wv h (Ext.refl _)
  obtain ⟨g, hg⟩ : ∃ g, textL 20 ⟨key, 0⟩ = g := ⟨_, rfl⟩
  rw [hg] at T1 G1 ⊢
  generalize textR 20 ⟨key, 0⟩ = r1 at *
  have T2 := fun v wv h => rtextr_any v r1 32 wv wv h (Ext.refl _)
  obtain ⟨s, hs⟩ : ∃ s, textL 32 r1 = s := ⟨_, rfl⟩
  rw [hs] at T2 G1 ⊢
  generalize textR 32 r1 = r2 at *
  have F1 := fun v wv h => rfix1_any v r2 wv wv h (Ext.refl _)
  obtain ⟨i, hi⟩ : ∃ i, fixN r2 = i := ⟨_, rfl⟩
  rw [hi] at F1 G1 hfw ⊢
  generalize fixR r2 = r3 at *
  clear hg hs hi
  have HL := Lib.hid hl
  clear hl
  have HV := Lib.hid hv
  clear hv
  obtain ⟨oR, oZ, oC, hx0, hsz⟩ := objs3 w 25 23 23 (recCells ⟨d, t, k, key, false, val⟩) (cmCells cm0) (cmCells cm0)
  have S0 : SG w _ ⟨d, t, k, key, false, val⟩ ⟨[], [], 0, 0⟩ := ⟨oR, oZ, oC, hx0⟩
  clear hsz hx0 oZ oC
  have b3 := oR.cell (j := 3) rfl
  have HS0 := Lib.hid S0
  clear S0 oR
  have M1 := fun W => rsame_any Y ⟨0, 0, k, key, false, val⟩ W
  by_cases hE : E = 0
  case neg =>
    have hb : (E != 0) = true := by rw [bne_iff_ne]; exact hE
    rw [getV'_bad hE]
    clear hE
    go_enter Try.func15, Try.ntmps15
    go_wp2_with (first
      | ((with_reducible show wpList _ _ _ (Oper.mk _ (Op.convert _ _ _) _ _ _ _ :: _) _ _); have hq := HS9; refine st_bytes2 T.bytes T.u8 T.str val (by have := HV.out; omega) ?_; intro ca wa hba hxa; simp only [World.size_setCell, World.size_alloc] at hba)
      | (go_at_call 40; refine (N1 _ _ hba).mono ?_; rintro e wb ⟨vb, rfl, hbb, hxb⟩
         obtain ⟨pb, cb, eb, _, _, _⟩ := id hbb
         subst eb
         have SB := HS9.out.ext (hxa.trans hxb)
         have zb := SB.oC.cell (j := 3) rfl
         have yb := SB.oC.free 3
         have SC := SB.set3 (o' := o)
         have q0 := SC.oC.cell (j := 0) rfl
         have q1 := SC.oC.cell (j := 1) rfl
         have q2 := SC.oC.cell (j := 2) rfl
         have q3 := SC.oC.cell (j := 3) rfl
         have e5 := SC.oR.cell (j := 4) rfl
         have HSC := Lib.hid SC
         clear SB SC)
      | ((with_reducible show wpList _ _ _ (Oper.mk _ (Op.convert _ _ _) _ _ _ _ :: _) _ _); refine st_bytes2 T.bytes T.u8 T.str key (by have := HL.out; omega) ?_; intro c1 w1 hb1 hx1; simp only [World.size_alloc] at hb1
         have hxa1 := Ext.alloc w1 (.cells #[(.slice (some ⟨w.heap.size + 1 + 1 + 1, 0, none⟩) key.length c1), .int .i64 0] 76)
         have oX : ObjAt (w1.alloc (.cells #[(.slice (some ⟨w.heap.size + 1 + 1 + 1, 0, none⟩) key.length c1), .int .i64 0] 76)) w1.heap.size 76 [(.slice (some ⟨w.heap.size + 1 + 1 + 1, 0, none⟩) key.length c1), .int .i64 0] := heap_alloc_new w1 _
         have S1 := HS0.out.ext hx1
         have HLT := Lib.hid S1.oC.lt
         have HSA := Lib.hid (S1.ext hxa1)
         have hbA := hb1.ext hxa1
         have x0 := oX.cell (j := 0) rfl
         have x1 := oX.cell (j := 1) rfl
         clear S1 hxa1)
      | (go_at_call 38; have hq := hb7; refine (T2 _ _ hb7).mono ?_; rintro e w5 ⟨v5, rfl, hb5, hx5⟩
         obtain ⟨p5, c5, e9, _, _, _⟩ := id hb5
         subst e9
         have HS5 := Lib.hid (HS4.out.ext hx5)
         have oX5 := oX4.ext hx5
         have hb5x := hb5.ext hx5)
      | (go_at_call 38; refine (T1 _ _ hbA).mono ?_; rintro e w2 ⟨v2, rfl, hb2, hx2⟩
         obtain ⟨p2, c2, e9, _, _, _⟩ := id hb2
         subst e9
         have HS2 := Lib.hid (HSA.out.ext hx2)
         have oX2 := oX.ext hx2
         have hb2x := hb2.ext hx2)
      | ((with_reducible show wpList _ _ _ (Oper.mk _ (Op.store _ _ _) _ _ _ _ :: _) _ _); have hq := oX5; refine st_put (vs := [.slice p5 r2.b.length c5, .int .i64 r2.e]) oX5 T.rdInfo rfl (rd_one _ _ _ _) ?_; intro w6 oX6 hg6
         have S6 := HS5.out.grown hg6 HLT.out
         have hb6 := hb5x.apart oX5 (rd_nob _ _ _ _) hg6
         have z6 := S6.oC.cell (j := 1) rfl
         have y6 := S6.oC.free 1
         have HS7 := Lib.hid (S6.set1 (s' := s))
         have oX7 := oX6.far (p := ⟨w.heap.size + 2, 1, none⟩) (Nat.ne_of_gt HLT.out) (.string ⟨s.toArray⟩)
         have hb8 := hb6.apart S6.oC (cm_nob _) (grown_set w6 ⟨w.heap.size + 2, 1, none⟩ (.string ⟨s.toArray⟩))
         have x4 := oX7.cell (j := 0) rfl
         have x5 := oX7.cell (j := 1) rfl
         clear S6)
      | ((with_reducible show wpList _ _ _ (Oper.mk _ (Op.store _ _ _) _ _ _ _ :: _) _ _); refine st_put (vs := [.slice p2 r1.b.length c2, .int .i64 r1.e]) oX2 T.rdInfo rfl (rd_one _ _ _ _) ?_; intro w3 oX3 hg3
         have S3 := HS2.out.grown hg3 HLT.out
         have hb3 := hb2x.apart oX2 (rd_nob _ _ _ _) hg3
         have z0 := S3.oC.cell (j := 0) rfl
         have y0 := S3.oC.free 0
         have HS4 := Lib.hid (S3.set0 (g' := g))
         have oX4 := oX3.far (p := ⟨w.heap.size + 2, 0, none⟩) (Nat.ne_of_gt HLT.out) (.string ⟨g.toArray⟩)
         have hb7 := hb3.apart S3.oC (cm_nob _) (grown_set w3 ⟨w.heap.size + 2, 0, none⟩ (.string ⟨g.toArray⟩))
         have x2 := oX4.cell (j := 0) rfl
         have x3 := oX4.cell (j := 1) rfl
         clear S3)
      | (go_at_call 39; refine (F1 _ _ hb8).mono ?_; rintro e w8 ⟨v8, rfl, hbF, hx8⟩
         obtain ⟨p8, c8, e9, _, _, _⟩ := id hbF
         subst e9
         have S8 := (HS7.out.ext hx8).ext (Ext.alloc w8 (.cells #[.slice p8 r3.b.length c8, .int .i64 r3.e] 76))
         have z8 := S8.oC.cell (j := 2) rfl
         have y8 := S8.oC.free 2
         have S9 := S8.set2 (i' := i)
         have e4 := S9.oR.cell (j := 4) rfl
         have e6 := S9.oR.cell (j := 5) rfl
         have HS9 := Lib.hid S9
         clear S8 S9)
      | (go_at_call 31; refine (G1 _).mono ?_; rintro e w10 ⟨rfl, hx10⟩
         have SD := HSC.out.ext hx10
         obtain ⟨za, fa, zc, fc, oR8, oY8, oC8, oZ8, gr8⟩ := gotF SD.oR SD.oZ SD.oC (by simp) Y
         have r0 : _ = some (Value.int .i64 0) := oR8.cell (j := 0) rfl
         have r1c : _ = some (Value.int .i64 0) := oR8.cell (j := 1) rfl
         have r2c : _ = some (Value.bool k) := oR8.cell (j := 2) rfl
         have r3c : _ = some (Value.string ⟨key.toArray⟩) := oR8.cell (j := 3) rfl
         have r4c : _ = some (Value.bool false) := oR8.cell (j := 4) rfl
         have r5c : _ = some (Value.string ⟨val.toArray⟩) := oR8.cell (j := 5) rfl
         have ya := oY8.cell (j := 0) rfl
         have yb1 := oY8.cell (j := 1) rfl
         have yc := oY8.cell (j := 2) rfl
         have yd := oY8.cell (j := 3) rfl
         have ye := oY8.cell (j := 4) rfl
         have yf := oY8.cell (j := 5) rfl
         have HX8 := Lib.hid (SD.x.grown gr8 (Nat.le_refl _))
         clear SD)
      | ((with_reducible show wpList _ _ _ (Oper.mk _ (Op.store _ _ _) _ _ _ _ :: _) _ _); have hq := oZ8; refine st_put (vs := cmCells cm0) oZ8 T.rcmSize rfl (cm_one _) ?_; intro wF oF hgF))
    refine bodyPost_ret (rcm_results2 rfl _ _ (w.heap.size + 1) _ _ _ _ rfl oF) rfl ?_
    exact ⟨rfl, HX8.out.grown hgF (Nat.le_succ _)⟩
  have hb : (E != 0) = false := by rw [hE]; rfl
  cases hS : sameR Y ⟨0, 0, k, key, false, val⟩ with
  | false =>
    rw [getV'_off hS]
    rw [hS] at M1
    clear hE hS
    go_enter Try.func15, Try.ntmps15
    go_wp2_with (first
      | ((with_reducible show wpList _ _ _ (Oper.mk _ (Op.convert _ _ _) _ _ _ _ :: _) _ _); have hq := HS9; refine st_bytes2 T.bytes T.u8 T.str val (by have := HV.out; omega) ?_; intro ca wa hba hxa; simp only [World.size_setCell, World.size_alloc] at hba)
      | (go_at_call 40; refine (N1 _ _ hba).mono ?_; rintro e wb ⟨vb, rfl, hbb, hxb⟩
         obtain ⟨pb, cb, eb, _, _, _⟩ := id hbb
         subst eb
         have SB := HS9.out.ext (hxa.trans hxb)
         have zb := SB.oC.cell (j := 3) rfl
         have yb := SB.oC.free 3
         have SC := SB.set3 (o' := o)
         have q0 := SC.oC.cell (j := 0) rfl
         have q1 := SC.oC.cell (j := 1) rfl
         have q2 := SC.oC.cell (j := 2) rfl
         have q3 := SC.oC.cell (j := 3) rfl
         have e5 := SC.oR.cell (j := 4) rfl
         have HSC := Lib.hid SC
         clear SB SC)
      | ((with_reducible show wpList _ _ _ (Oper.mk _ (Op.convert _ _ _) _ _ _ _ :: _) _ _); refine st_bytes2 T.bytes T.u8 T.str key (by have := HL.out; omega) ?_; intro c1 w1 hb1 hx1; simp only [World.size_alloc] at hb1
         have hxa1 := Ext.alloc w1 (.cells #[(.slice (some ⟨w.heap.size + 1 + 1 + 1, 0, none⟩) key.length c1), .int .i64 0] 76)
         have oX : ObjAt (w1.alloc (.cells #[(.slice (some ⟨w.heap.size + 1 + 1 + 1, 0, none⟩) key.length c1), .int .i64 0] 76)) w1.heap.size 76 [(.slice (some ⟨w.heap.size + 1 + 1 + 1, 0, none⟩) key.length c1), .int .i64 0] := heap_alloc_new w1 _
         have S1 := HS0.out.ext hx1
         have HLT := Lib.hid S1.oC.lt
         have HSA := Lib.hid (S1.ext hxa1)
         have hbA := hb1.ext hxa1
         have x0 := oX.cell (j := 0) rfl
         have x1 := oX.cell (j := 1) rfl
         clear S1 hxa1)
      | (go_at_call 38; have hq := hb7; refine (T2 _ _ hb7).mono ?_; rintro e w5 ⟨v5, rfl, hb5, hx5⟩
         obtain ⟨p5, c5, e9, _, _, _⟩ := id hb5
         subst e9
         have HS5 := Lib.hid (HS4.out.ext hx5)
         have oX5 := oX4.ext hx5
         have hb5x := hb5.ext hx5)
      | (go_at_call 38; refine (T1 _ _ hbA).mono ?_; rintro e w2 ⟨v2, rfl, hb2, hx2⟩
         obtain ⟨p2, c2, e9, _, _, _⟩ := id hb2
         subst e9
         have HS2 := Lib.hid (HSA.out.ext hx2)
         have oX2 := oX.ext hx2
         have hb2x := hb2.ext hx2)
      | ((with_reducible show wpList _ _ _ (Oper.mk _ (Op.store _ _ _) _ _ _ _ :: _) _ _); have hq := oX5; refine st_put (vs := [.slice p5 r2.b.length c5, .int .i64 r2.e]) oX5 T.rdInfo rfl (rd_one _ _ _ _) ?_; intro w6 oX6 hg6
         have S6 := HS5.out.grown hg6 HLT.out
         have hb6 := hb5x.apart oX5 (rd_nob _ _ _ _) hg6
         have z6 := S6.oC.cell (j := 1) rfl
         have y6 := S6.oC.free 1
         have HS7 := Lib.hid (S6.set1 (s' := s))
         have oX7 := oX6.far (p := ⟨w.heap.size + 2, 1, none⟩) (Nat.ne_of_gt HLT.out) (.string ⟨s.toArray⟩)
         have hb8 := hb6.apart S6.oC (cm_nob _) (grown_set w6 ⟨w.heap.size + 2, 1, none⟩ (.string ⟨s.toArray⟩))
         have x4 := oX7.cell (j := 0) rfl
         have x5 := oX7.cell (j := 1) rfl
         clear S6)
      | ((with_reducible show wpList _ _ _ (Oper.mk _ (Op.store _ _ _) _ _ _ _ :: _) _ _); refine st_put (vs := [.slice p2 r1.b.length c2, .int .i64 r1.e]) oX2 T.rdInfo rfl (rd_one _ _ _ _) ?_; intro w3 oX3 hg3
         have S3 := HS2.out.grown hg3 HLT.out
         have hb3 := hb2x.apart oX2 (rd_nob _ _ _ _) hg3
         have z0 := S3.oC.cell (j := 0) rfl
         have y0 := S3.oC.free 0
         have HS4 := Lib.hid (S3.set0 (g' := g))
         have oX4 := oX3.far (p := ⟨w.heap.size + 2, 0, none⟩) (Nat.ne_of_gt HLT.out) (.string ⟨g.toArray⟩)
         have hb7 := hb3.apart S3.oC (cm_nob _) (grown_set w3 ⟨w.heap.size + 2, 0, none⟩ (.string ⟨g.toArray⟩))
         have x2 := oX4.cell (j := 0) rfl
         have x3 := oX4.cell (j := 1) rfl
         clear S3)
      | (go_at_call 39; refine (F1 _ _ hb8).mono ?_; rintro e w8 ⟨v8, rfl, hbF, hx8⟩
         obtain ⟨p8, c8, e9, _, _, _⟩ := id hbF
         subst e9
         have S8 := (HS7.out.ext hx8).ext (Ext.alloc w8 (.cells #[.slice p8 r3.b.length c8, .int .i64 r3.e] 76))
         have z8 := S8.oC.cell (j := 2) rfl
         have y8 := S8.oC.free 2
         have S9 := S8.set2 (i' := i)
         have e4 := S9.oR.cell (j := 4) rfl
         have e6 := S9.oR.cell (j := 5) rfl
         have HS9 := Lib.hid S9
         clear S8 S9)
      | (go_at_call 31; refine (G1 _).mono ?_; rintro e w10 ⟨rfl, hx10⟩
         have SD := HSC.out.ext hx10
         obtain ⟨za, fa, zc, fc, oR8, oY8, oC8, oZ8, gr8⟩ := gotF SD.oR SD.oZ SD.oC (by simp) Y
         have r0 : _ = some (Value.int .i64 0) := oR8.cell (j := 0) rfl
         have r1c : _ = some (Value.int .i64 0) := oR8.cell (j := 1) rfl
         have r2c : _ = some (Value.bool k) := oR8.cell (j := 2) rfl
         have r3c : _ = some (Value.string ⟨key.toArray⟩) := oR8.cell (j := 3) rfl
         have r4c : _ = some (Value.bool false) := oR8.cell (j := 4) rfl
         have r5c : _ = some (Value.string ⟨val.toArray⟩) := oR8.cell (j := 5) rfl
         have ya := oY8.cell (j := 0) rfl
         have yb1 := oY8.cell (j := 1) rfl
         have yc := oY8.cell (j := 2) rfl
         have yd := oY8.cell (j := 3) rfl
         have ye := oY8.cell (j := 4) rfl
         have yf := oY8.cell (j := 5) rfl
         have HX8 := Lib.hid (SD.x.grown gr8 (Nat.le_refl _))
         clear SD)
      | (go_at_call 16; refine (M1 _).mono ?_; rintro e w11 ⟨rfl, hx11⟩
         have oC9 := oC8.ext hx11
         have oZ9 := oZ8.ext hx11
         have HX9 := Lib.hid (HX8.out.trans hx11)
         have c0 := oC9.cell (j := 0) rfl
         have c1c := oC9.cell (j := 1) rfl
         have c2c := oC9.cell (j := 2) rfl
         have c3c := oC9.cell (j := 3) rfl)
      | ((with_reducible show wpList _ _ _ (Oper.mk _ (Op.store _ _ _) _ _ _ _ :: _) _ _); have hq := oZ9; refine st_put (vs := cmCells cm0) oZ9 T.rcmSize rfl (cm_one _) ?_; intro wF oF hgF))
    refine bodyPost_ret (rcm_results2 rfl _ _ (w.heap.size + 1) _ _ _ _ rfl oF) rfl ?_
    exact ⟨rfl, HX9.out.grown hgF (Nat.le_succ _)⟩
  | true =>
    rw [getV'_ok hE hS]
    rw [hS] at M1
    clear hE hS
    go_enter Try.func15, Try.ntmps15
    go_wp2_with (first
      | ((with_reducible show wpList _ _ _ (Oper.mk _ (Op.convert _ _ _) _ _ _ _ :: _) _ _); have hq := HS9; refine st_bytes2 T.bytes T.u8 T.str val (by have := HV.out; omega) ?_; intro ca wa hba hxa; simp only [World.size_setCell, World.size_alloc] at hba)
      | (go_at_call 40; refine (N1 _ _ hba).mono ?_; rintro e wb ⟨vb, rfl, hbb, hxb⟩
         obtain ⟨pb, cb, eb, _, _, _⟩ := id hbb
         subst eb
         have SB := HS9.out.ext (hxa.trans hxb)
         have zb := SB.oC.cell (j := 3) rfl
         have yb := SB.oC.free 3
         have SC := SB.set3 (o' := o)
         have q0 := SC.oC.cell (j := 0) rfl
         have q1 := SC.oC.cell (j := 1) rfl
         have q2 := SC.oC.cell (j := 2) rfl
         have q3 := SC.oC.cell (j := 3) rfl
         have e5 := SC.oR.cell (j := 4) rfl
         have HSC := Lib.hid SC
         clear SB SC)
      | ((with_reducible show wpList _ _ _ (Oper.mk _ (Op.convert _ _ _) _ _ _ _ :: _) _ _); refine st_bytes2 T.bytes T.u8 T.str key (by have := HL.out; omega) ?_; intro c1 w1 hb1 hx1; simp only [World.size_alloc] at hb1
         have hxa1 := Ext.alloc w1 (.cells #[(.slice (some ⟨w.heap.size + 1 + 1 + 1, 0, none⟩) key.length c1), .int .i64 0] 76)
         have oX : ObjAt (w1.alloc (.cells #[(.slice (some ⟨w.heap.size + 1 + 1 + 1, 0, none⟩) key.length c1), .int .i64 0] 76)) w1.heap.size 76 [(.slice (some ⟨w.heap.size + 1 + 1 + 1, 0, none⟩) key.length c1), .int .i64 0] := heap_alloc_new w1 _
         have S1 := HS0.out.ext hx1
         have HLT := Lib.hid S1.oC.lt
         have HSA := Lib.hid (S1.ext hxa1)
         have hbA := hb1.ext hxa1
         have x0 := oX.cell (j := 0) rfl
         have x1 := oX.cell (j := 1) rfl
         clear S1 hxa1)
      | (go_at_call 38; have hq := hb7; refine (T2 _ _ hb7).mono ?_; rintro e w5 ⟨v5, rfl, hb5, hx5⟩
         obtain ⟨p5, c5, e9, _, _, _⟩ := id hb5
         subst e9
         have HS5 := Lib.hid (HS4.out.ext hx5)
         have oX5 := oX4.ext hx5
         have hb5x := hb5.ext hx5)
      | (go_at_call 38; refine (T1 _ _ hbA).mono ?_; rintro e w2 ⟨v2, rfl, hb2, hx2⟩
         obtain ⟨p2, c2, e9, _, _, _⟩ := id hb2
         subst e9
         have HS2 := Lib.hid (HSA.out.ext hx2)
         have oX2 := oX.ext hx2
         have hb2x := hb2.ext hx2)
      | ((with_reducible show wpList _ _ _ (Oper.mk _ (Op.store _ _ _) _ _ _ _ :: _) _ _); have hq := oX5; refine st_put (vs := [.slice p5 r2.b.length c5, .int .i64 r2.e]) oX5 T.rdInfo rfl (rd_one _ _ _ _) ?_; intro w6 oX6 hg6
         have S6 := HS5.out.grown hg6 HLT.out
         have hb6 := hb5x.apart oX5 (rd_nob _ _ _ _) hg6
         have z6 := S6.oC.cell (j := 1) rfl
         have y6 := S6.oC.free 1
         have HS7 := Lib.hid (S6.set1 (s' := s))
         have oX7 := oX6.far (p := ⟨w.heap.size + 2, 1, none⟩) (Nat.ne_of_gt HLT.out) (.string ⟨s.toArray⟩)
         have hb8 := hb6.apart S6.oC (cm_nob _) (grown_set w6 ⟨w.heap.size + 2, 1, none⟩ (.string ⟨s.toArray⟩))
         have x4 := oX7.cell (j := 0) rfl
         have x5 := oX7.cell (j := 1) rfl
         clear S6)
      | ((with_reducible show wpList _ _ _ (Oper.mk _ (Op.store _ _ _) _ _ _ _ :: _) _ _); refine st_put (vs := [.slice p2 r1.b.length c2, .int .i64 r1.e]) oX2 T.rdInfo rfl (rd_one _ _ _ _) ?_; intro w3 oX3 hg3
         have S3 := HS2.out.grown hg3 HLT.out
         have hb3 := hb2x.apart oX2 (rd_nob _ _ _ _) hg3
         have z0 := S3.oC.cell (j := 0) rfl
         have y0 := S3.oC.free 0
         have HS4 := Lib.hid (S3.set0 (g' := g))
         have oX4 := oX3.far (p := ⟨w.heap.size + 2, 0, none⟩) (Nat.ne_of_gt HLT.out) (.string ⟨g.toArray⟩)
         have hb7 := hb3.apart S3.oC (cm_nob _) (grown_set w3 ⟨w.heap.size + 2, 0, none⟩ (.string ⟨g.toArray⟩))
         have x2 := oX4.cell (j := 0) rfl
         have x3 := oX4.cell (j := 1) rfl
         clear S3)
      | (go_at_call 39; refine (F1 _ _ hb8).mono ?_; rintro e w8 ⟨v8, rfl, hbF, hx8⟩
         obtain ⟨p8, c8, e9, _, _, _⟩ := id hbF
         subst e9
         have S8 := (HS7.out.ext hx8).ext (Ext.alloc w8 (.cells #[.slice p8 r3.b.length c8, .int .i64 r3.e] 76))
         have z8 := S8.oC.cell (j := 2) rfl
         have y8 := S8.oC.free 2
         have S9 := S8.set2 (i' := i)
         have e4 := S9.oR.cell (j := 4) rfl
         have e6 := S9.oR.cell (j := 5) rfl
         have HS9 := Lib.hid S9
         clear S8 S9)
      | (go_at_call 31; refine (G1 _).mono ?_; rintro e w10 ⟨rfl, hx10⟩
         have SD := HSC.out.ext hx10
         obtain ⟨za, fa, zc, fc, oR8, oY8, oC8, oZ8, gr8⟩ := gotF SD.oR SD.oZ SD.oC (by simp) Y
         have r0 : _ = some (Value.int .i64 0) := oR8.cell (j := 0) rfl
         have r1c : _ = some (Value.int .i64 0) := oR8.cell (j := 1) rfl
         have r2c : _ = some (Value.bool k) := oR8.cell (j := 2) rfl
         have r3c : _ = some (Value.string ⟨key.toArray⟩) := oR8.cell (j := 3) rfl
         have r4c : _ = some (Value.bool false) := oR8.cell (j := 4) rfl
         have r5c : _ = some (Value.string ⟨val.toArray⟩) := oR8.cell (j := 5) rfl
         have ya := oY8.cell (j := 0) rfl
         have yb1 := oY8.cell (j := 1) rfl
         have yc := oY8.cell (j := 2) rfl
         have yd := oY8.cell (j := 3) rfl
         have ye := oY8.cell (j := 4) rfl
         have yf := oY8.cell (j := 5) rfl
         have HX8 := Lib.hid (SD.x.grown gr8 (Nat.le_refl _))
         clear SD)
      | (go_at_call 16; refine (M1 _).mono ?_; rintro e w11 ⟨rfl, hx11⟩
         have oC9 := oC8.ext hx11
         have oZ9 := oZ8.ext hx11
         have HX9 := Lib.hid (HX8.out.trans hx11)
         have c0 := oC9.cell (j := 0) rfl
         have c1c := oC9.cell (j := 1) rfl
         have c2c := oC9.cell (j := 2) rfl
         have c3c := oC9.cell (j := 3) rfl)
      | ((with_reducible show wpList _ _ _ (Oper.mk _ (Op.store _ _ _) _ _ _ _ :: _) _ _); have hq := oZ9; refine st_put (vs := cmCells ⟨g, s, i, o⟩) oZ9 T.rcmSize rfl (cm_one _) ?_; intro wF oF hgF))
    refine bodyPost_ret (rcm_results2 rfl _ _ (w.heap.size + 1) _ _ _ _ rfl oF) rfl ?_
    exact ⟨rfl, HX9.out.grown hgF (Nat.le_succ _)⟩
theorem rgetC_any (r : Rec) (w : World) (hl : r.key.length ≤ 1000) (hv : r.value.length ≤ 1000) :
    Calls Try.prog 15 #[recv r] w fun e w' => e = .returned (.tuple #[cmv (getC r).1, .int .i64 (getC r).2]) ∧ Ext w w' := by
  obtain ⟨d, t, k, key, z, val⟩ := r
  cases z with
  | true => exact rgetD_any d t k key val w hl
  | false => exact rgetP_any d t k key val w hl hv
end Go.Proofs.Ytdklpenpmeplfaa
