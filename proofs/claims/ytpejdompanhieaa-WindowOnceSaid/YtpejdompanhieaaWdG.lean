/- What the document's Get of layer 35 reads. -/
import Derived.Test.YtpejdompanhieaaWdF
import Derived.Test.YtpejdompanhieaaVarS
namespace Go.Proofs.Ytpejdompanhieaa
open Go.RowKit

section
variable {P : Program} {ops : Array Oper} {Q : Exit → Act → World → Prop} {rest : List Oper} {a : Act} {w : World} {ty' : TypeId} {pos : String} {after : Array Edge} {guard : Option (Nat × Bool)}
/-- One cell of a box is stored. -/
theorem st_cell1 {ty : TypeId} {x y : Operand} {g o : Nat} {cs : List Value} {te : TypeId} {u : Value} (hw : ObjAt w g te cs) (hi : (P.info? ty).map (·.size) = some 1)
    (h : ∀ w', ObjAt w' g te (cs.set o u) → w.grownBy w' (some g) → wpList P ops Q rest a w')
    (hg : Region.wanted ⟨none, .store ty x y, ty', pos, after, guard⟩ (yielded ops a.tmps) = true := by exact rfl) (ex : a.eval x = .pointer (some ⟨g, o, none⟩) := by exact rfl) (ey : a.eval y = u := by exact rfl) (h1 : u.oneCell' = true := by exact rfl) (hc : u.cells = #[u] := by exact rfl) (ho' : decide (o < cs.length) = true := by exact rfl) :
    wpList P ops Q (⟨none, .store ty x y, ty', pos, after, guard⟩ :: rest) a w := by
  have ho : o < cs.length := of_decide_eq_true ho'
  have h1' : ∀ v ∈ [u], v.oneCell' = true := fun v hv => by rw [List.mem_singleton] at hv; subst hv; exact h1
  have hst := run_storeCells_at P g o te [u] 0 cs.toArray w hw (by simp only [List.length_singleton, List.size_toArray]; omega) h1'
  have e : (cs.take o ++ [u] ++ cs.drop (o + 1)) = cs.set o u := by
    rw [List.set_eq_take_append_cons_drop, if_pos ho, List.append_assoc]
    rfl
  have hr : (storeVar ty ⟨g, o, none⟩ u).run P w = .ok () (w.setRow g (cs.set o u).toArray) := by
    cases hq : P.info? ty with
    | none => simp [hq] at hi
    | some i =>
      have hi2 : i.size = 1 := by simpa [hq] using hi
      rw [← e]
      simp [storeVar, sizeOf, typeInfo, hq, hi2, hc, hst]
  refine wpList_skip (w' := w.setRow g (cs.set o u).toArray) hg ?_ (h _ (setRow_heap w g cs.toArray _ te (0, 0) hw) ⟨rfl, rfl, rfl, by simp [World.setRow], fun k _ hk => setRow_other w g k _ (fun e => hk (by rw [e]))⟩)
  simp [execOp, ex, ey, Instr.storeAt, Instr.sureAddr, hr, Result.andThen]
end
theorem T.int1 : (Try.prog.info? 3).map (·.size) = some 1 := by kernel_rfl
theorem T.str1 : (Try.prog.info? 9).map (·.size) = some 1 := by kernel_rfl
/-- What is left of the bytes. -/
def RdB (w : World) (v : Value) (r : RdV) : Prop := BV w v r.b
theorem rd_one (p : Option Addr) (n c : Nat) (e : Int) : ∀ u ∈ [Value.slice p n c, Value.int .i64 e], u.oneCell' = true := fun u hu => by
  simp only [List.mem_cons, List.not_mem_nil, or_false] at hu
  rcases hu with rfl | rfl <;> rfl
theorem rnumB {wv w : World} {v : Value} {r : RdV} (h : RdB wv v r) (hx : Ext wv w) :
    Calls Try.prog 56 #[.agg #[v, .int .i64 r.e]] w fun e w' => ∃ p n c q k, e = .returned (.tuple #[.agg #[.slice p n c, .int .i64 q.e], .int .i64 k]) ∧ RdB wv (.slice p n c) q ∧ Hid (q = numR r ∧ k = numN r) ∧ Ext w w' := (rnum_any v r wv w h hx).mono fun e w' hh => by
  obtain ⟨v', he, hb, hx'⟩ := hh
  obtain ⟨p, c, rfl, _⟩ := id hb
  exact ⟨p, _, c, _, _, he, hb, Lib.hid ⟨rfl, rfl⟩, hx'⟩
theorem rtextB {wv w : World} {v : Value} {r : RdV} (h : RdB wv v r) (hx : Ext wv w) :
    Calls Try.prog 57 #[.agg #[v, .int .i64 r.e], .int .i64 64] w fun e w' => ∃ p n c q k, e = .returned (.tuple #[.agg #[.slice p n c, .int .i64 q.e], .string ⟨(k : List UInt8).toArray⟩]) ∧ RdB wv (.slice p n c) q ∧ Hid (q = textR 64 r ∧ k = textL 64 r) ∧ Ext w w' := (rtextr_any v r 64 wv w h hx).mono fun e w' hh => by
  obtain ⟨v', he, hb, hx'⟩ := hh
  obtain ⟨p, c, rfl, _⟩ := id hb
  exact ⟨p, _, c, _, _, he, hb, Lib.hid ⟨rfl, rfl⟩, hx'⟩
/-- What Get has read so far: its boxes, the reader, the row. -/
def GetI (w wr : World) (R : Nat) (s : Wt) (v : Value) (r : RdV) (vo : Value) (L : List Sm) : Prop :=
  ObjAt wr w.heap.size 24 (wtC wt0 (.slice none 0 0)) ∧ ObjAt wr (w.heap.size + 1) 24 (wtC s vo) ∧ ObjAt wr R 99 [v, .int .i64 r.e] ∧ RdB w v r ∧ SmO 69 wr (R + 1) vo L ∧ Ext w wr
set_option maxRecDepth 20000 in
set_option maxHeartbeats 4000000 in
theorem rgetw_any (v : Value) (b : List UInt8) (w : World) (h : BV w v b) (_ : b.length ≤ 100000) :
    Calls Try.prog 25 #[v] w fun e w' => ∃ v', e = .returned (.tuple #[wtv (getW b).1 v', .int .i64 (getW b).2]) ∧ SmV w' v' (getW b).1.opn ∧ Ext w w' := by
  obtain ⟨pb, cb, ev, _⟩ := id h
  generalize b.length = nb at ev
  subst ev
  obtain ⟨oA0, oB0, hx0, hsz⟩ := objs2 w 24 24 (wtC wt0 (.slice none 0 0)) (wtC wt0 (.slice none 0 0))
  obtain ⟨J, hJ⟩ : ∃ J, getW b = J := ⟨_, rfl⟩
  rw [hJ]
  have HJ : Hid ((if okW b (headW b rdD) = true then (headW b rdD, 0) else (wt0, 4)) = J) := Lib.hid (by
    obtain ⟨h1, h2⟩ := ways_same b
    rw [← hJ]
    unfold getW
    cases h3 : okW b (headW b rdP) with
    | true => rw [h1, h3, h2 h3]
    | false => rw [h1, h3]; rfl)
  have HBV := Lib.hid h
  obtain ⟨q0, hq0⟩ : ∃ q : RdV, q = ⟨b, 0⟩ := ⟨_, rfl⟩
  have hr0 : RdB w (.slice pb nb cb) q0 := by rw [hq0]; exact h
  have he0 : q0.e = 0 := by rw [hq0]
  have HQ0 := Lib.hid hq0
  clear hq0
  have N1 := rnumB hr0 hx0
  rw [he0] at N1
  have HSZ := Lib.hid hsz
  unfold wt0 at oA0 oB0 hx0
  clear hsz hJ h he0 hr0
  go_enter Try.func25, Try.ntmps25
  go_wp2_with (first
    | (go_at_call 56; refine (rnumB hr4 HX.out).mono ?_; rintro e wn ⟨pn, nn, cn, q5, k5, rfl, hr5, HQ5, hxn⟩
       replace oR := oR.ext hxn
       replace oA := oA.ext hxn
       replace oB := oB.ext hxn
       replace HX := Lib.hid (HX.out.trans hxn)
       clear hr4 hxn r0 r1)
    | (go_at_call 56; refine (rnumB hr3 HX.out).mono ?_; rintro e wn ⟨pn, nn, cn, q4, k4, rfl, hr4, HQ4, hxn⟩
       replace oR := oR.ext hxn
       replace oA := oA.ext hxn
       replace oB := oB.ext hxn
       replace HX := Lib.hid (HX.out.trans hxn)
       clear hr3 hxn r0 r1)
    | (go_at_call 56; refine (rnumB hr2 HX.out).mono ?_; rintro e wn ⟨pn, nn, cn, q3, k3, rfl, hr3, HQ3, hxn⟩
       replace oR := oR.ext hxn
       replace oA := oA.ext hxn
       replace oB := oB.ext hxn
       replace HX := Lib.hid (HX.out.trans hxn)
       clear hr2 hxn r0 r1)
    | (go_at_call 56; refine (rnumB hr1 HX.out).mono ?_; rintro e wn ⟨pn, nn, cn, q2, k2, rfl, hr2, HQ2, hxn⟩
       replace oR := oR.ext hxn
       replace oA := oA.ext hxn
       replace oB := oB.ext hxn
       replace HX := Lib.hid (HX.out.trans hxn)
       clear hr1 hxn r0 r1)
    | (go_at_call 56; refine N1.mono ?_; rintro e w1 ⟨p1, n1, c1, q1, k1, rfl, hr1, HQ1, hx1⟩
       have hxa := Ext.alloc w1 (.cells #[.slice p1 n1 c1, .int .i64 q1.e] 99)
       have oR : ObjAt (w1.alloc (.cells #[.slice p1 n1 c1, .int .i64 q1.e] 99)) w1.heap.size 99 [.slice p1 n1 c1,   .int .i64 q1.e] := heap_alloc_new w1 _
       have oA := (oA0.ext hx1).ext hxa
       have oB := (oB0.ext hx1).ext hxa
       have HX := Lib.hid ((hx0.trans hx1).trans hxa)
       have HNR : Hid (w.heap.size + 1 < w1.heap.size) := Lib.hid (by have h1 := (oB0.ext hx1).lt; omega)
       have r0 := oR.cell (j := 0) rfl
       have r1 := oR.cell (j := 1) rfl
       clear hxa hx1 N1)
    | ((with_reducible show wpList _ _ _ (Oper.mk _ (Op.store _ _ _) _ _ _ _ :: _) _ _); have hq := hr2; refine st_put (vs := [.slice pn nn cn, .int .i64 q2.e]) oR T.rdInfo rfl (rd_one _ _ _ _) ?_; intro wp oRp hgp
       replace oA := oA.kept hgp (fun e => by have h1 := Option.some.inj e; have h2 := HNR.out; omega)
       replace oB := oB.kept hgp (fun e => by have h1 := Option.some.inj e; have h2 := HNR.out; omega)
       replace HX := Lib.hid (HX.out.grown hgp (by have h2 := HNR.out; omega))
       clear oR hgp
       have oR := oRp
       clear oRp
       have r0 := oR.cell (j := 0) rfl
       have r1 := oR.cell (j := 1) rfl)
    | ((with_reducible show wpList _ _ _ (Oper.mk _ (Op.store _ _ _) _ _ _ _ :: _) _ _); have hq := hr3; refine st_put (vs := [.slice pn nn cn, .int .i64 q3.e]) oR T.rdInfo rfl (rd_one _ _ _ _) ?_; intro wp oRp hgp
       replace oA := oA.kept hgp (fun e => by have h1 := Option.some.inj e; have h2 := HNR.out; omega)
       replace oB := oB.kept hgp (fun e => by have h1 := Option.some.inj e; have h2 := HNR.out; omega)
       replace HX := Lib.hid (HX.out.grown hgp (by have h2 := HNR.out; omega))
       clear oR hgp
       have oR := oRp
       clear oRp
       have r0 := oR.cell (j := 0) rfl
       have r1 := oR.cell (j := 1) rfl)
    | ((with_reducible show wpList _ _ _ (Oper.mk _ (Op.store _ _ _) _ _ _ _ :: _) _ _); have hq := hr4; refine st_put (vs := [.slice pn nn cn, .int .i64 q4.e]) oR T.rdInfo rfl (rd_one _ _ _ _) ?_; intro wp oRp hgp
       replace oA := oA.kept hgp (fun e => by have h1 := Option.some.inj e; have h2 := HNR.out; omega)
       replace oB := oB.kept hgp (fun e => by have h1 := Option.some.inj e; have h2 := HNR.out; omega)
       replace HX := Lib.hid (HX.out.grown hgp (by have h2 := HNR.out; omega))
       clear oR hgp
       have oR := oRp
       clear oRp
       have r0 := oR.cell (j := 0) rfl
       have r1 := oR.cell (j := 1) rfl)
    | ((with_reducible show wpList _ _ _ (Oper.mk _ (Op.store _ _ _) _ _ _ _ :: _) _ _); have hq := hr5; refine st_put (vs := [.slice pn nn cn, .int .i64 q5.e]) oR T.rdInfo rfl (rd_one _ _ _ _) ?_; intro wp oRp hgp
       replace oA := oA.kept hgp (fun e => by have h1 := Option.some.inj e; have h2 := HNR.out; omega)
       replace oB := oB.kept hgp (fun e => by have h1 := Option.some.inj e; have h2 := HNR.out; omega)
       replace HX := Lib.hid (HX.out.grown hgp (by have h2 := HNR.out; omega))
       clear oR hgp
       have oR := oRp
       clear oRp
       have r0 := oR.cell (j := 0) rfl
       have r1 := oR.cell (j := 1) rfl)
    | ((with_reducible show wpList _ _ _ (Oper.mk _ (Op.store _ _ _) _ _ _ _ :: _) _ _); refine st_cell1 oB T.int1 ?_; intro wc oBc hgc
       replace oA := oA.kept hgc (fun e => by have h1 := Option.some.inj e; omega)
       replace oR := oR.kept hgc (fun e => by have h1 := Option.some.inj e; have h2 := HNR.out; omega)
       replace HX := Lib.hid (HX.out.grown hgc (by omega))
       clear oB hgc r0 r1
       have oB := oBc
       clear oBc
       have r0 := oR.cell (j := 0) rfl
       have r1 := oR.cell (j := 1) rfl))
  have oB' : ObjAt wp (w.heap.size + 1) 24 (wtC ⟨k1, k2, k3, k4, []⟩ (.slice none 0 0)) := oB
  have HG0 : Hid (GetI w wp w1.heap.size ⟨k1, k2, k3, k4, []⟩ (.slice pn nn cn) q5 (.slice none 0 0) []) := Lib.hid ⟨oA, oB', oR, hr5, ORow.nil _ _ _, HX.out⟩
  have HHD : Hid (headW b rdD = ⟨k1, k2, k3, k4, rdD (manyW k5) q5⟩) := Lib.hid (by
    obtain ⟨e1, e2⟩ := HQ1.out
    obtain ⟨e3, e4⟩ := HQ2.out
    obtain ⟨e5, e6⟩ := HQ3.out
    obtain ⟨e7, e8⟩ := HQ4.out
    obtain ⟨e9, e10⟩ := HQ5.out
    rw [e10, e9, e8, e7, e6, e5, e4, e3, e2, e1, HQ0.out]
    rfl)
  generalize w1.heap.size = R at *
  clear oA oB oB' oR hr5 HX HQ0 HQ1 HQ2 HQ3 HQ4 HQ5 r0 r1
  rw [HHD.out] at HJ
  obtain ⟨M, hM⟩ : ∃ M, manyW k5 = M := ⟨_, rfl⟩
  rw [hM] at HJ
  have HM : Hid ((max 0 (min k5 257)).toNat = M) := Lib.hid hM
  clear hM HHD
  obtain ⟨LL, hLL⟩ : ∃ l, rdD M q5 = l := ⟨_, rfl⟩
  rw [hLL] at HJ
  have HLL := Lib.hid hLL
  clear hLL hx0 oA0 oB0
  go_loopg [8] (M) (fun k s8 wr => ∃ j : Nat, s8 = .int .i64 j ∧ j ≤ M ∧ k = M - j ∧ Hid (∃ p n c r vo L, GetI w wr R ⟨k1, k2, k3, k4, []⟩ (.slice p n c) r vo L ∧ LL = L ++ rdD (M - j) r ∧ L.length = j))
  case atStart => exact ⟨0, rfl, Nat.zero_le _, rfl, Lib.hid ⟨_, _, _, _, _, _, HG0.out, HLL.out.symm, rfl⟩⟩
  case round =>
    obtain ⟨j, rfl, hj, hk, HI⟩ := hrel
    obtain ⟨p, n, c, r, vo, L, ⟨gA, gB, gR, gr, gL, gx⟩, hll, hlen⟩ := HI.out
    clear HI
    obtain ⟨po, co, ev, _, _⟩ := gL.view.slice
    have HLEN := Lib.hid hlen
    have HLLJ := Lib.hid hll
    clear hlen hll
    have r1w := gR.cell (j := 1) rfl
    by_cases hjM : j < M
    case pos =>
      have hi1 : (j : Int) < k5 := by have := HM.out; omega
      have hi2 : (j : Int) ≤ 256 := by have := HM.out; omega
      by_cases he : r.e = 0
      case pos =>
        have hbe : (r.e == 0) = true := by rw [he]; rfl
        have hxa := Ext.alloc wr (.cells #[.int .i64 0, .string ⟨#[]⟩, .int .i64 0, .int .i64 0, .int .i64 0, .int .i64 0] 69)
        have oS : ObjAt (wr.alloc (.cells #[.int .i64 0, .string ⟨#[]⟩, .int .i64 0, .int .i64 0, .int .i64 0, .int .i64 0] 69)) wr.heap.size 69 (smCells sm0) := heap_alloc_new wr _
        generalize L.length = no at ev
        subst ev
        have HOS : Hid ((Value.slice po no co).ownBlock ≠ some wr.heap.size) := Lib.hid fun e => Nat.lt_irrefl _ (ORow.own gL _ e).2
        have HNS : Hid (R < wr.heap.size) := Lib.hid gR.lt
        have oA := gA.ext hxa
        have oB := gB.ext hxa
        have oR := gR.ext hxa
        have r0 := oR.cell (j := 0) rfl
        have r1 := oR.cell (j := 1) rfl
        have HROW := Lib.hid (ORow.keep gL hxa)
        have HX := Lib.hid (gx.trans hxa)
        have hs0 := gr
        have HQJ : Hid (wrap64 ((j : Int) + 1) = ((j + 1 : Nat) : Int)) := Lib.hid (by unfold wrap64; omega)
        have HE := Lib.hid he
        clear hxa gA gB gR gr gL gx he
        go_wp2_with (first
          | (go_at_call 56; refine (rnumB hs5 HX.out).mono ?_; rintro e wn ⟨pn, nn, cn, g6, u6, rfl, hs6, HT6, hxn⟩
             replace oR := oR.ext hxn
             replace oA := oA.ext hxn
             replace oB := oB.ext hxn
             replace HX := Lib.hid (HX.out.trans hxn)
             replace oS := oS.ext hxn
             replace HROW := Lib.hid (ORow.keep HROW.out hxn)
             clear hs5 hxn r0 r1)
          | (go_at_call 56; refine (rnumB hs4 HX.out).mono ?_; rintro e wn ⟨pn, nn, cn, g5, u5, rfl, hs5, HT5, hxn⟩
             replace oR := oR.ext hxn
             replace oA := oA.ext hxn
             replace oB := oB.ext hxn
             replace HX := Lib.hid (HX.out.trans hxn)
             replace oS := oS.ext hxn
             replace HROW := Lib.hid (ORow.keep HROW.out hxn)
             clear hs4 hxn r0 r1)
          | (go_at_call 56; refine (rnumB hs3 HX.out).mono ?_; rintro e wn ⟨pn, nn, cn, g4, u4, rfl, hs4, HT4, hxn⟩
             replace oR := oR.ext hxn
             replace oA := oA.ext hxn
             replace oB := oB.ext hxn
             replace HX := Lib.hid (HX.out.trans hxn)
             replace oS := oS.ext hxn
             replace HROW := Lib.hid (ORow.keep HROW.out hxn)
             clear hs3 hxn r0 r1)
          | (go_at_call 56; refine (rnumB hs2 HX.out).mono ?_; rintro e wn ⟨pn, nn, cn, g3, u3, rfl, hs3, HT3, hxn⟩
             replace oR := oR.ext hxn
             replace oA := oA.ext hxn
             replace oB := oB.ext hxn
             replace HX := Lib.hid (HX.out.trans hxn)
             replace oS := oS.ext hxn
             replace HROW := Lib.hid (ORow.keep HROW.out hxn)
             clear hs2 hxn r0 r1)
          | (go_at_call 56; refine (rnumB hs1 HX.out).mono ?_; rintro e wn ⟨pn, nn, cn, g2, u2, rfl, hs2, HT2, hxn⟩
             replace oR := oR.ext hxn
             replace oA := oA.ext hxn
             replace oB := oB.ext hxn
             replace HX := Lib.hid (HX.out.trans hxn)
             replace oS := oS.ext hxn
             replace HROW := Lib.hid (ORow.keep HROW.out hxn)
             clear hs1 hxn r0 r1)
          | (go_at_call 57; refine (rtextB hs0 HX.out).mono ?_; rintro e wn ⟨pn, nn, cn, g1, u1, rfl, hs1, HT1, hxn⟩
             replace oR := oR.ext hxn
             replace oA := oA.ext hxn
             replace oB := oB.ext hxn
             replace HX := Lib.hid (HX.out.trans hxn)
             replace oS := oS.ext hxn
             replace HROW := Lib.hid (ORow.keep HROW.out hxn)
             clear hs0 hxn r0 r1)
          | ((with_reducible show wpList _ _ _ (Oper.mk _ (Op.store _ _ _) _ _ _ _ :: _) _ _); have hq := hs1; refine st_put (vs := [.slice pn nn cn, .int .i64 g1.e]) oR T.rdInfo rfl (rd_one _ _ _ _) ?_; intro wp oRp hgp
             replace oA := oA.kept hgp (fun e => by have h1 := Option.some.inj e; have h2 := HNR.out; omega)
             replace oB := oB.kept hgp (fun e => by have h1 := Option.some.inj e; have h2 := HNR.out; omega)
             replace HX := Lib.hid (HX.out.grown hgp (by have h2 := HNR.out; omega))
             replace oS := oS.kept hgp (fun e => by have h1 := Option.some.inj e; have h2 := HNS.out; omega)
             replace HROW := Lib.hid (SmO.kept HROW.out hgp (.inr fun e => by have h1 := (ORow.own HROW.out _ e).1; omega))
             clear oR hgp
             have oR := oRp
             clear oRp
             have r0 := oR.cell (j := 0) rfl
             have r1 := oR.cell (j := 1) rfl)
          | ((with_reducible show wpList _ _ _ (Oper.mk _ (Op.store _ _ _) _ _ _ _ :: _) _ _); have hq := hs2; refine st_put (vs := [.slice pn nn cn, .int .i64 g2.e]) oR T.rdInfo rfl (rd_one _ _ _ _) ?_; intro wp oRp hgp
             replace oA := oA.kept hgp (fun e => by have h1 := Option.some.inj e; have h2 := HNR.out; omega)
             replace oB := oB.kept hgp (fun e => by have h1 := Option.some.inj e; have h2 := HNR.out; omega)
             replace HX := Lib.hid (HX.out.grown hgp (by have h2 := HNR.out; omega))
             replace oS := oS.kept hgp (fun e => by have h1 := Option.some.inj e; have h2 := HNS.out; omega)
             replace HROW := Lib.hid (SmO.kept HROW.out hgp (.inr fun e => by have h1 := (ORow.own HROW.out _ e).1; omega))
             clear oR hgp
             have oR := oRp
             clear oRp
             have r0 := oR.cell (j := 0) rfl
             have r1 := oR.cell (j := 1) rfl)
          | ((with_reducible show wpList _ _ _ (Oper.mk _ (Op.store _ _ _) _ _ _ _ :: _) _ _); have hq := hs3; refine st_put (vs := [.slice pn nn cn, .int .i64 g3.e]) oR T.rdInfo rfl (rd_one _ _ _ _) ?_; intro wp oRp hgp
             replace oA := oA.kept hgp (fun e => by have h1 := Option.some.inj e; have h2 := HNR.out; omega)
             replace oB := oB.kept hgp (fun e => by have h1 := Option.some.inj e; have h2 := HNR.out; omega)
             replace HX := Lib.hid (HX.out.grown hgp (by have h2 := HNR.out; omega))
             replace oS := oS.kept hgp (fun e => by have h1 := Option.some.inj e; have h2 := HNS.out; omega)
             replace HROW := Lib.hid (SmO.kept HROW.out hgp (.inr fun e => by have h1 := (ORow.own HROW.out _ e).1; omega))
             clear oR hgp
             have oR := oRp
             clear oRp
             have r0 := oR.cell (j := 0) rfl
             have r1 := oR.cell (j := 1) rfl)
          | ((with_reducible show wpList _ _ _ (Oper.mk _ (Op.store _ _ _) _ _ _ _ :: _) _ _); have hq := hs4; refine st_put (vs := [.slice pn nn cn, .int .i64 g4.e]) oR T.rdInfo rfl (rd_one _ _ _ _) ?_; intro wp oRp hgp
             replace oA := oA.kept hgp (fun e => by have h1 := Option.some.inj e; have h2 := HNR.out; omega)
             replace oB := oB.kept hgp (fun e => by have h1 := Option.some.inj e; have h2 := HNR.out; omega)
             replace HX := Lib.hid (HX.out.grown hgp (by have h2 := HNR.out; omega))
             replace oS := oS.kept hgp (fun e => by have h1 := Option.some.inj e; have h2 := HNS.out; omega)
             replace HROW := Lib.hid (SmO.kept HROW.out hgp (.inr fun e => by have h1 := (ORow.own HROW.out _ e).1; omega))
             clear oR hgp
             have oR := oRp
             clear oRp
             have r0 := oR.cell (j := 0) rfl
             have r1 := oR.cell (j := 1) rfl)
          | ((with_reducible show wpList _ _ _ (Oper.mk _ (Op.store _ _ _) _ _ _ _ :: _) _ _); have hq := hs5; refine st_put (vs := [.slice pn nn cn, .int .i64 g5.e]) oR T.rdInfo rfl (rd_one _ _ _ _) ?_; intro wp oRp hgp
             replace oA := oA.kept hgp (fun e => by have h1 := Option.some.inj e; have h2 := HNR.out; omega)
             replace oB := oB.kept hgp (fun e => by have h1 := Option.some.inj e; have h2 := HNR.out; omega)
             replace HX := Lib.hid (HX.out.grown hgp (by have h2 := HNR.out; omega))
             replace oS := oS.kept hgp (fun e => by have h1 := Option.some.inj e; have h2 := HNS.out; omega)
             replace HROW := Lib.hid (SmO.kept HROW.out hgp (.inr fun e => by have h1 := (ORow.own HROW.out _ e).1; omega))
             clear oR hgp
             have oR := oRp
             clear oRp
             have r0 := oR.cell (j := 0) rfl
             have r1 := oR.cell (j := 1) rfl)
          | ((with_reducible show wpList _ _ _ (Oper.mk _ (Op.store _ _ _) _ _ _ _ :: _) _ _); have hq := hs6; refine st_put (vs := [.slice pn nn cn, .int .i64 g6.e]) oR T.rdInfo rfl (rd_one _ _ _ _) ?_; intro wp oRp hgp
             replace oA := oA.kept hgp (fun e => by have h1 := Option.some.inj e; have h2 := HNR.out; omega)
             replace oB := oB.kept hgp (fun e => by have h1 := Option.some.inj e; have h2 := HNR.out; omega)
             replace HX := Lib.hid (HX.out.grown hgp (by have h2 := HNR.out; omega))
             replace oS := oS.kept hgp (fun e => by have h1 := Option.some.inj e; have h2 := HNS.out; omega)
             replace HROW := Lib.hid (SmO.kept HROW.out hgp (.inr fun e => by have h1 := (ORow.own HROW.out _ e).1; omega))
             clear oR hgp
             have oR := oRp
             clear oRp
             have r0 := oR.cell (j := 0) rfl
             have r1 := oR.cell (j := 1) rfl)
          | ((with_reducible show wpList _ _ _ (Oper.mk _ (Op.store _ _ _) _ _ _ _ :: _) _ _); refine st_cell1 oS T.str1 ?_; intro wc oSc hgc
             replace oA := oA.kept hgc (fun e => by have h1 := Option.some.inj e; have h2 := HNS.out; have h3 := HNR.out; omega)
             replace oB := oB.kept hgc (fun e => by have h1 := Option.some.inj e; have h2 := HNS.out; have h3 := HNR.out; omega)
             replace oR := oR.kept hgc (fun e => by have h1 := Option.some.inj e; have h2 := HNS.out; have h3 := HNR.out; omega)
             replace HX := Lib.hid (HX.out.grown hgc (by have h2 := HNS.out; have h3 := HNR.out; omega))
             replace HROW := Lib.hid (SmO.kept HROW.out hgc (.inr HOS.out))
             clear oS hgc r0 r1
             have oS := oSc
             clear oSc
             have r0 := oR.cell (j := 0) rfl
             have r1 := oR.cell (j := 1) rfl
             have y0 := oS.cell (j := 0) rfl
             have y1 := oS.cell (j := 1) rfl
             have y2 := oS.cell (j := 2) rfl
             have y3 := oS.cell (j := 3) rfl
             have y4 := oS.cell (j := 4) rfl
             have y5 := oS.cell (j := 5) rfl
             have c4 := oB.cell (j := 4) (u := .slice po no co) rfl)
          | ((with_reducible show wpList _ _ _ (Oper.mk _ (Op.store _ _ _) _ _ _ _ :: _) _ _); refine st_cell1 oS T.int1 ?_; intro wc oSc hgc
             replace oA := oA.kept hgc (fun e => by have h1 := Option.some.inj e; have h2 := HNS.out; have h3 := HNR.out; omega)
             replace oB := oB.kept hgc (fun e => by have h1 := Option.some.inj e; have h2 := HNS.out; have h3 := HNR.out; omega)
             replace oR := oR.kept hgc (fun e => by have h1 := Option.some.inj e; have h2 := HNS.out; have h3 := HNR.out; omega)
             replace HX := Lib.hid (HX.out.grown hgc (by have h2 := HNS.out; have h3 := HNR.out; omega))
             replace HROW := Lib.hid (SmO.kept HROW.out hgc (.inr HOS.out))
             clear oS hgc r0 r1
             have oS := oSc
             clear oSc
             have r0 := oR.cell (j := 0) rfl
             have r1 := oR.cell (j := 1) rfl
             have y0 := oS.cell (j := 0) rfl
             have y1 := oS.cell (j := 1) rfl
             have y2 := oS.cell (j := 2) rfl
             have y3 := oS.cell (j := 3) rfl
             have y4 := oS.cell (j := 4) rfl
             have y5 := oS.cell (j := 5) rfl
             have c4 := oB.cell (j := 4) (u := .slice po no co) rfl)
          | (at_builtin; refine st_items T.rsms (ORow.keep HROW.out (Ext.alloc _ _)) (SRow.lit1 (cs := smCells ⟨u2, u1, u3, u4, u5, u6⟩) rfl (sm_one _) (fun _ _ => rfl)) ?_ (by have h1 := HLEN.out; simp [maxLen]; omega) (by have h1 := HLEN.out; simp; omega) (oR.ext (Ext.alloc _ _)).lt; intro vq wq hoq hgq hwq
             replace oA := (oA.ext (Ext.alloc _ _)).kept hgq (fun e => by have h1 := (ORow.own HROW.out _ e.symm).1; have h2 := HNR.out; omega)
             replace oR := (oR.ext (Ext.alloc _ _)).kept hgq (fun e => by have h1 := (ORow.own HROW.out _ e.symm).1; omega)
             replace oB := (oB.ext (Ext.alloc _ _)).kept hgq (fun e => by have h1 := (ORow.own HROW.out _ e.symm).1; have h2 := HNR.out; omega)
             replace HX := Lib.hid ((ORow.base (ORow.keep HROW.out (Ext.alloc _ _)) (by have h2 := HNR.out; omega : w.heap.size ≤ R + 1)).grown (HX.out.trans (Ext.alloc _ _)) hgq)
             obtain ⟨pq, cq, eq, _, _⟩ := hoq.view.slice
             generalize (L ++ [(⟨u2, u1, u3, u4, u5, u6⟩ : Sm)]).length = nq at eq
             subst eq
             have HOQ := Lib.hid hoq
             clear HROW hgq hwq)
          | ((with_reducible show wpList _ _ _ (Oper.mk _ (Op.store _ _ _) _ _ _ _ :: _) _ _); have hq := HOQ; refine st_cell1 oB T.rsmsSize ?_; intro wz oBz hgz
             replace oA := oA.kept hgz (fun e => by have h1 := Option.some.inj e; omega)
             replace oR := oR.kept hgz (fun e => by have h1 := Option.some.inj e; have h2 := HNR.out; omega)
             replace HX := Lib.hid (HX.out.grown hgz (by omega))
             have HOZ := Lib.hid (SmO.kept HOQ.out hgz (.inr fun e => by have h1 := (ORow.own HOQ.out _ e).1; have h2 := HNR.out; omega))
             clear oB hgz))
        go_roundg (M - (j + 1))
        case measure => omega
        case rel =>
          have oB' : ObjAt wz (w.heap.size + 1) 24 (wtC ⟨k1, k2, k3, k4, []⟩ (.slice pq nq cq)) := oBz
          have hd : LL = (L ++ [(⟨u2, u1, u3, u4, u5, u6⟩ : Sm)]) ++ rdD (M - (j + 1)) g6 := by
            have h1 := HLLJ.out
            rw [show M - j = (M - (j + 1)) + 1 by omega, rdD, if_neg (by simp [HE.out])] at h1
            obtain ⟨e1, e2⟩ := HT1.out
            obtain ⟨e3, e4⟩ := HT2.out
            obtain ⟨e5, e6⟩ := HT3.out
            obtain ⟨e7, e8⟩ := HT4.out
            obtain ⟨e9, e10⟩ := HT5.out
            obtain ⟨e11, e12⟩ := HT6.out
            have hsum : rdSum r = (⟨u2, u1, u3, u4, u5, u6⟩, g6) := by
              unfold rdSum
              simp only
              rw [← e1, ← e2, ← e3, ← e4, ← e5, ← e6, ← e7, ← e8, ← e9, ← e10, ← e11, ← e12]
            rw [hsum] at h1
            rw [h1, List.append_assoc]
            rfl
          exact ⟨j + 1, (by first | exact congrArg (Value.int .i64) HQJ.out | exact congrArg (Value.int .i64) (by omega)), hjM, rfl, Lib.hid ⟨_, _, _, g6, _, _, ⟨oA, oB', oR, hs6, HOZ.out, HX.out⟩, hd, by rw [List.length_append, HLEN.out]; rfl⟩⟩
      have hbe : (r.e == 0) = false := by rw [beq_eq_false_iff_ne]; exact he
      have hLL : LL = L := by
        have h1 := HLLJ.out
        rw [show M - j = (M - (j + 1)) + 1 by omega, rdD, if_pos he, List.append_nil] at h1
        exact h1
      clear he
      have hJ := HJ.out
      rw [hLL] at hJ
      clear hLL
      have P1 := rputw_any ⟨k1, k2, k3, k4, L⟩ vo wr (SmO.view gL)
      generalize L.length = no at ev
      subst ev
      have c0 := gB.cell (j := 0) (u := .int .i64 k1) rfl
      have c1 := gB.cell (j := 1) (u := .int .i64 k2) rfl
      have c2 := gB.cell (j := 2) (u := .int .i64 k3) rfl
      have c3 := gB.cell (j := 3) (u := .int .i64 k4) rfl
      have c4 := gB.cell (j := 4) (u := .slice po no co) rfl
      have HXJ := Lib.hid gx
      have HSO := Lib.hid gL
      clear gL gx gR gr HLEN HLLJ
      unfold okW at hJ
      by_cases hc : checkW ⟨k1, k2, k3, k4, L⟩ = 0
      case neg =>
        have e2 : putE ⟨k1, k2, k3, k4, L⟩ = ([], checkW ⟨k1, k2, k3, k4, L⟩) := by unfold putE; rw [if_pos hc]
        rw [e2] at P1
        have hce : (checkW ⟨k1, k2, k3, k4, L⟩ == 0) = false := by rw [beq_eq_false_iff_ne]; exact hc
        rw [hce, Bool.false_and, if_neg (by simp)] at hJ
        subst hJ
        have hz : (checkW ⟨k1, k2, k3, k4, L⟩ != 0) = true := by rw [bne_iff_ne]; exact hc
        clear hc hce e2
        simp only at P1
        generalize checkW ⟨k1, k2, k3, k4, L⟩ = er at *
        go_wp2_with (first
          | (go_at_call 23; refine P1.mono ?_; rintro e wp ⟨bv, rfl, hbv, hxp⟩
             obtain ⟨pv, cv, rfl, _⟩ := id hbv
             have oAp := gA.ext hxp
             have oBp := gB.ext hxp
             have d0 := oBp.cell (j := 0) (u := .int .i64 k1) rfl
             have d1 := oBp.cell (j := 1) (u := .int .i64 k2) rfl
             have d2 := oBp.cell (j := 2) (u := .int .i64 k3) rfl
             have d3 := oBp.cell (j := 3) (u := .int .i64 k4) rfl
             have d4 := oBp.cell (j := 4) (u := .slice po no co) rfl
             have HBW := Lib.hid hbv
             have HXP := Lib.hid (HXJ.out.trans hxp)
             have HOP := Lib.hid (ORow.keep HSO.out hxp)
             clear hbv)
          | ((with_reducible show wpList _ _ _ (Oper.mk _ (Op.convert _ _ _) _ _ _ _ :: _) _ _); have hq := HBW; refine st_string T.bytes T.u8 T.str HBW.out ?_)
          | ((with_reducible show wpList _ _ _ (Oper.mk _ (Op.convert _ _ _) _ _ _ _ :: _) _ _); refine st_string T.bytes T.u8 T.str (HBV.out.ext HXP.out) ?_)
          | ((with_reducible show wpList _ _ _ (Oper.mk _ (Op.store _ _ _) _ _ _ _ :: _) _ _); refine st_put (vs := wtC wt0 (.slice none 0 0)) oAp T.rwtSize rfl (wt_one wt0 rfl) ?_; intro w4 ob4 hg4))
        refine bodyPost_ret (rwt_results2 rfl _ _ w.heap.size wt0 _ rfl ob4) rfl ?_
        exact ⟨_, rfl, sm_nil _, HXP.out.grown hg4 (Nat.le_refl _)⟩
      have e2 : putE ⟨k1, k2, k3, k4, L⟩ = (putW ⟨k1, k2, k3, k4, L⟩, 0) := by unfold putE; rw [if_neg (by simp [hc])]
      rw [e2] at P1
      simp only at P1
      have hce : (checkW ⟨k1, k2, k3, k4, L⟩ == 0) = true := by rw [hc]; rfl
      rw [hce, Bool.true_and] at hJ
      clear hce hc e2
      generalize putW ⟨k1, k2, k3, k4, L⟩ = pw at *
      by_cases heq : pw = b
      case neg =>
        have hz : (pw == b) = false := by rw [beq_eq_false_iff_ne]; exact heq
        rw [if_neg (by simp [heq])] at hJ
        subst hJ
        clear heq
        go_wp2_with (first
          | (go_at_call 23; refine P1.mono ?_; rintro e wp ⟨bv, rfl, hbv, hxp⟩
             obtain ⟨pv, cv, rfl, _⟩ := id hbv
             have oAp := gA.ext hxp
             have oBp := gB.ext hxp
             have d0 := oBp.cell (j := 0) (u := .int .i64 k1) rfl
             have d1 := oBp.cell (j := 1) (u := .int .i64 k2) rfl
             have d2 := oBp.cell (j := 2) (u := .int .i64 k3) rfl
             have d3 := oBp.cell (j := 3) (u := .int .i64 k4) rfl
             have d4 := oBp.cell (j := 4) (u := .slice po no co) rfl
             have HBW := Lib.hid hbv
             have HXP := Lib.hid (HXJ.out.trans hxp)
             have HOP := Lib.hid (ORow.keep HSO.out hxp)
             clear hbv)
          | ((with_reducible show wpList _ _ _ (Oper.mk _ (Op.convert _ _ _) _ _ _ _ :: _) _ _); have hq := HBW; refine st_string T.bytes T.u8 T.str HBW.out ?_)
          | ((with_reducible show wpList _ _ _ (Oper.mk _ (Op.convert _ _ _) _ _ _ _ :: _) _ _); refine st_string T.bytes T.u8 T.str (HBV.out.ext HXP.out) ?_)
          | ((with_reducible show wpList _ _ _ (Oper.mk _ (Op.store _ _ _) _ _ _ _ :: _) _ _); refine st_put (vs := wtC wt0 (.slice none 0 0)) oAp T.rwtSize rfl (wt_one wt0 rfl) ?_; intro w4 ob4 hg4))
        refine bodyPost_ret (rwt_results2 rfl _ _ w.heap.size wt0 _ rfl ob4) rfl ?_
        exact ⟨_, rfl, sm_nil _, HXP.out.grown hg4 (Nat.le_refl _)⟩
      case pos =>
        have hz : (pw == b) = true := by simp [heq]
        rw [if_pos (by simp [heq])] at hJ
        subst hJ
        clear heq
        go_wp2_with (first
          | (go_at_call 23; refine P1.mono ?_; rintro e wp ⟨bv, rfl, hbv, hxp⟩
             obtain ⟨pv, cv, rfl, _⟩ := id hbv
             have oAp := gA.ext hxp
             have oBp := gB.ext hxp
             have d0 := oBp.cell (j := 0) (u := .int .i64 k1) rfl
             have d1 := oBp.cell (j := 1) (u := .int .i64 k2) rfl
             have d2 := oBp.cell (j := 2) (u := .int .i64 k3) rfl
             have d3 := oBp.cell (j := 3) (u := .int .i64 k4) rfl
             have d4 := oBp.cell (j := 4) (u := .slice po no co) rfl
             have HBW := Lib.hid hbv
             have HXP := Lib.hid (HXJ.out.trans hxp)
             have HOP := Lib.hid (ORow.keep HSO.out hxp)
             clear hbv)
          | ((with_reducible show wpList _ _ _ (Oper.mk _ (Op.convert _ _ _) _ _ _ _ :: _) _ _); have hq := HBW; refine st_string T.bytes T.u8 T.str HBW.out ?_)
          | ((with_reducible show wpList _ _ _ (Oper.mk _ (Op.convert _ _ _) _ _ _ _ :: _) _ _); refine st_string T.bytes T.u8 T.str (HBV.out.ext HXP.out) ?_)
          | ((with_reducible show wpList _ _ _ (Oper.mk _ (Op.store _ _ _) _ _ _ _ :: _) _ _); refine st_put (vs := wtC ⟨k1, k2, k3, k4, L⟩ (.slice po no co)) oAp T.rwtSize rfl (wt_one ⟨k1, k2, k3, k4, L⟩ rfl) ?_; intro w4 ob4 hg4))
        refine bodyPost_ret (rwt_results2 rfl _ _ w.heap.size ⟨k1, k2, k3, k4, L⟩ _ rfl ob4) rfl ?_
        refine ⟨_, rfl, SmO.view (SmO.kept HOP.out hg4 (.inr fun e => ?_)), HXP.out.grown hg4 (Nat.le_refl _)⟩
        have h1 := (ORow.own HOP.out _ e).1
        have h2 := HNR.out
        omega
    have hjeM : j = M := by omega
    have hLL : LL = L := by
      have h1 := HLLJ.out
      rw [hjeM, Nat.sub_self, rdD, List.append_nil] at h1
      exact h1
    by_cases hjk : (j : Int) < k5
    case pos =>
      have hi2 : ¬ (j : Int) ≤ 256 := by have := HM.out; omega
      clear hjeM
      have hJ := HJ.out
      rw [hLL] at hJ
      clear hLL
      have P1 := rputw_any ⟨k1, k2, k3, k4, L⟩ vo wr (SmO.view gL)
      generalize L.length = no at ev
      subst ev
      have c0 := gB.cell (j := 0) (u := .int .i64 k1) rfl
      have c1 := gB.cell (j := 1) (u := .int .i64 k2) rfl
      have c2 := gB.cell (j := 2) (u := .int .i64 k3) rfl
      have c3 := gB.cell (j := 3) (u := .int .i64 k4) rfl
      have c4 := gB.cell (j := 4) (u := .slice po no co) rfl
      have HXJ := Lib.hid gx
      have HSO := Lib.hid gL
      clear gL gx gR gr HLEN HLLJ
      unfold okW at hJ
      by_cases hc : checkW ⟨k1, k2, k3, k4, L⟩ = 0
      case neg =>
        have e2 : putE ⟨k1, k2, k3, k4, L⟩ = ([], checkW ⟨k1, k2, k3, k4, L⟩) := by unfold putE; rw [if_pos hc]
        rw [e2] at P1
        have hce : (checkW ⟨k1, k2, k3, k4, L⟩ == 0) = false := by rw [beq_eq_false_iff_ne]; exact hc
        rw [hce, Bool.false_and, if_neg (by simp)] at hJ
        subst hJ
        have hz : (checkW ⟨k1, k2, k3, k4, L⟩ != 0) = true := by rw [bne_iff_ne]; exact hc
        clear hc hce e2
        simp only at P1
        generalize checkW ⟨k1, k2, k3, k4, L⟩ = er at *
        go_wp2_with (first
          | (go_at_call 23; refine P1.mono ?_; rintro e wp ⟨bv, rfl, hbv, hxp⟩
             obtain ⟨pv, cv, rfl, _⟩ := id hbv
             have oAp := gA.ext hxp
             have oBp := gB.ext hxp
             have d0 := oBp.cell (j := 0) (u := .int .i64 k1) rfl
             have d1 := oBp.cell (j := 1) (u := .int .i64 k2) rfl
             have d2 := oBp.cell (j := 2) (u := .int .i64 k3) rfl
             have d3 := oBp.cell (j := 3) (u := .int .i64 k4) rfl
             have d4 := oBp.cell (j := 4) (u := .slice po no co) rfl
             have HBW := Lib.hid hbv
             have HXP := Lib.hid (HXJ.out.trans hxp)
             have HOP := Lib.hid (ORow.keep HSO.out hxp)
             clear hbv)
          | ((with_reducible show wpList _ _ _ (Oper.mk _ (Op.convert _ _ _) _ _ _ _ :: _) _ _); have hq := HBW; refine st_string T.bytes T.u8 T.str HBW.out ?_)
          | ((with_reducible show wpList _ _ _ (Oper.mk _ (Op.convert _ _ _) _ _ _ _ :: _) _ _); refine st_string T.bytes T.u8 T.str (HBV.out.ext HXP.out) ?_)
          | ((with_reducible show wpList _ _ _ (Oper.mk _ (Op.store _ _ _) _ _ _ _ :: _) _ _); refine st_put (vs := wtC wt0 (.slice none 0 0)) oAp T.rwtSize rfl (wt_one wt0 rfl) ?_; intro w4 ob4 hg4))
        refine bodyPost_ret (rwt_results2 rfl _ _ w.heap.size wt0 _ rfl ob4) rfl ?_
        exact ⟨_, rfl, sm_nil _, HXP.out.grown hg4 (Nat.le_refl _)⟩
      have e2 : putE ⟨k1, k2, k3, k4, L⟩ = (putW ⟨k1, k2, k3, k4, L⟩, 0) := by unfold putE; rw [if_neg (by simp [hc])]
      rw [e2] at P1
      simp only at P1
      have hce : (checkW ⟨k1, k2, k3, k4, L⟩ == 0) = true := by rw [hc]; rfl
      rw [hce, Bool.true_and] at hJ
      clear hce hc e2
      generalize putW ⟨k1, k2, k3, k4, L⟩ = pw at *
      by_cases heq : pw = b
      case neg =>
        have hz : (pw == b) = false := by rw [beq_eq_false_iff_ne]; exact heq
        rw [if_neg (by simp [heq])] at hJ
        subst hJ
        clear heq
        go_wp2_with (first
          | (go_at_call 23; refine P1.mono ?_; rintro e wp ⟨bv, rfl, hbv, hxp⟩
             obtain ⟨pv, cv, rfl, _⟩ := id hbv
             have oAp := gA.ext hxp
             have oBp := gB.ext hxp
             have d0 := oBp.cell (j := 0) (u := .int .i64 k1) rfl
             have d1 := oBp.cell (j := 1) (u := .int .i64 k2) rfl
             have d2 := oBp.cell (j := 2) (u := .int .i64 k3) rfl
             have d3 := oBp.cell (j := 3) (u := .int .i64 k4) rfl
             have d4 := oBp.cell (j := 4) (u := .slice po no co) rfl
             have HBW := Lib.hid hbv
             have HXP := Lib.hid (HXJ.out.trans hxp)
             have HOP := Lib.hid (ORow.keep HSO.out hxp)
             clear hbv)
          | ((with_reducible show wpList _ _ _ (Oper.mk _ (Op.convert _ _ _) _ _ _ _ :: _) _ _); have hq := HBW; refine st_string T.bytes T.u8 T.str HBW.out ?_)
          | ((with_reducible show wpList _ _ _ (Oper.mk _ (Op.convert _ _ _) _ _ _ _ :: _) _ _); refine st_string T.bytes T.u8 T.str (HBV.out.ext HXP.out) ?_)
          | ((with_reducible show wpList _ _ _ (Oper.mk _ (Op.store _ _ _) _ _ _ _ :: _) _ _); refine st_put (vs := wtC wt0 (.slice none 0 0)) oAp T.rwtSize rfl (wt_one wt0 rfl) ?_; intro w4 ob4 hg4))
        refine bodyPost_ret (rwt_results2 rfl _ _ w.heap.size wt0 _ rfl ob4) rfl ?_
        exact ⟨_, rfl, sm_nil _, HXP.out.grown hg4 (Nat.le_refl _)⟩
      case pos =>
        have hz : (pw == b) = true := by simp [heq]
        rw [if_pos (by simp [heq])] at hJ
        subst hJ
        clear heq
        go_wp2_with (first
          | (go_at_call 23; refine P1.mono ?_; rintro e wp ⟨bv, rfl, hbv, hxp⟩
             obtain ⟨pv, cv, rfl, _⟩ := id hbv
             have oAp := gA.ext hxp
             have oBp := gB.ext hxp
             have d0 := oBp.cell (j := 0) (u := .int .i64 k1) rfl
             have d1 := oBp.cell (j := 1) (u := .int .i64 k2) rfl
             have d2 := oBp.cell (j := 2) (u := .int .i64 k3) rfl
             have d3 := oBp.cell (j := 3) (u := .int .i64 k4) rfl
             have d4 := oBp.cell (j := 4) (u := .slice po no co) rfl
             have HBW := Lib.hid hbv
             have HXP := Lib.hid (HXJ.out.trans hxp)
             have HOP := Lib.hid (ORow.keep HSO.out hxp)
             clear hbv)
          | ((with_reducible show wpList _ _ _ (Oper.mk _ (Op.convert _ _ _) _ _ _ _ :: _) _ _); have hq := HBW; refine st_string T.bytes T.u8 T.str HBW.out ?_)
          | ((with_reducible show wpList _ _ _ (Oper.mk _ (Op.convert _ _ _) _ _ _ _ :: _) _ _); refine st_string T.bytes T.u8 T.str (HBV.out.ext HXP.out) ?_)
          | ((with_reducible show wpList _ _ _ (Oper.mk _ (Op.store _ _ _) _ _ _ _ :: _) _ _); refine st_put (vs := wtC ⟨k1, k2, k3, k4, L⟩ (.slice po no co)) oAp T.rwtSize rfl (wt_one ⟨k1, k2, k3, k4, L⟩ rfl) ?_; intro w4 ob4 hg4))
        refine bodyPost_ret (rwt_results2 rfl _ _ w.heap.size ⟨k1, k2, k3, k4, L⟩ _ rfl ob4) rfl ?_
        refine ⟨_, rfl, SmO.view (SmO.kept HOP.out hg4 (.inr fun e => ?_)), HXP.out.grown hg4 (Nat.le_refl _)⟩
        have h1 := (ORow.own HOP.out _ e).1
        have h2 := HNR.out
        omega
    case neg =>
      clear hjeM
      have hJ := HJ.out
      rw [hLL] at hJ
      clear hLL
      have P1 := rputw_any ⟨k1, k2, k3, k4, L⟩ vo wr (SmO.view gL)
      generalize L.length = no at ev
      subst ev
      have c0 := gB.cell (j := 0) (u := .int .i64 k1) rfl
      have c1 := gB.cell (j := 1) (u := .int .i64 k2) rfl
      have c2 := gB.cell (j := 2) (u := .int .i64 k3) rfl
      have c3 := gB.cell (j := 3) (u := .int .i64 k4) rfl
      have c4 := gB.cell (j := 4) (u := .slice po no co) rfl
      have HXJ := Lib.hid gx
      have HSO := Lib.hid gL
      clear gL gx gR gr HLEN HLLJ
      unfold okW at hJ
      by_cases hc : checkW ⟨k1, k2, k3, k4, L⟩ = 0
      case neg =>
        have e2 : putE ⟨k1, k2, k3, k4, L⟩ = ([], checkW ⟨k1, k2, k3, k4, L⟩) := by unfold putE; rw [if_pos hc]
        rw [e2] at P1
        have hce : (checkW ⟨k1, k2, k3, k4, L⟩ == 0) = false := by rw [beq_eq_false_iff_ne]; exact hc
        rw [hce, Bool.false_and, if_neg (by simp)] at hJ
        subst hJ
        have hz : (checkW ⟨k1, k2, k3, k4, L⟩ != 0) = true := by rw [bne_iff_ne]; exact hc
        clear hc hce e2
        simp only at P1
        generalize checkW ⟨k1, k2, k3, k4, L⟩ = er at *
        go_wp2_with (first
          | (go_at_call 23; refine P1.mono ?_; rintro e wp ⟨bv, rfl, hbv, hxp⟩
             obtain ⟨pv, cv, rfl, _⟩ := id hbv
             have oAp := gA.ext hxp
             have oBp := gB.ext hxp
             have d0 := oBp.cell (j := 0) (u := .int .i64 k1) rfl
             have d1 := oBp.cell (j := 1) (u := .int .i64 k2) rfl
             have d2 := oBp.cell (j := 2) (u := .int .i64 k3) rfl
             have d3 := oBp.cell (j := 3) (u := .int .i64 k4) rfl
             have d4 := oBp.cell (j := 4) (u := .slice po no co) rfl
             have HBW := Lib.hid hbv
             have HXP := Lib.hid (HXJ.out.trans hxp)
             have HOP := Lib.hid (ORow.keep HSO.out hxp)
             clear hbv)
          | ((with_reducible show wpList _ _ _ (Oper.mk _ (Op.convert _ _ _) _ _ _ _ :: _) _ _); have hq := HBW; refine st_string T.bytes T.u8 T.str HBW.out ?_)
          | ((with_reducible show wpList _ _ _ (Oper.mk _ (Op.convert _ _ _) _ _ _ _ :: _) _ _); refine st_string T.bytes T.u8 T.str (HBV.out.ext HXP.out) ?_)
          | ((with_reducible show wpList _ _ _ (Oper.mk _ (Op.store _ _ _) _ _ _ _ :: _) _ _); refine st_put (vs := wtC wt0 (.slice none 0 0)) oAp T.rwtSize rfl (wt_one wt0 rfl) ?_; intro w4 ob4 hg4))
        refine bodyPost_ret (rwt_results2 rfl _ _ w.heap.size wt0 _ rfl ob4) rfl ?_
        exact ⟨_, rfl, sm_nil _, HXP.out.grown hg4 (Nat.le_refl _)⟩
      have e2 : putE ⟨k1, k2, k3, k4, L⟩ = (putW ⟨k1, k2, k3, k4, L⟩, 0) := by unfold putE; rw [if_neg (by simp [hc])]
      rw [e2] at P1
      simp only at P1
      have hce : (checkW ⟨k1, k2, k3, k4, L⟩ == 0) = true := by rw [hc]; rfl
      rw [hce, Bool.true_and] at hJ
      clear hce hc e2
      generalize putW ⟨k1, k2, k3, k4, L⟩ = pw at *
      by_cases heq : pw = b
      case neg =>
        have hz : (pw == b) = false := by rw [beq_eq_false_iff_ne]; exact heq
        rw [if_neg (by simp [heq])] at hJ
        subst hJ
        clear heq
        go_wp2_with (first
          | (go_at_call 23; refine P1.mono ?_; rintro e wp ⟨bv, rfl, hbv, hxp⟩
             obtain ⟨pv, cv, rfl, _⟩ := id hbv
             have oAp := gA.ext hxp
             have oBp := gB.ext hxp
             have d0 := oBp.cell (j := 0) (u := .int .i64 k1) rfl
             have d1 := oBp.cell (j := 1) (u := .int .i64 k2) rfl
             have d2 := oBp.cell (j := 2) (u := .int .i64 k3) rfl
             have d3 := oBp.cell (j := 3) (u := .int .i64 k4) rfl
             have d4 := oBp.cell (j := 4) (u := .slice po no co) rfl
             have HBW := Lib.hid hbv
             have HXP := Lib.hid (HXJ.out.trans hxp)
             have HOP := Lib.hid (ORow.keep HSO.out hxp)
             clear hbv)
          | ((with_reducible show wpList _ _ _ (Oper.mk _ (Op.convert _ _ _) _ _ _ _ :: _) _ _); have hq := HBW; refine st_string T.bytes T.u8 T.str HBW.out ?_)
          | ((with_reducible show wpList _ _ _ (Oper.mk _ (Op.convert _ _ _) _ _ _ _ :: _) _ _); refine st_string T.bytes T.u8 T.str (HBV.out.ext HXP.out) ?_)
          | ((with_reducible show wpList _ _ _ (Oper.mk _ (Op.store _ _ _) _ _ _ _ :: _) _ _); refine st_put (vs := wtC wt0 (.slice none 0 0)) oAp T.rwtSize rfl (wt_one wt0 rfl) ?_; intro w4 ob4 hg4))
        refine bodyPost_ret (rwt_results2 rfl _ _ w.heap.size wt0 _ rfl ob4) rfl ?_
        exact ⟨_, rfl, sm_nil _, HXP.out.grown hg4 (Nat.le_refl _)⟩
      case pos =>
        have hz : (pw == b) = true := by simp [heq]
        rw [if_pos (by simp [heq])] at hJ
        subst hJ
        clear heq
        go_wp2_with (first
          | (go_at_call 23; refine P1.mono ?_; rintro e wp ⟨bv, rfl, hbv, hxp⟩
             obtain ⟨pv, cv, rfl, _⟩ := id hbv
             have oAp := gA.ext hxp
             have oBp := gB.ext hxp
             have d0 := oBp.cell (j := 0) (u := .int .i64 k1) rfl
             have d1 := oBp.cell (j := 1) (u := .int .i64 k2) rfl
             have d2 := oBp.cell (j := 2) (u := .int .i64 k3) rfl
             have d3 := oBp.cell (j := 3) (u := .int .i64 k4) rfl
             have d4 := oBp.cell (j := 4) (u := .slice po no co) rfl
             have HBW := Lib.hid hbv
             have HXP := Lib.hid (HXJ.out.trans hxp)
             have HOP := Lib.hid (ORow.keep HSO.out hxp)
             clear hbv)
          | ((with_reducible show wpList _ _ _ (Oper.mk _ (Op.convert _ _ _) _ _ _ _ :: _) _ _); have hq := HBW; refine st_string T.bytes T.u8 T.str HBW.out ?_)
          | ((with_reducible show wpList _ _ _ (Oper.mk _ (Op.convert _ _ _) _ _ _ _ :: _) _ _); refine st_string T.bytes T.u8 T.str (HBV.out.ext HXP.out) ?_)
          | ((with_reducible show wpList _ _ _ (Oper.mk _ (Op.store _ _ _) _ _ _ _ :: _) _ _); refine st_put (vs := wtC ⟨k1, k2, k3, k4, L⟩ (.slice po no co)) oAp T.rwtSize rfl (wt_one ⟨k1, k2, k3, k4, L⟩ rfl) ?_; intro w4 ob4 hg4))
        refine bodyPost_ret (rwt_results2 rfl _ _ w.heap.size ⟨k1, k2, k3, k4, L⟩ _ rfl ob4) rfl ?_
        refine ⟨_, rfl, SmO.view (SmO.kept HOP.out hg4 (.inr fun e => ?_)), HXP.out.grown hg4 (Nat.le_refl _)⟩
        have h1 := (ORow.own HOP.out _ e).1
        have h2 := HNR.out
        omega
end Go.Proofs.Ytpejdompanhieaa
