/- What the document's Put of layer 35 lays. -/
import Derived.Test.YtpejdompanhieaaWdD
import Derived.Test.YtpejdompanhieaaVarR
namespace Go.Proofs.Ytpejdompanhieaa
open Go.RowKit

/-- Bytes of the call's own, apart from a block. -/
def OutV (w : World) (B b : Nat) (v : Value) (l : List UInt8) : Prop := FB w B v l ∧ v.ownBlock ≠ some b
theorem outv_slice {w : World} {B b : Nat} {v : Value} {l : List UInt8} (h : OutV w B b v l) : ∃ p c, FB w B (.slice p l.length c) l ∧ (Value.slice p l.length c).ownBlock ≠ some b ∧ v = .slice p l.length c := by
  obtain ⟨p, c, rfl, _⟩ := h.1.slice
  exact ⟨p, c, h.1, h.2, rfl⟩
theorem outv_new {w : World} {B : Nat} {v : Value} {l : List UInt8} (h : FB w B v l) : OutV w B w.heap.size v l := ⟨h, fun e => Nat.lt_irrefl _ (h.lt _ e).2⟩
set_option maxRecDepth 20000 in
set_option maxHeartbeats 4000000 in
theorem rputw_any (s : Wt) (v : Value) (w : World) (h : SmV w v s.opn) :
    Calls Try.prog 23 #[wtv s v] w fun e w' => ∃ bv, e = .returned (.tuple #[bv, .int .i64 (putE s).2]) ∧ BV w' bv (putE s).1 ∧ Ext w w' := by
  have hx0 := Ext.alloc w (.cells #[.int .i64 s.size, .int .i64 s.late, .int .i64 s.mark, .int .i64 s.drops, v] 24)
  have oa : ObjAt (w.alloc (.cells #[.int .i64 s.size, .int .i64 s.late, .int .i64 s.mark, .int .i64 s.drops, v] 24)) w.heap.size 24 (wtC s v) := heap_alloc_new w _
  have C1 := fun W hW => rcheck_any s v W (h.ext hW)
  obtain ⟨q, c, rfl, hnc, hcm⟩ := h.slice
  have a0 := oa.cell (j := 0) rfl
  have a1 := oa.cell (j := 1) rfl
  have a2 := oa.cell (j := 2) rfl
  have a3 := oa.cell (j := 3) rfl
  have a4 := oa.cell (j := 4) rfl
  have HH := Lib.hid h
  clear hnc hcm h
  by_cases hc : checkW s = 0
  case neg =>
    have e2 : putE s = ([], checkW s) := by unfold putE; rw [if_pos hc]
    rw [e2]
    simp only
    have hb : (checkW s != 0) = true := by rw [bne_iff_ne]; exact hc
    generalize checkW s = k at *
    clear hc e2
    go_enter Try.func23, Try.ntmps23
    go_wp2_with (first
      | (go_at_call 21; refine (C1 _ hx0).mono ?_; rintro e w1 ⟨rfl, hx1⟩))
    go_ret2
    exact ⟨_, rfl, BV.nil _, hx0.trans hx1⟩
  have e2 : putE s = (putW s, 0) := by unfold putE; rw [if_neg (by simp [hc])]
  rw [e2, putW_eq]
  simp only
  rw [hc] at C1
  obtain ⟨b1, b2, b3, b4, b5, b6, b7, b8, b9, b10, b11⟩ := checkW_ok hc
  have HMAY := Lib.hid b10
  have HHB : Hid (∀ n ∈ headL s, -9223372036854775808 ≤ n ∧ n ≤ 9223372036854775807) := Lib.hid fun n hn => by
    unfold headL at hn
    simp only [List.mem_cons, List.not_mem_nil, or_false] at hn
    omega
  have HLN := Lib.hid b9
  have HX0 := Lib.hid hx0
  clear b1 b2 b3 b4 b5 b6 b7 b8 b10 b11 e2 hc b9
  obtain ⟨RES, hres⟩ : ∃ r, putsV (headL s) ++ sumsV s.opn = r := ⟨_, rfl⟩
  rw [hres]
  have HRES := Lib.hid hres
  clear hres
  generalize hwa : w.alloc (.cells #[.int .i64 s.size, .int .i64 s.late, .int .i64 s.mark, .int .i64 s.drops, .slice q s.opn.length c] 24) = wa at *
  go_enter Try.func23, Try.ntmps23
  go_wp2_with (first
    | (go_at_call 21; refine (C1 _ hx0).mono ?_; rintro e w1 ⟨rfl, hx1⟩
       have b0 := hx1.cell a0
       have b1 := hx1.cell a1
       have b2 := hx1.cell a2
       have b3 := hx1.cell a3
       have b4 := hx1.cell a4))
  clear hwa
  have HB0 : Hid (ObjAt (w1.alloc (.cells #[.int .i64 s.size, .int .i64 s.late, .int .i64 s.mark, .int .i64 s.drops, .int .i64 (s.opn.length : Int)] 3)) w1.heap.size 3 ((headL s).map intv)) := Lib.hid (heap_alloc_new w1 _)
  have HX1 : Hid (Ext wa (w1.alloc (.cells #[.int .i64 s.size, .int .i64 s.late, .int .i64 s.mark, .int .i64 s.drops, .int .i64 (s.opn.length : Int)] 3))) := Lib.hid (hx1.trans (Ext.alloc _ _))
  have HO0 : Hid (OutV (w1.alloc (.cells #[.int .i64 s.size, .int .i64 s.late, .int .i64 s.mark, .int .i64 s.drops, .int .i64 (s.opn.length : Int)] 3)) wa.heap.size w1.heap.size (.slice none 0 0) []) := Lib.hid ⟨FB.nil _ _, fun e => by cases e⟩
  have HLE0 : Hid (([] : List UInt8).length ≤ 100000) := Lib.hid (Nat.zero_le _)
  clear hx1 b0 b1 b2 b3 b4 a0 a1 a2 a3 oa C1 hx0
  go_loopg [5, 7] (5) (fun k s5 s7 wi => ∃ (i : Nat) (yv : Value), s5 = yv ∧ s7 = .int .i64 i ∧ i ≤ 5 ∧ k = 5 - i ∧ Hid (OutV wi wa.heap.size w1.heap.size yv (([] : List UInt8) ++ putsV ((headL s).take i))) ∧ Hid (ObjAt wi w1.heap.size 3 ((headL s).map intv)) ∧ Hid (Ext wa wi))
  case atStart => exact ⟨0, _, rfl, rfl, Nat.zero_le _, rfl, Lib.hid (by rw [List.take_zero]; unfold putsV; simpa using HO0.out), HB0, HX1⟩
  case round =>
    obtain ⟨i, yv, e5, rfl, hi5, hk5, HOi, HBi, HXi⟩ := hrel
    replace e5 := e5.symm
    subst e5
    by_cases hlt5 : i < 5
    case pos =>
      have hii : (i : Int) < 5 := by omega
      have hil : i < (headL s).length := hlt5
      have m := HBi.out.cell (j := i) (u := intv (headL s)[i]) (by rw [List.getElem?_map, List.getElem?_eq_getElem hil]; rfl)
      have hbd := HHB.out _ (List.getElem_mem hil)
      have hsn : ([] : List UInt8) ++ putsV ((headL s).take (i + 1)) = ([] : List UInt8) ++ putsV ((headL s).take i) ++ putV (headL s)[i] := by rw [List.take_succ_eq_append_getElem hil, putsV_snoc, List.append_assoc]
      have hlen2 : (([] : List UInt8) ++ putsV ((headL s).take i)).length ≤ 1000000 := by
        have h1 := putsV_len ((headL s).take i)
        have h2 := HLE0.out
        rw [List.length_append]
        rw [List.length_take] at h1
        omega
      have hpl := putV_len (headL s)[i]
      generalize hL1 : ([] : List UInt8) ++ putsV ((headL s).take (i + 1)) = L1 at *
      generalize ([] : List UInt8) ++ putsV ((headL s).take i) = L at *
      generalize (headL s)[i] = z at *
      obtain ⟨p, c, hf, hne, e6⟩ := outv_slice HOi.out
      subst e6
      have HF := Lib.hid hf
      have HNE := Lib.hid hne
      have HLL := Lib.hid (And.intro hlen2 hpl)
      have HSN := Lib.hid hsn
      have HL1 := Lib.hid hL1
      have HBD := Lib.hid hbd
      have HQ : Hid (wrap64 ((i : Int) + 1) = ((i + 1 : Nat) : Int)) := Lib.hid (by unfold wrap64; omega)
      clear hf hne hlen2 hpl hsn hL1 hbd hil
      go_wp2_with (first
        | (go_at_call 50; refine (rput_any z HBD.out.1 HBD.out.2 _).mono ?_; rintro e wp ⟨vp, rfl, hfp, hxp⟩
           have hfo := HF.out.keep hxp
           have HXP := Lib.hid hxp
           have HBP := Lib.hid (HBi.out.ext hxp)
           clear hxp)
        | (at_builtin; refine st_append T.bytes hfo hfp.view ?_ (by have := HLL.out; omega) (Nat.le_trans HXi.out.size HXP.out.size); intro vq wq hfq hgq hoq))
      go_roundg (5 - (i + 1))
      case measure => omega
      case rel =>
        refine ⟨i + 1, _, rfl, (by first | exact congrArg (Value.int .i64) HQ.out | exact congrArg (Value.int .i64) (by omega)), hlt5, rfl, Lib.hid ?_, Lib.hid (HBP.out.kept hgq (fun e => HNE.out e.symm)), Lib.hid ((HXi.out.trans HXP.out).append hfo hgq)⟩
        rw [HL1.out, HSN.out]
        refine ⟨hfq, fun e => ?_⟩
        rcases hoq with h | h
        · exact HNE.out (h ▸ e)
        · have h1 := HBP.out.lt
          have h2 := Option.some.inj (h.symm.trans e)
          omega
    case neg =>
      have hje5 : i = 5 := by omega
      subst hje5
      have hii : ¬ (5 : Int) < 5 := by omega
      have hfull : ([] : List UInt8) ++ putsV ((headL s).take 5) = ([] : List UInt8) ++ putsV (headL s) := rfl
      clear hlt5
      obtain ⟨p, c2, hf, hne, e6⟩ := outv_slice HOi.out
      have HF0 : Hid (FB wr wa.heap.size (.slice p (([] : List UInt8) ++ putsV ((headL s).take 5)).length c2) (putsV (headL s) ++ sumsV (s.opn.take 0))) := Lib.hid (by rw [List.take_zero]; unfold sumsV; simpa [headL] using hf)
      generalize (([] : List UInt8) ++ putsV ((headL s).take 5)).length = n5 at e6 HF0
      subst e6
      clear hf hne HOi HBi hfull HO0 HB0 HLE0
      go_wp2_with fail
      go_loopg [5, 8] (s.opn.length) (fun k s5 s8 w9 => ∃ (j : Nat) (x : Value), s5 = x ∧ s8 = .int .i64 j ∧ j ≤ s.opn.length ∧ k = s.opn.length - j ∧ Hid (FB w9 wa.heap.size x (putsV (headL s) ++ sumsV (s.opn.take j))) ∧ Hid (Ext wa w9))
      case atStart => exact ⟨0, _, rfl, rfl, Nat.zero_le _, rfl, HF0, HXi⟩
      case round =>
        obtain ⟨j, x, e3, rfl, hj, hk, HFJ, HXJ⟩ := hrel
        replace e3 := e3.symm
        subst e3
        by_cases hlt : j < s.opn.length
        case neg =>
          have hje : j = s.opn.length := by omega
          subst hje
          have hi : ¬ (s.opn.length : Int) < (s.opn.length : Int) := by omega
          have b4 := HXJ.out.cell a4
          clear hlt
          go_wp2_with fail
          go_ret2
          refine ⟨_, rfl, ?_, HX0.out.trans HXJ.out⟩
          have h9 := HFJ.out.view
          rw [List.take_length, HRES.out] at h9
          exact h9
        have hi : (j : Int) < (s.opn.length : Int) := by omega
        obtain ⟨b, o, rfl, ⟨m0, m1, m2, m3, m4, m5⟩⟩ := sm_at (HH.out.ext (HX0.out.trans HXJ.out)) hlt
        have b4 := HXJ.out.cell a4
        have hsn : putsV (headL s) ++ sumsV (s.opn.take (j + 1)) = (putsV (headL s) ++ sumsV (s.opn.take j) ++ textV s.opn[j].key) ++ putsV (sumL s.opn[j]) := by rw [List.take_succ_eq_append_getElem hlt, sumsV_snoc]; simp only [List.append_assoc]
        have hmay := HMAY.out _ (List.getElem_mem hlt)
        have hm1 := mayS_in hmay
        have hm2 := mayS_total hmay
        have hlen2 : (putsV (headL s) ++ sumsV (s.opn.take j)).length ≤ 90000 := by
          have h1 := putsV_len (headL s)
          have h2 := sumsV_len (l := s.opn.take j) fun x hx => HMAY.out x (List.mem_of_mem_take hx)
          have h3 := HLN.out
          have e2 : (headL s).length = 5 := rfl
          rw [List.length_append]
          rw [List.length_take] at h2
          omega
        generalize hL1 : putsV (headL s) ++ sumsV (s.opn.take (j + 1)) = L1 at *
        generalize hL : putsV (headL s) ++ sumsV (s.opn.take j) = L at *
        generalize s.opn[j] = y at *
        have HSB : Hid (∀ n ∈ sumL y, -9223372036854775808 ≤ n ∧ n ≤ 9223372036854775807) := Lib.hid fun n hn => by
          unfold sumL at hn
          simp only [List.mem_cons, List.not_mem_nil, or_false] at hn
          omega
        have htl := textV_len y.key
        have hkl : y.key.length ≤ 64 := by omega
        have HLL := Lib.hid (And.intro hlen2 (And.intro htl hkl))
        have HSN := Lib.hid hsn
        have HL1 := Lib.hid hL1
        have HQ : Hid (wrap64 ((j : Int) + 1) = ((j + 1 : Nat) : Int)) := Lib.hid (by have := HLN.out; unfold wrap64; omega)
        have hxa := Ext.alloc wr (.cells #[.int .i64 y.start, .string ⟨y.key.toArray⟩, .int .i64 y.count, .int .i64 y.total, .int .i64 y.least, .int .i64 y.most] 69)
        have ox : ObjAt (wr.alloc (.cells #[.int .i64 y.start, .string ⟨y.key.toArray⟩, .int .i64 y.count, .int .i64 y.total, .int .i64 y.least, .int .i64 y.most] 69)) wr.heap.size 69 (smCells y) := heap_alloc_new wr _
        have x1 := ox.cell (j := 1) rfl
        have HXA := Lib.hid (HXJ.out.trans hxa)
        have HFA := Lib.hid (HFJ.out.keep hxa)
        have HXB := Lib.hid HXJ.out.size
        have hox := ox
        clear hmay hm1 hm2 hlen2 hL1 hL hsn hxa htl hkl ox
        obtain ⟨p5, c5, ex5, _⟩ := HFA.out.slice
        subst ex5
        go_wp2_with (first
          | (go_at_call 51; refine (rtextp_any y.key (by have := HLL.out.2.2; omega) _).mono ?_; rintro e wt ⟨vt, rfl, hft, hxt⟩
             have hfo := HFA.out.keep hxt
             have HXT := Lib.hid (HXA.out.trans hxt)
             have hoxt := hox.ext hxt
             clear hxt hox)
          | (at_builtin; refine st_append T.bytes hfo hft.view ?_ (by have := HLL.out; omega) HXT.out.size; intro vq wq hfq hgq hoq
             have HFQ := Lib.hid hfq
             have HXQ := Lib.hid (HXT.out.append hfo hgq)
             have hoxq := hoxt.kept hgq (fun e => by
               have h1 := (HFA.out.lt _ e.symm).2
               have h2 := (HFJ.out.lt _ e.symm).2
               omega)
             have y0 := hoxq.cell (j := 0) rfl
             have y2 := hoxq.cell (j := 2) rfl
             have y3 := hoxq.cell (j := 3) rfl
             have y4 := hoxq.cell (j := 4) rfl
             have y5 := hoxq.cell (j := 5) rfl
             clear hfq hfo hft hgq hoq hoxt hoxq))
        have HLE2 : Hid ((L ++ textV y.key).length ≤ 100000) := Lib.hid (by have := HLL.out; rw [List.length_append]; omega)
        have HFQ0 := Lib.hid HFQ.out
        generalize L ++ textV y.key = L2 at *
        have HB2 : Hid (ObjAt (wq.alloc (.cells #[.int .i64 y.start, .int .i64 y.count, .int .i64 y.total, .int .i64 y.least, .int .i64 y.most] 3)) wq.heap.size 3 ((sumL y).map intv)) := Lib.hid (heap_alloc_new wq _)
        have HX2 : Hid (Ext wa (wq.alloc (.cells #[.int .i64 y.start, .int .i64 y.count, .int .i64 y.total, .int .i64 y.least, .int .i64 y.most] 3))) := Lib.hid (HXQ.out.trans (Ext.alloc _ _))
        have HO2 : Hid (OutV (wq.alloc (.cells #[.int .i64 y.start, .int .i64 y.count, .int .i64 y.total, .int .i64 y.least, .int .i64 y.most] 3)) wa.heap.size wq.heap.size vq L2) := Lib.hid (by have h7 := outv_new HFQ.out; exact ⟨h7.1.keep (Ext.alloc _ _), h7.2⟩)
        clear y0 y2 y3 y4 y5 x1 m0 m1 m2 m3 m4 m5 b4
        go_loopg [5, 10] (5) (fun k s5 s10 wi => ∃ (i : Nat) (yv : Value), s5 = yv ∧ s10 = .int .i64 i ∧ i ≤ 5 ∧ k = 5 - i ∧ Hid (OutV wi wa.heap.size wq.heap.size yv (L2 ++ putsV ((sumL y).take i))) ∧ Hid (ObjAt wi wq.heap.size 3 ((sumL y).map intv)) ∧ Hid (Ext wa wi))
        case atStart => exact ⟨0, _, rfl, rfl, Nat.zero_le _, rfl, Lib.hid (by rw [List.take_zero]; unfold putsV; simpa using HO2.out), HB2, HX2⟩
        case round =>
          obtain ⟨i, yv, e5, rfl, hi5, hk5, HOi, HBi, HXi⟩ := hrel
          replace e5 := e5.symm
          subst e5
          by_cases hlt5 : i < 5
          case pos =>
            have hii : (i : Int) < 5 := by omega
            have hil : i < (sumL y).length := hlt5
            have m := HBi.out.cell (j := i) (u := intv (sumL y)[i]) (by rw [List.getElem?_map, List.getElem?_eq_getElem hil]; rfl)
            have hbd := HSB.out _ (List.getElem_mem hil)
            have hsn : L2 ++ putsV ((sumL y).take (i + 1)) = L2 ++ putsV ((sumL y).take i) ++ putV (sumL y)[i] := by rw [List.take_succ_eq_append_getElem hil, putsV_snoc, List.append_assoc]
            have hlen2 : (L2 ++ putsV ((sumL y).take i)).length ≤ 1000000 := by
              have h1 := putsV_len ((sumL y).take i)
              have h2 := HLE2.out
              rw [List.length_append]
              rw [List.length_take] at h1
              omega
            have hpl := putV_len (sumL y)[i]
            generalize hL1 : L2 ++ putsV ((sumL y).take (i + 1)) = L1 at *
            generalize L2 ++ putsV ((sumL y).take i) = L at *
            generalize (sumL y)[i] = z at *
            obtain ⟨p, c, hf, hne, e6⟩ := outv_slice HOi.out
            subst e6
            have HF := Lib.hid hf
            have HNE := Lib.hid hne
            have HLL := Lib.hid (And.intro hlen2 hpl)
            have HSN := Lib.hid hsn
            have HL1 := Lib.hid hL1
            have HBD := Lib.hid hbd
            have HQ : Hid (wrap64 ((i : Int) + 1) = ((i + 1 : Nat) : Int)) := Lib.hid (by unfold wrap64; omega)
            clear hf hne hlen2 hpl hsn hL1 hbd hil
            go_wp2_with (first
              | (go_at_call 50; refine (rput_any z HBD.out.1 HBD.out.2 _).mono ?_; rintro e wp ⟨vp, rfl, hfp, hxp⟩
                 have hfo := HF.out.keep hxp
                 have HXP := Lib.hid hxp
                 have HBP := Lib.hid (HBi.out.ext hxp)
                 clear hxp)
              | (at_builtin; refine st_append T.bytes hfo hfp.view ?_ (by have := HLL.out; omega) (Nat.le_trans HXi.out.size HXP.out.size); intro vq wq hfq hgq hoq))
            go_roundg (5 - (i + 1))
            case measure => omega
            case rel =>
              refine ⟨i + 1, _, rfl, (by first | exact congrArg (Value.int .i64) HQ.out | exact congrArg (Value.int .i64) (by omega)), hlt5, rfl, Lib.hid ?_, Lib.hid (HBP.out.kept hgq (fun e => HNE.out e.symm)), Lib.hid ((HXi.out.trans HXP.out).append hfo hgq)⟩
              rw [HL1.out, HSN.out]
              refine ⟨hfq, fun e => ?_⟩
              rcases hoq with h | h
              · exact HNE.out (h ▸ e)
              · have h1 := HBP.out.lt
                have h2 := Option.some.inj (h.symm.trans e)
                omega
          case neg =>
            have hje5 : i = 5 := by omega
            subst hje5
            have hii : ¬ (5 : Int) < 5 := by omega
            have hfull : L2 ++ putsV ((sumL y).take 5) = L2 ++ putsV (sumL y) := rfl
            clear hlt5
            go_wp2_with fail
            go_roundg (s.opn.length - (j + 1))
            case measure => omega
            case rel =>
              refine ⟨j + 1, _, rfl, congrArg (Value.int .i64) HQ.out, hlt, rfl, Lib.hid ?_, HXi⟩
              rw [HL1.out, HSN.out, ← hfull]
              exact HOi.out.1
end Go.Proofs.Ytpejdompanhieaa
