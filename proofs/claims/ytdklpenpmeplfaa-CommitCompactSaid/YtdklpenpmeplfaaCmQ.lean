/- What commit.Play computes. -/
import Derived.Test.YtdklpenpmeplfaaCmL
import Derived.Test.YtdklpenpmeplfaaCmI
namespace Go.Proofs.Ytdklpenpmeplfaa
open Go.RowKit

theorem playR_bad {l : List Cm} {r : Rec} {c : Cm} {e : Int} (h : getC r = (c, e)) (he : e ≠ 0) : playR l r = l := by unfold playR; rw [h, if_pos he]
theorem playR_dead {l : List Cm} {r : Rec} {c : Cm} (h : getC r = (c, 0)) (hd : r.dead = true) : playR l r = delC l c := by unfold playR; rw [h, if_neg (by simp), if_pos hd]
theorem playR_put {l : List Cm} {r : Rec} {c : Cm} (h : getC r = (c, 0)) (hd : r.dead = false) : playR l r = putC l c := by unfold playR; rw [h, if_neg (by simp), if_neg (by rw [hd]; simp)]
theorem delC_some {l : List Cm} {c : Cm} {i : Nat} (h : l.findIdx? (isC c) = some i) : delC l c = l.take i ++ l.drop (i + 1) := by unfold delC; rw [h]
theorem delC_none {l : List Cm} {c : Cm} (h : l.findIdx? (isC c) = none) : delC l c = l := by unfold delC; rw [h]
theorem putC_some {l : List Cm} {c : Cm} {i : Nat} (h : l.findIdx? (isC c) = some i) : putC l c = l.set i c := by unfold putC; rw [h]
theorem putC_some2 {l : List Cm} {c : Cm} {k : Nat} (h : l.findIdx? (isC c) = none) (h2 : l.findIdx? (geC c) = some k) : putC l c = l.take k ++ c :: l.drop k := by unfold putC insC; rw [h, h2]
theorem putC_none2 {l : List Cm} {c : Cm} (h : l.findIdx? (isC c) = none) (h2 : l.findIdx? (geC c) = none) : putC l c = l.take l.length ++ c :: l.drop l.length := by
  unfold putC insC; rw [h, h2, List.take_length, List.drop_length]
theorem placeF_some {p : Cm → Bool} {l : List Cm} {i : Nat} (h : l.findIdx? p = some i) : placeF p l = (i : Int) := by unfold placeF; rw [h]
theorem placeF_none {p : Cm → Bool} {l : List Cm} (h : l.findIdx? p = none) : placeF p l = -1 := by unfold placeF; rw [h]
set_option maxRecDepth 20000 in
set_option maxHeartbeats 4000000 in
theorem play_any (v : Value) (xs : List Cm) (b : Bat) (bv : Value) (w : World) (h : CmV w v xs) (hb : RecV w bv b.recs) (hl : xs.length + b.recs.length ≤ 1000) (hf : ∀ r ∈ b.recs, r.key.length ≤ 1000 ∧ r.value.length ≤ 1000) :
    Calls Try.prog 21 #[v, batv b bv] w fun e w' => ∃ v', e = .returned v' ∧ CmO 33 w' w.heap.size v' (playB xs b.recs) ∧ Ext w w' := by
  obtain ⟨b0, b1, b2, b3, b4, rs⟩ := b
  simp only at *
  obtain ⟨p, c, rfl, hnc, hcm⟩ := hb.slice
  unfold maxLen at hcm
  have hx0 := Ext.alloc w (.cells #[.int .i64 b0, .int .i64 b1, .int .i64 b2, .int .i64 b3, .int .i64 b4, .slice p rs.length c] 46)
  have oB : ObjAt (w.alloc (.cells #[.int .i64 b0, .int .i64 b1, .int .i64 b2, .int .i64 b3, .int .i64 b4, .slice p rs.length c] 46)) w.heap.size 46 [.int .i64 b0, .int .i64 b1, .int .i64 b2, .int .i64 b3, .int .i64 b4, .slice p rs.length c] := heap_alloc_new w _
  have cB := oB.cell (j := 5) rfl
  have L1 := cloneC_any v xs _ (h.ext hx0) (by omega)
  have HL := Lib.hid hl
  have HF := Lib.hid hf
  have HX0 := Lib.hid hx0
  clear hl hf oB h hx0
  go_enter Try.func21, Try.ntmps21
  go_wp2_with (go_at_call 41; refine L1.mono ?_; rintro e w1 ⟨v1, rfl, ho1, hx1⟩
               have cB1 := hx1.cell cB)
  have HO1 := Lib.hid (ORow.base ho1 HX0.out.size)
  have HX1 := Lib.hid (HX0.out.trans hx1)
  clear ho1 hx1 cB cB1 L1
  go_loopg [5, 17] (rs.length) (fun k s5 s17 wr => ∃ (j : Nat) (x : Value), s5 = x ∧ s17 = .int .i64 j ∧ j ≤ rs.length ∧ k = rs.length - j ∧ Hid (CmO 33 wr w.heap.size x (playB xs (rs.take j))) ∧ Hid (Ext w wr))
  case atStart => exact ⟨0, _, rfl, rfl, Nat.zero_le _, rfl, HO1, HX1⟩
  case round =>
    obtain ⟨j, x, e5, rfl, hj, hk, HO, HX⟩ := hrel
    replace e5 := e5.symm
    subst e5
    obtain ⟨wo, hwo⟩ : ∃ wo, wo = wr := ⟨_, rfl⟩
    subst hwo
    by_cases hlt : j < rs.length
    case neg =>
      have hje : j = rs.length := by omega
      subst hje
      have hi : ¬ (rs.length : Int) < (rs.length : Int) := by omega
      have ho := HO.out
      rw [List.take_length] at ho
      clear hlt
      go_wp2_with fail
      go_ret
      exact ⟨_, rfl, ho, HX.out⟩
    have hi : (j : Int) < (rs.length : Int) := by omega
    obtain ⟨bb, oo, rfl, ⟨m0, m1, m2, m3, m4, m5⟩, _, _⟩ := rec_at (hb.ext HX.out) hlt
    have hfr := HF.out rs[j] (List.getElem_mem hlt)
    have hsn := playB_snoc xs rs j hlt
    have hpl := playB_length (rs.take j) xs
    rw [List.length_take, Nat.min_eq_left hj] at hpl
    obtain ⟨cur, hcur⟩ : ∃ cur, playB xs (rs.take j) = cur := ⟨_, rfl⟩
    rw [hcur] at hsn hpl HO
    have HPL : Hid (cur.length ≤ 1000) := Lib.hid (by have := HL.out; omega)
    clear hcur hpl
    generalize rs[j] = r at *
    obtain ⟨d, t, kd, key, dead, val⟩ := r
    simp only at hfr m0 m1 m2 m3 m4 m5
    have C1 := fun W => cget_any ⟨d, t, kd, key, dead, val⟩ W hfr.1 hfr.2
    obtain ⟨⟨g, s, ix, o⟩, er, hG⟩ : ∃ (c : Cm) (e : Int), getC ⟨d, t, kd, key, dead, val⟩ = (c, e) := ⟨_, _, rfl⟩
    rw [hG] at C1
    simp only at C1
    have hxa := Ext.alloc wo (.cells #[.int .i64 d, .int .i64 t, .bool kd, .string ⟨key.toArray⟩, .bool dead, .string ⟨val.toArray⟩] 25)
    have oa : ObjAt (wo.alloc (.cells #[.int .i64 d, .int .i64 t, .bool kd, .string ⟨key.toArray⟩, .bool dead, .string ⟨val.toArray⟩] 25)) wo.heap.size 25 (recCells ⟨d, t, kd, key, dead, val⟩) := heap_alloc_new wo _
    have k0 := oa.cell (j := 0) rfl
    have k1 := oa.cell (j := 1) rfl
    have k2 := oa.cell (j := 2) rfl
    have k3 := oa.cell (j := 3) rfl
    have k4 := oa.cell (j := 4) rfl
    have k5 := oa.cell (j := 5) rfl
    have HOA := Lib.hid oa
    have HXA := Lib.hid hxa
    clear hfr oa hxa
    obtain ⟨p5, c5, e5, hn5, hc5⟩ := HO.out.view.slice
    unfold maxLen at hc5
    have HO5 := HO
    subst e5
    clear HO
    by_cases he : er = 0
    case neg =>
      have hbe : (er != 0) = true := by rw [bne_iff_ne]; exact he
      have HSN := Lib.hid (hsn.trans (playR_bad hG he))
      clear hsn hG he
      go_wp2_with (first
        | (go_at_call 14; refine (C1 _).mono ?_; rintro e w1 ⟨rfl, hx1⟩
           have hxb := Ext.alloc w1 (.cells #[.string ⟨g.toArray⟩, .string ⟨s.toArray⟩, .int .i64 ix, .int .i64 o] 33)
           have oq : ObjAt (w1.alloc (.cells #[.string ⟨g.toArray⟩, .string ⟨s.toArray⟩, .int .i64 ix, .int .i64 o] 33)) w1.heap.size 33 (cmCells ⟨g, s, ix, o⟩) := heap_alloc_new w1 _
           have q0 := oq.cell (j := 0) rfl
           have q1 := oq.cell (j := 1) rfl
           have q2 := oq.cell (j := 2) rfl
           have q3 := oq.cell (j := 3) rfl
           have HXB := Lib.hid ((HXA.out.trans hx1).trans hxb)
           have HOB := Lib.hid (HO5.out.keep HXB.out)
           have HOQ := Lib.hid oq
           have n4 := (hx1.trans hxb).cell k4
           clear hxb oq))
      go_roundg (rs.length - (j + 1))
      case measure => omega
      case rel => exact ⟨j + 1, _, rfl, by go_num, hlt, rfl, Lib.hid (by rw [HSN.out]; exact HOB.out), Lib.hid (HX.out.trans HXB.out)⟩
    subst he
    cases hfi : cur.findIdx? (isC ⟨g, s, ix, o⟩) with
    | some i =>
      obtain ⟨hic, _⟩ := find_some hfi
      have HPF := Lib.hid (placeF_some hfi)
      have hii : (i : Int) < (cur.length : Int) := by omega
      cases dead with
      | true =>
        have HSN := Lib.hid (hsn.trans ((playR_dead hG rfl).trans (delC_some hfi)))
        clear hsn hG hfi
        go_wp2_with (first
          | (go_at_call 14; refine (C1 _).mono ?_; rintro e w1 ⟨rfl, hx1⟩
             have hxb := Ext.alloc w1 (.cells #[.string ⟨g.toArray⟩, .string ⟨s.toArray⟩, .int .i64 ix, .int .i64 o] 33)
             have oq : ObjAt (w1.alloc (.cells #[.string ⟨g.toArray⟩, .string ⟨s.toArray⟩, .int .i64 ix, .int .i64 o] 33)) w1.heap.size 33 (cmCells ⟨g, s, ix, o⟩) := heap_alloc_new w1 _
             have q0 := oq.cell (j := 0) rfl
             have q1 := oq.cell (j := 1) rfl
             have q2 := oq.cell (j := 2) rfl
             have q3 := oq.cell (j := 3) rfl
             have HXB := Lib.hid ((HXA.out.trans hx1).trans hxb)
             have HOB := Lib.hid (HO5.out.keep HXB.out)
             have HOQ := Lib.hid oq
             have n4 := (hx1.trans hxb).cell k4
             clear hxb oq)
          | (go_at_call 42; refine (place_any _ cur ⟨g, s, ix, o⟩ _ (CmO.view HOB.out)).mono ?_; rintro e w2 ⟨e9, hx2⟩; rw [HPF.out] at e9; subst e9
             have n5 := hx2.cell n4
             have r0 := hx2.cell q0
             have r1 := hx2.cell q1
             have r2 := hx2.cell q2
             have r3 := hx2.cell q3
             have HOC := Lib.hid (HOB.out.keep hx2))
          | (go_at_call 43; refine (delete_any _ cur i _ _ HOC.out hic (by have := HPL.out; omega)).mono ?_; rintro e w3 ⟨v3, rfl, ho3, hg3, hw3⟩
             have HO3 := Lib.hid ho3
             have HG3 := Lib.hid hg3
             clear ho3 hg3 hw3))
        go_roundg (rs.length - (j + 1))
        case measure => omega
        case rel => exact ⟨j + 1, _, rfl, by go_num, hlt, rfl, Lib.hid (by rw [HSN.out]; exact HO3.out), Lib.hid (HOC.out.grown (HX.out.trans (HXB.out.trans hx2)) HG3.out)⟩
      | false =>
        have HSN := Lib.hid (hsn.trans ((playR_put hG rfl).trans (putC_some hfi)))
        clear hsn hG hfi
        go_wp2_with (first
          | (go_at_call 14; refine (C1 _).mono ?_; rintro e w1 ⟨rfl, hx1⟩
             have hxb := Ext.alloc w1 (.cells #[.string ⟨g.toArray⟩, .string ⟨s.toArray⟩, .int .i64 ix, .int .i64 o] 33)
             have oq : ObjAt (w1.alloc (.cells #[.string ⟨g.toArray⟩, .string ⟨s.toArray⟩, .int .i64 ix, .int .i64 o] 33)) w1.heap.size 33 (cmCells ⟨g, s, ix, o⟩) := heap_alloc_new w1 _
             have q0 := oq.cell (j := 0) rfl
             have q1 := oq.cell (j := 1) rfl
             have q2 := oq.cell (j := 2) rfl
             have q3 := oq.cell (j := 3) rfl
             have HXB := Lib.hid ((HXA.out.trans hx1).trans hxb)
             have HOB := Lib.hid (HO5.out.keep HXB.out)
             have HOQ := Lib.hid oq
             have n4 := (hx1.trans hxb).cell k4
             clear hxb oq)
          | (go_at_call 42; refine (place_any _ cur ⟨g, s, ix, o⟩ _ (CmO.view HOB.out)).mono ?_; rintro e w2 ⟨e9, hx2⟩; rw [HPF.out] at e9; subst e9
             have n5 := hx2.cell n4
             have r0 := hx2.cell q0
             have r1 := hx2.cell q1
             have r2 := hx2.cell q2
             have r3 := hx2.cell q3
             have HOC := Lib.hid (HOB.out.keep hx2)
             obtain ⟨g9, c9, C9, e9, hB9, hh9, hl9, hset⟩ := HOC.out.setAt hic
             cases e9
             have HSET := Lib.hid hset
             have HL9 := Lib.hid hl9
             have HH9 := Lib.hid hh9
             clear hset hl9 hh9 hB9)
          | ((with_reducible show wpList _ _ _ (Oper.mk _ (Op.store _ _ _) _ _ _ _ :: _) _ _); refine st_store (vs := cmCells ⟨g, s, ix, o⟩) HH9.out T.cmSize (by have h1 := HL9.out; show i * 4 + 4 ≤ _; omega) (cm_one _) ?_; intro w9 hh hg9
             have HG9 := Lib.hid hg9
             have HHN := Lib.hid hh
             clear hh hg9))
        go_roundg (rs.length - (j + 1))
        case measure => omega
        case rel =>
          have ho9 := HSET.out w9 (cmCells ⟨g, s, ix, o⟩) ⟨g, s, ix, o⟩ rfl (cm_one _) HHN.out HG9.out (fun _ _ => rfl)
          have hl9 : (cur.set i ⟨g, s, ix, o⟩).length = cur.length := List.length_set ..
          exact ⟨j + 1, _, rfl, by go_num, hlt, rfl, Lib.hid (by rw [HSN.out]; exact ho9), Lib.hid (HOC.out.grown (HX.out.trans (HXB.out.trans hx2)) HG9.out)⟩
    | none =>
      have HPF := Lib.hid (placeF_none hfi)
      cases dead with
      | true =>
        have HSN := Lib.hid (hsn.trans ((playR_dead hG rfl).trans (delC_none hfi)))
        clear hsn hG hfi
        go_wp2_with (first
          | (go_at_call 14; refine (C1 _).mono ?_; rintro e w1 ⟨rfl, hx1⟩
             have hxb := Ext.alloc w1 (.cells #[.string ⟨g.toArray⟩, .string ⟨s.toArray⟩, .int .i64 ix, .int .i64 o] 33)
             have oq : ObjAt (w1.alloc (.cells #[.string ⟨g.toArray⟩, .string ⟨s.toArray⟩, .int .i64 ix, .int .i64 o] 33)) w1.heap.size 33 (cmCells ⟨g, s, ix, o⟩) := heap_alloc_new w1 _
             have q0 := oq.cell (j := 0) rfl
             have q1 := oq.cell (j := 1) rfl
             have q2 := oq.cell (j := 2) rfl
             have q3 := oq.cell (j := 3) rfl
             have HXB := Lib.hid ((HXA.out.trans hx1).trans hxb)
             have HOB := Lib.hid (HO5.out.keep HXB.out)
             have HOQ := Lib.hid oq
             have n4 := (hx1.trans hxb).cell k4
             clear hxb oq)
          | (go_at_call 42; refine (place_any _ cur ⟨g, s, ix, o⟩ _ (CmO.view HOB.out)).mono ?_; rintro e w2 ⟨e9, hx2⟩; rw [HPF.out] at e9; subst e9
             have n5 := hx2.cell n4
             have r0 := hx2.cell q0
             have r1 := hx2.cell q1
             have r2 := hx2.cell q2
             have r3 := hx2.cell q3
             have HOC := Lib.hid (HOB.out.keep hx2)))
        go_roundg (rs.length - (j + 1))
        case measure => omega
        case rel => exact ⟨j + 1, _, rfl, by go_num, hlt, rfl, Lib.hid (by rw [HSN.out]; exact HOC.out), Lib.hid (HX.out.trans (HXB.out.trans hx2))⟩
      | false =>
        cases hfg : cur.findIdx? (geC ⟨g, s, ix, o⟩) with
        | some i =>
          obtain ⟨hic, _⟩ := find_some hfg
          have HIL := Lib.hid (Nat.le_of_lt hic)
          have HPG := Lib.hid (placeF_some hfg)
          have HSN := Lib.hid (hsn.trans ((playR_put hG rfl).trans (putC_some2 hfi hfg)))
          clear hsn hG hfi hfg
          go_wp2_with (first
            | (go_at_call 14; refine (C1 _).mono ?_; rintro e w1 ⟨rfl, hx1⟩
               have hxb := Ext.alloc w1 (.cells #[.string ⟨g.toArray⟩, .string ⟨s.toArray⟩, .int .i64 ix, .int .i64 o] 33)
               have oq : ObjAt (w1.alloc (.cells #[.string ⟨g.toArray⟩, .string ⟨s.toArray⟩, .int .i64 ix, .int .i64 o] 33)) w1.heap.size 33 (cmCells ⟨g, s, ix, o⟩) := heap_alloc_new w1 _
               have q0 := oq.cell (j := 0) rfl
               have q1 := oq.cell (j := 1) rfl
               have q2 := oq.cell (j := 2) rfl
               have q3 := oq.cell (j := 3) rfl
               have HXB := Lib.hid ((HXA.out.trans hx1).trans hxb)
               have HOB := Lib.hid (HO5.out.keep HXB.out)
               have HOQ := Lib.hid oq
               have n4 := (hx1.trans hxb).cell k4
               clear hxb oq)
            | (go_at_call 42; refine (place_any _ cur ⟨g, s, ix, o⟩ _ (CmO.view HOB.out)).mono ?_; rintro e w2 ⟨e9, hx2⟩; rw [HPF.out] at e9; subst e9
               have n5 := hx2.cell n4
               have r0 := hx2.cell q0
               have r1 := hx2.cell q1
               have r2 := hx2.cell q2
               have r3 := hx2.cell q3
               have HOC := Lib.hid (HOB.out.keep hx2))
            | (go_at_call 44; refine (idxPlay_any w1.heap.size (geC ⟨g, s, ix, o⟩) _ cur w2 (CmO.view HOC.out) (fun y W hW => play1_any w1.heap.size ⟨g, s, ix, o⟩ y W ((HOQ.out.ext hx2).ext hW))).mono ?_; rintro e w3 ⟨e9, hx3⟩; rw [HPG.out] at e9; subst e9
               have s0 := hx3.cell r0
               have s1 := hx3.cell r1
               have s2 := hx3.cell r2
               have s3 := hx3.cell r3
               have HOD := Lib.hid (HOC.out.keep hx3)
               have HXD := Lib.hid (HX.out.trans (HXB.out.trans (hx2.trans hx3)))
               have hxl := Ext.alloc w3 (.cells #[.string ⟨g.toArray⟩, .string ⟨s.toArray⟩, .int .i64 ix, .int .i64 o] 33)
               have I3 := insC_any (S := fun _ => True) (x := (⟨g, s, ix, o⟩ : Cm)) (i := i) (vb := w3.heap.size) (vs := cmCells ⟨g, s, ix, o⟩) (HOD.out.keep hxl) (heap_alloc_new w3 _) (fun e => Nat.lt_irrefl _ (HOD.out.own _ e).2) rfl (cm_one _) (fun _ _ => rfl) HIL.out (by have := HPL.out; omega) (by have h1 := HXD.out.size; have h2 := hxl.size; omega)
               have HXL := Lib.hid hxl
               clear hxl)
            | (go_at_call 47; refine I3.mono ?_; rintro e w4 ⟨v4, rfl, ho4, hg4, hw4⟩
               have HO4 := Lib.hid ho4
               have HG4 := Lib.hid hg4
               clear ho4 hg4 hw4))
          go_roundg (rs.length - (j + 1))
          case measure => omega
          case rel => exact ⟨j + 1, _, rfl, by go_num, hlt, rfl, Lib.hid (by rw [HSN.out]; exact HO4.out), Lib.hid ((HOD.out.keep HXL.out).grown (HXD.out.trans HXL.out) HG4.out)⟩
        | none =>
          have HPG := Lib.hid (placeF_none hfg)
          have HSN := Lib.hid (hsn.trans ((playR_put hG rfl).trans (putC_none2 hfi hfg)))
          clear hsn hG hfi hfg
          go_wp2_with (first
            | (go_at_call 14; refine (C1 _).mono ?_; rintro e w1 ⟨rfl, hx1⟩
               have hxb := Ext.alloc w1 (.cells #[.string ⟨g.toArray⟩, .string ⟨s.toArray⟩, .int .i64 ix, .int .i64 o] 33)
               have oq : ObjAt (w1.alloc (.cells #[.string ⟨g.toArray⟩, .string ⟨s.toArray⟩, .int .i64 ix, .int .i64 o] 33)) w1.heap.size 33 (cmCells ⟨g, s, ix, o⟩) := heap_alloc_new w1 _
               have q0 := oq.cell (j := 0) rfl
               have q1 := oq.cell (j := 1) rfl
               have q2 := oq.cell (j := 2) rfl
               have q3 := oq.cell (j := 3) rfl
               have HXB := Lib.hid ((HXA.out.trans hx1).trans hxb)
               have HOB := Lib.hid (HO5.out.keep HXB.out)
               have HOQ := Lib.hid oq
               have n4 := (hx1.trans hxb).cell k4
               clear hxb oq)
            | (go_at_call 42; refine (place_any _ cur ⟨g, s, ix, o⟩ _ (CmO.view HOB.out)).mono ?_; rintro e w2 ⟨e9, hx2⟩; rw [HPF.out] at e9; subst e9
               have n5 := hx2.cell n4
               have r0 := hx2.cell q0
               have r1 := hx2.cell q1
               have r2 := hx2.cell q2
               have r3 := hx2.cell q3
               have HOC := Lib.hid (HOB.out.keep hx2))
            | (go_at_call 44; refine (idxPlay_any w1.heap.size (geC ⟨g, s, ix, o⟩) _ cur w2 (CmO.view HOC.out) (fun y W hW => play1_any w1.heap.size ⟨g, s, ix, o⟩ y W ((HOQ.out.ext hx2).ext hW))).mono ?_; rintro e w3 ⟨e9, hx3⟩; rw [HPG.out] at e9; subst e9
               have s0 := hx3.cell r0
               have s1 := hx3.cell r1
               have s2 := hx3.cell r2
               have s3 := hx3.cell r3
               have HOD := Lib.hid (HOC.out.keep hx3)
               have HXD := Lib.hid (HX.out.trans (HXB.out.trans (hx2.trans hx3)))
               have hxl := Ext.alloc w3 (.cells #[.string ⟨g.toArray⟩, .string ⟨s.toArray⟩, .int .i64 ix, .int .i64 o] 33)
               have I3 := insC_any (S := fun _ => True) (x := (⟨g, s, ix, o⟩ : Cm)) (i := cur.length) (vb := w3.heap.size) (vs := cmCells ⟨g, s, ix, o⟩) (HOD.out.keep hxl) (heap_alloc_new w3 _) (fun e => Nat.lt_irrefl _ (HOD.out.own _ e).2) rfl (cm_one _) (fun _ _ => rfl) (Nat.le_refl _) (by have := HPL.out; omega) (by have h1 := HXD.out.size; have h2 := hxl.size; omega)
               have HXL := Lib.hid hxl
               clear hxl)
            | (go_at_call 47; refine I3.mono ?_; rintro e w4 ⟨v4, rfl, ho4, hg4, hw4⟩
               have HO4 := Lib.hid ho4
               have HG4 := Lib.hid hg4
               clear ho4 hg4 hw4))
          go_roundg (rs.length - (j + 1))
          case measure => omega
          case rel => exact ⟨j + 1, _, rfl, by go_num, hlt, rfl, Lib.hid (by rw [HSN.out]; exact HO4.out), Lib.hid ((HOD.out.keep HXL.out).grown (HXD.out.trans HXL.out) HG4.out)⟩

end Go.Proofs.Ytdklpenpmeplfaa
