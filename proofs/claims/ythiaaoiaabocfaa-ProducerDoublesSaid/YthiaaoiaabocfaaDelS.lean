/- slices.DeleteFunc of rows of batches of a producer, and producer.Cut. -/
import Derived.Test.YthiaaoiaabocfaaClE
import Derived.Test.YthiaaoiaabocfaaPrA
namespace Go.Proofs.Ythiaaoiaabocfaa
open Go.RowKit

abbrev snVals (x : Sn) : List Value := snCells x
theorem sn_chunk (x : Sn) : ∀ u ∈ snCells x, u.oneCell' = true := fun u hu => by
  unfold snCells at hu
  simp only [List.mem_cons, List.not_mem_nil, or_false] at hu
  rcases hu with rfl | rfl | rfl <;> rfl
theorem T.seenSize : (Try.prog.info? 73).map (·.size) = some 3 := by kernel_rfl
set_option maxHeartbeats 400000 in
theorem cut1_any (g : Nat) (next : Int) (s : Sn) (w : World) (hc : w.cell? ⟨g, 0, none⟩ = some (.int .i64 next)) :
    Calls Try.prog 39 #[snv s, .pointer (some ⟨g, 0, none⟩)] w fun e w' => e = .returned (.bool (!(keepS next s))) ∧ Ext w w' := by
  obtain ⟨a, b, l⟩ := s
  have hx0 := Ext.alloc w (.cells #[.int .i64 a, .int .i64 b, .int .i64 l] 73)
  have hc0 := hx0.cell hc
  have hk : (!(keepS next ⟨a, b, l⟩)) = decide (next < wrap64 (l + b)) := by
    unfold keepS
    simp only
    rw [← decide_not]
    congr 1
    rw [Int.not_le]
  rw [hk]
  clear hk
  go_enter Try.func39, Try.ntmps39
  go_wp2_with fail
  go_ret
  exact ⟨rfl, hx0⟩
set_option maxHeartbeats 1000000 in
theorem idxCut_any (g : Nat) (p : Sn → Bool) (v : Value) (t : List Sn) (w : World) (h : SnV w v t)
    (hcl : ∀ (s : Sn) (W : World), Ext w W → Calls Try.prog 39 #[snv s, .pointer (some ⟨g, 0, none⟩)] W fun e w' => e = .returned (.bool (p s)) ∧ Ext W w') :
    Calls Try.prog 43 #[v, .func (.func 39) #[] #[.pointer (some ⟨g, 0, none⟩)]] w fun e w' => e = .returned (.int .i64 (placeF p t)) ∧ Ext w w' := by
  obtain ⟨q, c, rfl, hn, hc⟩ := h.slice
  unfold maxLen at hc
  go_enter Try.func43, Try.ntmps43
  go_wp2_with fail
  go_loopg [8] (t.length) (fun k s8 wr => ∃ j : Nat, s8 = .int .i64 j ∧ j ≤ t.length ∧ k = t.length - j ∧ Hid (∀ i x, i < j → t[i]? = some x → p x = false) ∧ Ext w wr)
  case atStart => exact ⟨0, rfl, Nat.zero_le _, rfl, fun i x hi => by omega, Ext.refl _⟩
  case round =>
    obtain ⟨j, rfl, hj, hk, HA, hx⟩ := hrel
    by_cases hlt : j < t.length
    case pos =>
      have hi : (j : Int) < (t.length : Int) := by omega
      obtain ⟨b, o, rfl, ⟨m0, m1, m2⟩⟩ := sn_at (h.ext hx) hlt
      have C1 := hcl t[j] wr hx
      have hget : t[j]? = some t[j] := List.getElem?_eq_getElem hlt
      have HGET := Lib.hid hget
      generalize t[j] = en at *
      obtain ⟨e0, e1, l⟩ := en
      simp only at *
      clear hget
      cases hb : p ⟨e0, e1, l⟩ with
      | true =>
        rw [hb] at C1
        have HB := Lib.hid hb
        clear hb
        go_wp2_with (go_at_call 39; refine C1.mono ?_; rintro e w' ⟨rfl, hx2⟩)
        go_ret
        refine ⟨?_, hx.trans hx2⟩
        have hje : t[j] = ⟨e0, e1, l⟩ := by have := HGET.out; rw [List.getElem?_eq_getElem hlt] at this; exact Option.some.inj this
        unfold placeF
        rw [find_found hlt (by rw [hje]; exact HB.out) fun i x hi hx => HA.out i x hi hx]
        rfl
      | false =>
        rw [hb] at C1
        have HB := Lib.hid hb
        clear hb
        go_wp2_with (go_at_call 39; refine C1.mono ?_; rintro e w' ⟨rfl, hx2⟩)
        go_roundg (t.length - (j + 1))
        case measure => omega
        case rel =>
          refine ⟨j + 1, by go_num, hlt, rfl, fun i x hi hxx => ?_, hx.trans hx2⟩
          by_cases hij : i = j
          · subst hij
            have := HGET.out
            rw [hxx] at this
            cases this
            exact HB.out
          · exact HA.out i x (by omega) hxx
    case neg =>
      have hje : j = t.length := by omega
      subst hje
      have hi : ¬ (t.length : Int) < (t.length : Int) := by omega
      clear hlt
      go_wp2_with fail
      go_ret
      refine ⟨?_, hx⟩
      unfold placeF
      rw [find_none fun i x hxx => HA.out i x (List.getElem?_eq_some_iff.1 hxx).1 hxx]
      rfl
set_option maxRecDepth 20000 in
set_option maxHeartbeats 4000000 in
theorem delS_any (g : Nat) (del : Sn → Bool) (v : Value) (xs : List Sn) (w : World) (B : Nat) (h : SnO 73 w B v xs) (hB : B ≤ w.heap.size)
    (hcl : ∀ (s : Sn) (W : World), w.grownBy W v.ownBlock → Calls Try.prog 39 #[snv s, .pointer (some ⟨g, 0, none⟩)] W fun e w' => e = .returned (.bool (del s)) ∧ Ext W w') :
    Calls Try.prog 38 #[v, .func (.func 39) #[] #[.pointer (some ⟨g, 0, none⟩)]] w fun e w' => ∃ v', e = .returned v' ∧ SnO 73 w' B v' (xs.filter fun s => !(del s)) ∧ w.grownBy w' v.ownBlock ∧ v'.ownBlock = v.ownBlock := by
  obtain ⟨q, c, e1, hn, hc⟩ := h.view.slice
  have I1 := idxCut_any g del v xs w h.view fun s W hW => hcl s W (hW.grownBy _)
  have HCL := Lib.hid hcl
  clear hcl
  cases hfi : xs.findIdx? del with
  | none =>
    have hpl : placeF del xs = -1 := by unfold placeF; rw [hfi]
    rw [hpl] at I1
    have hk := Lib.hid (kept_all hfi)
    have HH := Lib.hid h
    subst e1
    clear hfi hpl h
    go_enter Try.func38, Try.ntmps38
    go_wp2_with (go_at_call 43; refine I1.mono ?_; rintro e w1 ⟨rfl, hx1⟩)
    go_ret
    refine ⟨_, rfl, ?_, hx1.grownBy _, rfl⟩
    rw [hk.out]
    exact HH.out.keep hx1
  | some i0 =>
    have hpl : placeF del xs = (i0 : Int) := by unfold placeF; rw [hfi]
    rw [hpl] at I1
    obtain ⟨hi0, hst⟩ := kept_start hfi
    have hne : ((i0 : Int) == -1) = false := by simp
    have HST := Lib.hid hst
    obtain ⟨g1, c1, C1, e9, hBg, hgg, _⟩ := h.setAt hi0
    rw [e1] at e9
    cases e9
    subst e1
    have HH := Lib.hid h
    have HBG := Lib.hid hBg
    unfold maxLen at hc
    clear hfi hpl h hst hgg hBg
    go_enter Try.func38, Try.ntmps38
    go_wp2_with (go_at_call 43; refine I1.mono ?_; rintro e w1 ⟨rfl, hx1⟩)
    clear I1
    go_loopg [5, 6] (xs.length - (i0 + 1)) (fun k s5 s6 wr => ∃ (i j : Nat) (ys : List Sn), s5 = .int .i64 i ∧ s6 = .int .i64 j ∧ i < j ∧ j ≤ xs.length ∧ k = xs.length - j ∧ Hid (ys.length = xs.length ∧ ys.take i = (xs.take j).filter (fun s => !(del s)) ∧ ys.drop j = xs.drop j) ∧ Hid (SnO 73 wr B (.slice (some ⟨g1, 0, none⟩) xs.length c) ys) ∧ Hid (w.grownBy wr (some g1)))
    case atStart => exact ⟨i0, i0 + 1, xs, rfl, by go_num, Nat.lt_succ_self _, hi0, by omega, Lib.hid ⟨rfl, HST.out, rfl⟩, Lib.hid (HH.out.keep hx1), Lib.hid (hx1.grownBy _)⟩
    case round =>
      obtain ⟨i, j, ys, rfl, rfl, hij, hj, hk, HK, HO, HG⟩ := hrel
      obtain ⟨wi, hwi⟩ : ∃ wi, wi = wr := ⟨_, rfl⟩
      subst hwi
      by_cases hlt : j < xs.length
      case pos =>
        have hji : (j : Int) < (xs.length : Int) := by omega
        have hii : (i : Int) < (xs.length : Int) := by omega
        obtain ⟨hk1, hk2, hk3, hk4⟩ := kept_step (x := xs[j]) hij hlt HK.out.1 HK.out.2.1 HK.out.2.2 (List.getElem?_eq_getElem hlt)
        have hyl : j < ys.length := by rw [HK.out.1]; exact hlt
        obtain ⟨b, o, e8, ⟨m0, m1, m2⟩⟩ := sn_at HO.out.view hyl
        have hyj : ys[j] = xs[j] := by rw [List.getElem?_eq_getElem hyl] at hk1; exact Option.some.inj hk1
        rw [hyj] at m0 m1 m2
        cases e8
        generalize xs[j] = x at *
        obtain ⟨x0, x1, x2⟩ := x
        simp only [Nat.zero_add] at m0 m1 m2
        have HK2 := Lib.hid hk2
        have HK3 := Lib.hid hk3
        have HK4 := Lib.hid hk4
        have hxb := Ext.alloc wi (.cells #[.int .i64 x0, .int .i64 x1, .int .i64 x2] 73)
        have ob : ObjAt (wi.alloc (.cells #[.int .i64 x0, .int .i64 x1, .int .i64 x2] 73)) wi.heap.size 73 [.int .i64 x0, .int .i64 x1, .int .i64 x2] := heap_alloc_new wi _
        have D1 := HCL.out ⟨x0, x1, x2⟩ _ (HG.out.trans (hxb.grownBy _))
        have HXB := Lib.hid hxb
        clear hk1 hk2 hk3 hk4 hyj hyl hxb
        cases hd : del ⟨x0, x1, x2⟩ with
        | true =>
          rw [hd] at D1
          have HD := Lib.hid hd
          clear hd
          go_wp2_with (go_at_call 39; refine D1.mono ?_; rintro e w2 ⟨rfl, hx2⟩)
          go_roundg (xs.length - (j + 1))
          case measure => omega
          case rel => exact ⟨i, j + 1, ys, rfl, by go_num, by omega, hlt, rfl, Lib.hid ⟨HK.out.1, HK3.out (by rw [HD.out]; rfl), HK4.out⟩, Lib.hid ((HO.out.keep HXB.out).keep hx2), Lib.hid ((HG.out.trans (HXB.out.grownBy _)).trans (hx2.grownBy _))⟩
        | false =>
          rw [hd] at D1
          have HD := Lib.hid hd
          clear hd
          go_wp2_with (first
            | (go_at_call 39; refine D1.mono ?_; rintro e w2 ⟨rfl, hx2⟩
               have r0 := hx2.cell (ob.cell (j := 0) rfl)
               have r1 := hx2.cell (ob.cell (j := 1) rfl)
               have r2 := hx2.cell (ob.cell (j := 2) rfl)
               obtain ⟨g9, c9, C9, e9, hB9, hh9, hl9, hset⟩ := ((HO.out.keep HXB.out).keep hx2).setAt (i := i) (by rw [HK.out.1]; omega)
               have e91 : g1 = g9 := Option.some.inj (congrArg Value.ownBlock e9)
               subst e91
               have HSET := Lib.hid hset
               have HL9 := Lib.hid hl9
               have HH9 := Lib.hid hh9
               clear hset hl9 hh9 hB9 e9)
            | ((with_reducible show wpList _ _ _ (Oper.mk _ (Op.store _ _ _) _ _ _ _ :: _) _ _); refine st_store (vs := snCells ⟨x0, x1, x2⟩) HH9.out T.seenSize (by have h1 := HL9.out; rw [HK.out.1] at h1; show i * 3 + 3 ≤ _; omega) (sn_chunk _) ?_; intro w9 hh hg9
               have HG9 := Lib.hid hg9
               have HHN := Lib.hid hh
               clear hh hg9))
          go_roundg (xs.length - (j + 1))
          case measure => omega
          case rel =>
            obtain ⟨h2a, h2b⟩ := HK2.out (by rw [HD.out]; rfl)
            refine ⟨i + 1, j + 1, ys.set i ⟨x0, x1, x2⟩, by go_num, by go_num, by omega, hlt, rfl, Lib.hid ⟨by rw [List.length_set]; exact HK.out.1, h2a, h2b⟩, Lib.hid ?_, Lib.hid (((HG.out.trans (HXB.out.grownBy _)).trans (hx2.grownBy _)).trans HG9.out)⟩
            have := HSET.out w9 (snCells ⟨x0, x1, x2⟩) ⟨x0, x1, x2⟩ rfl (sn_chunk _) HHN.out HG9.out (fun _ _ => rfl)
            exact this
      case neg =>
        have hje : j = xs.length := by omega
        subst hje
        have hji : ¬ (xs.length : Int) < (xs.length : Int) := by omega
        clear hlt
        obtain ⟨g9, c9, C9, e9, hB9, hh9, hl9, hnc9, hcut⟩ := HO.out.cutAt (by rw [HK.out.1]; omega) (i := i) (by rw [HK.out.1]; omega)
        have e91 : g1 = g9 := Option.some.inj (congrArg Value.ownBlock e9)
        subst e91
        have hcc : c9 = c := by injection e9 with _ _ h3; exact h3.symm
        subst hcc
        rw [HK.out.1] at hl9 hnc9
        have ht : cutA 3 (some ⟨g1, 0, none⟩) c9 i = some ⟨g1, i * 3, none⟩ := (cut_in (by omega)).trans (by rw [Nat.zero_add])
        obtain ⟨w2, zs, hrc, hzl, hh2, hg2⟩ := run_clear_put T.seens 0 (n := xs.length - i) (c := c9 - i) (o := i * 3) hh9 (by omega) (by omega) (by decide +kernel)
        have HCUT := Lib.hid (hcut w2 zs (by rw [hzl]; omega) hh2 hg2)
        have HG2 := Lib.hid hg2
        have HRC := Lib.hid hrc
        clear hcut hh2 hg2 hh9 hl9 e9 hzl hrc hB9
        go_wp2_with (first
          | ((with_reducible show wpList _ _ _ (Oper.mk _ (Op.slice _ _ _ _ _) _ _ _ _ :: _) _ _); refine st_slice T.seens i xs.length c9 ?_; rw [ht])
          | ((with_reducible show wpList _ _ _ (Oper.mk _ (Op.call { callee := Callee.builtin Builtin.clear, args := _, argTypes := _ }) _ _ _ _ :: _) _ _); refine wpList_run rfl (run_op_clear rfl rfl HRC.out) ?_)
          | ((with_reducible show wpList _ _ _ (Oper.mk _ (Op.slice _ _ _ _ _) _ _ _ _ :: _) _ _); refine st_sliceTo T.seens i c9 ?_))
        go_ret
        refine ⟨_, rfl, ?_, HG.out.trans HG2.out, rfl⟩
        have := HCUT.out
        rw [HK.out.2.1, List.take_length] at this
        exact this
end Go.Proofs.Ythiaaoiaabocfaa
