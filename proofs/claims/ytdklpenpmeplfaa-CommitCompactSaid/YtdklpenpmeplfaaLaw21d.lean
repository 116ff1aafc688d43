/- CommitCompact: batches that rise are played to the same commits before and after they were compacted. -/
import Derived.Test.YtdklpenpmeplfaaLaw21c
import Derived.Test.YtdklpenpmeplfaaCmM
namespace Go.Proofs.Ytdklpenpmeplfaa
open Go.RowKit

theorem playL_length : ∀ (bs : List Bat) (l : List Cm), (∀ b ∈ bs, b.recs.length ≤ 1) → (playL l bs).length ≤ l.length + bs.length
  | [], l, _ => Nat.le_refl _
  | b :: r, l, h => by
    have h1 := playL_length r (playB l b.recs) fun x hx => h x (List.mem_cons_of_mem _ hx)
    have h2 := playB_length b.recs l
    have h3 := h b (List.mem_cons_self ..)
    show (playL (playB l b.recs) r).length ≤ _
    rw [List.length_cons]; omega
theorem mkB_snoc (rs : List Rec) (r : Rec) : mkB (rs ++ [r]) = mkB rs ++ [⟨(rs.length : Int), 1, 0, 0, 0, [r]⟩] := by
  unfold mkB
  rw [List.length_append, List.length_singleton, List.range_succ, List.map_append]
  congr 1
  · apply List.map_congr_left
    intro i hi
    rw [List.mem_range] at hi
    unfold oneB
    rw [show (rs ++ [r]).getD i rec0 = rs.getD i rec0 by simp [List.getD_eq_getElem?_getD, List.getElem?_append_left hi]]
  · unfold oneB
    simp [List.getD_eq_getElem?_getD]
theorem rec_under {W : World} {k n c : Nat} {l : List Rec} (h : RecV W (.slice (some ⟨k, 0, none⟩) n c) l) : Under (fun m => m = k) (fun w' => RecV w' (.slice (some ⟨k, 0, none⟩) n c) l) W := fun w' kp => by
  obtain ⟨css, p, c', h1, h2, h3, h4, h5, h6⟩ := h
  cases h2
  exact ⟨css, _, _, h1, rfl, h3, h4, h5.keeps (fun a e => by cases e; rfl) kp, h6.1, fun j cs x hc hx w'' _ => (h6.2 j cs x hc hx).now⟩
theorem bat_lit {W : World} {k : Nat} {x : Value} {j : Int} {r : Rec} (h : RecV W (.slice (some ⟨k, 0, none⟩) 1 1) [r]) (hk : ∀ m, x.ownBlock = some m → m < k) :
    SRow 6 RBat (fun k => (fun _ => True) k ∧ some k ≠ x.ownBlock) (W.alloc (.cells #[.int .i64 j, .int .i64 1, .int .i64 0, .int .i64 0, .int .i64 0, .slice (some ⟨k, 0, none⟩) 1 1] 46)) (.slice (some ⟨W.heap.size, 0, none⟩) 1 1) [(⟨j, 1, 0, 0, 0, [r]⟩ : Bat)] :=
  SRow.lit1 (cs := batCells ⟨j, 1, 0, 0, 0, [r]⟩ (.slice (some ⟨k, 0, none⟩) 1 1)) rfl (fun u hu => by
    simp only [batCells, List.mem_cons, List.not_mem_nil, or_false] at hu
    rcases hu with rfl | rfl | rfl | rfl | rfl | rfl <;> rfl) (fun w' kp => ⟨_, rfl, (rec_under h) w' (kp.mono fun m _ hm => ⟨trivial, fun e => by
      have h1 := hk m e.symm
      omega⟩)⟩)
theorem putRec_ok {c : Cm} (time : Int) (h : checkC c = 0) : (putRec time c).delta = 0 ∧ (putRec time c).keyed = true ∧ (putRec time c).dead = false ∧ (putRec time c).key.length ≤ 200 ∧ (putRec time c).value.length ≤ 10 :=
  ⟨rfl, rfl, rfl, keyC_length h, putV_short _⟩
theorem light_clean {rs : List Rec} (h : ∀ r ∈ rs, r.key.length ≤ 200 ∧ r.value.length ≤ 10) (hl : rs.length ≤ 8) : lightA (cleanB rs rs.length) 8 = true := by
  unfold lightA
  rw [Bool.and_eq_true, decide_eq_true_eq]
  refine ⟨Nat.le_trans (cleanB_length _ _) hl, ?_⟩
  rw [List.all_eq_true]
  intro b hb
  obtain ⟨i, hi, rfl⟩ := cleanB_mem hb
  have := h (rs.getD i rec0) (by rw [getD_at hi]; exact List.getElem_mem hi)
  unfold lightB oneB lightR
  generalize rs.getD i rec0 = r at *
  simp
  omega
theorem oneB_recs (rs : List Rec) (i : Nat) : (oneB rs i).recs = [rs.getD i rec0] := rfl
set_option maxRecDepth 20000 in
set_option maxHeartbeats 4000000 in
theorem commitCompact_walk (v : Value) (l : List Cm) (tm : Nat) (w : World) (h : CmV w v l) (htm : tm < 256) :
    Calls Try.prog 6 #[v, .int .u8 (tm : Int)] w fun e w' => e = .returned (.bool true) ∧ Below w.heap.size w w' := by
  obtain ⟨p, c, rfl, hn, hc⟩ := h.slice
  unfold maxLen at hc
  have L1 := rlightC_any (.slice p l.length c) l w h
  have hwt : IntKind.i64.wrap (tm : Int) = (tm : Int) := by rw [IntKind.wrap_i64]; omega
  have HTM := Lib.hid htm
  clear htm
  cases hl1 : lightC l with
  | false =>
    rw [hl1] at L1
    clear hl1
    go_enter Try.func6, Try.ntmps6
    go_wp2_with (first
      | (go_at_call 7; refine L1.mono ?_; rintro e w1 ⟨rfl, hx1⟩)
      | (go_at_call 9; refine (awake_any _).mono ?_; rintro e w3 ⟨rfl, hx3⟩))
    go_ret
    exact ⟨rfl, hx1.trans hx3⟩
  | true =>
  rw [hl1] at L1
  clear hl1
  by_cases h8 : (8 : Int) < (l.length : Int)
  · go_enter Try.func6, Try.ntmps6
    go_wp2_with (first
      | (go_at_call 7; refine L1.mono ?_; rintro e w1 ⟨rfl, hx1⟩)
      | (go_at_call 9; refine (awake_any _).mono ?_; rintro e w3 ⟨rfl, hx3⟩))
    go_ret
    exact ⟨rfl, hx1.trans hx3⟩
  have HL8 : Hid (l.length ≤ 8) := Lib.hid (by omega)
  go_enter Try.func6, Try.ntmps6
  go_wp2_with (go_at_call 7; refine L1.mono ?_; rintro e w1 ⟨rfl, hx1⟩)
  have HX1 := Lib.hid hx1
  clear hx1 L1 h8
  go_loopg [5, 6] (l.length) (fun k s5 s6 wr => ∃ (j : Nat) (x : Value), s5 = x ∧ s6 = .int .i64 j ∧ j ≤ l.length ∧ k = l.length - j ∧ Hid (∀ c ∈ l.take j, checkC c = 0) ∧ Hid (ORow 46 6 RBat (fun _ => True) wr w.heap.size x (mkB ((l.take j).map (putRec tm)))) ∧ Hid (Ext w wr))
  case atStart => exact ⟨0, _, rfl, rfl, Nat.zero_le _, rfl, Lib.hid (fun c hc => by simp at hc), Lib.hid (ORow.nil _ _ _), HX1⟩
  case round =>
    obtain ⟨j, x, e5, rfl, hj, hk, HC, HO, HX⟩ := hrel
    replace e5 := e5.symm
    subst e5
    obtain ⟨wo, hwo⟩ : ∃ wo, wo = wr := ⟨_, rfl⟩
    subst hwo
    by_cases hlt : j < l.length
    case pos =>
      have hi : (j : Int) < (l.length : Int) := by omega
      obtain ⟨b, o, rfl, ⟨m0, m1, m2, m3⟩⟩ := cm_at (h.ext HX.out) hlt
      have hsnoc := take_snocC l j hlt
      have P1 := fun W => cput_any l[j] (tm : Int) W
      generalize l[j] = cm at *
      by_cases hE : (layC cm (tm : Int) false).2 = 0
      case neg =>
        have hb : ((layC cm (tm : Int) false).2 != 0) = true := by rw [bne_iff_ne]; exact hE
        generalize (layC cm (tm : Int) false).1 = R1 at *
        generalize (layC cm (tm : Int) false).2 = E1 at *
        clear hE hsnoc
        go_wp2_with (first
          | (go_at_call 10; refine (P1 _).mono ?_; rintro e w2 ⟨rfl, hx2⟩
             have hxr := hx2.trans (Ext.alloc w2 (.cells #[.int .i64 R1.delta, .int .i64 R1.time, .bool R1.keyed, .string ⟨R1.key.toArray⟩, .bool R1.dead, .string ⟨R1.value.toArray⟩] 25)))
          | (go_at_call 9; refine (awake_any _).mono ?_; rintro e w3 ⟨rfl, hx3⟩))
        go_ret
        exact ⟨rfl, (HX.out.trans hxr).trans hx3⟩
      obtain ⟨hck, ht0, ht1, e1⟩ := layC_ok hE
      simp only [Bool.false_eq_true, if_false] at e1
      rw [e1] at P1
      have HCK : Hid (∀ c ∈ l.take (j + 1), checkC c = 0) := Lib.hid (fun c hc => by
        rw [hsnoc] at hc
        rcases List.mem_append.1 hc with h1 | h1
        · exact HC.out c h1
        · rw [List.mem_singleton] at h1; subst h1; exact hck)
      have HMK : Hid (mkB ((l.take (j + 1)).map (putRec tm)) = mkB ((l.take j).map (putRec tm)) ++ [⟨(j : Int), 1, 0, 0, 0, [putRec tm cm]⟩]) := Lib.hid (by
        rw [hsnoc, List.map_append, List.map_singleton, mkB_snoc, List.length_map, List.length_take, Nat.min_eq_left hj])
      have hkl := keyC_length hck
      have hvl := putV_short cm.offset
      have hpr : putRec (tm : Int) cm = ⟨0, tm, true, keyC cm, false, putV cm.offset⟩ := rfl
      rw [hpr] at HMK
      have HKL := Lib.hid hkl
      have HVL := Lib.hid hvl
      generalize keyC cm = key at *
      generalize putV cm.offset = val at *
      clear hE hck ht0 ht1 e1 hsnoc hkl hvl hpr
      go_wp2_with (first
        | (go_at_call 10; refine (P1 _).mono ?_; rintro e w2 ⟨rfl, hx2⟩
           have hxr := hx2.trans (Ext.alloc w2 (.cells #[.int .i64 0, .int .i64 (tm : Int), .bool true, .string ⟨key.toArray⟩, .bool false, .string ⟨val.toArray⟩] 25))
           have or : ObjAt (w2.alloc (.cells #[.int .i64 0, .int .i64 (tm : Int), .bool true, .string ⟨key.toArray⟩, .bool false, .string ⟨val.toArray⟩] 25)) w2.heap.size 25 (recCells ⟨0, tm, true, key, false, val⟩) := heap_alloc_new w2 _
           have r0 : _ = some (Value.int .i64 0) := or.cell (j := 0) rfl
           have r1 : _ = some (Value.int .i64 (tm : Int)) := or.cell (j := 1) rfl
           have r2 : _ = some (Value.bool true) := or.cell (j := 2) rfl
           have r3 : _ = some (Value.string ⟨key.toArray⟩) := or.cell (j := 3) rfl
           have r4 : _ = some (Value.bool false) := or.cell (j := 4) rfl
           have r5 : _ = some (Value.string ⟨val.toArray⟩) := or.cell (j := 5) rfl
           have hrl := rec_lit1 ⟨0, tm, true, key, false, val⟩ (w2.alloc (.cells #[.int .i64 0, .int .i64 (tm : Int), .bool true, .string ⟨key.toArray⟩, .bool false, .string ⟨val.toArray⟩] 25)) (by have := HKL.out; simp only [maxLen]; omega) (by have := HVL.out; simp only [maxLen]; omega)
           have hbl := bat_lit (x := x) (j := (j : Int)) hrl (fun m e => by have h1 := (HO.out.own m e).2; have h2 := hxr.size; omega)
           have hxl := (hxr.trans (Ext.alloc _ (.cells #[.int .i64 0, .int .i64 (tm : Int), .bool true, .string ⟨key.toArray⟩, .bool false, .string ⟨val.toArray⟩] 25))).trans (Ext.alloc _ (.cells #[.int .i64 (j : Int), .int .i64 1, .int .i64 0, .int .i64 0, .int .i64 0, .slice (some ⟨(w2.alloc (.cells #[.int .i64 0, .int .i64 (tm : Int), .bool true, .string ⟨key.toArray⟩, .bool false, .string ⟨val.toArray⟩] 25)).heap.size, 0, none⟩) 1 1] 46))
           have hox := HO.out.keep hxl
           have hxx := HX.out.trans hxl
           simp only [World.size_alloc] at hbl hox hxx
           have HBL := Lib.hid hbl
           have HOX := Lib.hid hox
           have HXX := Lib.hid hxx
           clear or hrl hbl hxl hox hxx)
        | (at_builtin; refine st_items T.bats HOX.out HBL.out ?_ (by have h1 := HL8.out; rw [mkB_length, List.length_map, List.length_take]; simp [maxLen]; omega) (by have h1 := HL8.out; rw [mkB_length, List.length_map, List.length_take]; simp; omega) HXX.out.size; intro v6 w6 ho6 hg6 _
           have HO6 := Lib.hid ho6
           have HG6 := Lib.hid hg6
           clear ho6 hg6))
      go_roundg (l.length - (j + 1))
      case measure => omega
      case rel => exact ⟨j + 1, _, rfl, by go_num, hlt, rfl, HCK, Lib.hid (by rw [HMK.out]; exact HO6.out), Lib.hid (HOX.out.grown HXX.out HG6.out)⟩
    case neg =>
      have hje : j = l.length := by omega
      subst hje
      have hi : ¬ (l.length : Int) < (l.length : Int) := by omega
      have hc2 := HC.out
      have ho2 := HO.out
      rw [List.take_length] at hc2 ho2
      have HCS := Lib.hid (compact_same (tm : Int) l hc2)
      have hpr : ∀ r ∈ l.map (putRec (tm : Int)), r.delta = 0 ∧ r.keyed = true ∧ r.dead = false ∧ r.key.length ≤ 200 ∧ r.value.length ≤ 10 := fun r hr => by
        obtain ⟨cm, h1, rfl⟩ := List.mem_map.1 hr
        exact putRec_ok _ (hc2 cm h1)
      have hrl : (l.map (putRec (tm : Int))).length = l.length := List.length_map ..
      have hbv : BatV wo x (mkB (l.map (putRec (tm : Int)))) := (ORow.view ho2).mono fun _ _ _ => trivial
      obtain ⟨pb, cb, eb, hnb, hcb⟩ := hbv.slice
      rw [mkB_length, hrl] at eb hnb
      subst eb
      unfold maxLen at hcb
      have HPR := Lib.hid hpr
      have HRL := Lib.hid hrl
      have HBV := Lib.hid hbv
      clear hc2 ho2 hpr hrl hbv HC HO hlt
      generalize l.map (putRec (tm : Int)) = rs at *
      go_wp2_with fail
      go_loopg [9, 11] (l.length) (fun k s9 s11 wr => ∃ (j : Nat) (x : Value), s9 = x ∧ s11 = .int .i64 j ∧ j ≤ l.length ∧ k = l.length - j ∧ Hid (CmV wr x (playL [] ((mkB rs).take j))) ∧ Hid (Ext wo wr))
      case atStart => exact ⟨0, _, rfl, rfl, Nat.zero_le _, rfl, Lib.hid (SRow.nil _ _), Lib.hid (Ext.refl _)⟩
      case round =>
        obtain ⟨j, xa, e9, rfl, hj, hk, HA, HXA⟩ := hrel
        replace e9 := e9.symm
        subst e9
        obtain ⟨wi, hwi⟩ : ∃ wi, wi = wr := ⟨_, rfl⟩
        subst hwi
        by_cases hlt : j < l.length
        case pos =>
          have hi2 : (j : Int) < (l.length : Int) := by omega
          have hjr : j < rs.length := by rw [HRL.out]; exact hlt
          have hjb : j < (mkB rs).length := by rw [mkB_length]; exact hjr
          obtain ⟨b, o, q, d, rfl, ⟨m0, m1, m2, m3, m4, m5⟩, hr1, h1d, hdm⟩ := oneB_at (HBV.out.ext HXA.out) hjr
          unfold maxLen at hdm
          have hst := playL_snoc [] (mkB rs) j hjb
          rw [mkB_at rs hjb, oneB_recs] at hst
          have hfr := HPR.out (rs.getD j rec0) (by rw [getD_at hjr]; exact List.getElem_mem hjr)
          have hln := playL_length ((mkB rs).take j) [] (fun y hy => by
            obtain ⟨i, hi, rfl⟩ := List.mem_map.1 (List.mem_of_mem_take hy)
            exact Nat.le_refl _)
          unfold oneB at m0 m1 m2 m3 m4
          simp only at m0 m1 m2 m3 m4
          have P1 := play_any xa (playL [] ((mkB rs).take j)) (oneB rs j) (.slice q 1 d) wi HA.out hr1 (by have h1 := HL8.out; rw [oneB_recs, List.length_singleton]; rw [List.length_take, List.length_nil] at hln; omega) (fun y hy => by
            rw [oneB_recs, List.mem_singleton] at hy
            subst hy
            have := hfr
            omega)
          have HST := Lib.hid hst
          rw [oneB_recs, ← HST.out] at P1
          clear hst hfr hln hr1 h1d hjb
          go_wp2_with (go_at_call 21; refine P1.mono ?_; rintro e w2 ⟨v2, rfl, hv2, hx2⟩
                       have HV2 := Lib.hid (CmO.view hv2)
                       have HX2 := Lib.hid (HXA.out.trans hx2)
                       clear hv2 hx2)
          go_roundg (l.length - (j + 1))
          case measure => omega
          case rel => exact ⟨j + 1, _, rfl, by go_num, hlt, rfl, HV2, HX2⟩
        case neg =>
          have hje : j = l.length := by omega
          subst hje
          have hi2 : ¬ (l.length : Int) < (l.length : Int) := by omega
          have ha := HA.out
          rw [show (mkB rs).take l.length = mkB rs from List.take_of_length_le (by rw [mkB_length, HRL.out]; exact Nat.le_refl _)] at ha
          have K1 := clean_any (.slice pb l.length cb) rs wi (HBV.out.ext HXA.out) (by have h1 := HL8.out; have h2 := HRL.out; omega) (fun r hr => by have := HPR.out r hr; exact ⟨this.1, this.2.1, this.2.2.1, by omega⟩)
          have HAA := Lib.hid ha
          clear ha hlt
          go_wp2_with (go_at_call 28; refine K1.mono ?_; rintro e w3 ⟨v3, rfl, hv3, hx3⟩
                       have HV3 := Lib.hid hv3
                       have HX3 := Lib.hid (HXA.out.trans hx3)
                       have HA3 := Lib.hid (HAA.out.ext hx3)
                       obtain ⟨p3, c3, e3, hn3, hc3⟩ := hv3.slice
                       subst e3
                       unfold maxLen at hc3
                       clear hv3 hx3)
          have hcl := cleanB_length rs rs.length
          have hcm : ∀ y ∈ cleanB rs rs.length, ∃ i, i < rs.length ∧ y = oneB rs i := fun y hy => cleanB_mem hy
          have hlc := light_clean (rs := rs) (fun r hr => by have := HPR.out r hr; exact ⟨this.2.2.2.1, this.2.2.2.2⟩) (by have h1 := HL8.out; have h2 := HRL.out; omega)
          obtain ⟨cl, hcle⟩ : ∃ cl, cleanB rs rs.length = cl := ⟨_, rfl⟩
          have hcs := HCS.out
          rw [hcle] at HV3 hcl hcm hlc hcs hn3
          rw [hcle]
          have HCM := Lib.hid hcm
          have HLC := Lib.hid hlc
          have HCL := Lib.hid hcl
          have HCE := Lib.hid hcs
          clear hcl hcm hlc hcs hcle HCS
          go_loopg [10, 13] (cl.length) (fun k s10 s13 wr => ∃ (j : Nat) (x : Value), s10 = x ∧ s13 = .int .i64 j ∧ j ≤ cl.length ∧ k = cl.length - j ∧ Hid (CmV wr x (playL [] (cl.take j))) ∧ Hid (Ext w3 wr))
          case atStart => exact ⟨0, _, rfl, rfl, Nat.zero_le _, rfl, Lib.hid (SRow.nil _ _), Lib.hid (Ext.refl _)⟩
          case round =>
            obtain ⟨j, xb, e10, rfl, hj, hk, HB, HXB⟩ := hrel
            replace e10 := e10.symm
            subst e10
            obtain ⟨wi, hwi⟩ : ∃ wi, wi = wr := ⟨_, rfl⟩
            subst hwi
            by_cases hlt : j < cl.length
            case pos =>
              have hi3 : (j : Int) < (cl.length : Int) := by omega
              obtain ⟨b, o, q, d, rfl, ⟨m0, m1, m2, m3, m4, m5⟩, hr1⟩ := bat_at (HV3.out.ext HXB.out) hlt
              have hst := playL_snoc [] cl j hlt
              obtain ⟨i, hir, hbi⟩ := HCM.out cl[j] (List.getElem_mem hlt)
              have hfr := HPR.out (rs.getD i rec0) (by rw [getD_at hir]; exact List.getElem_mem hir)
              have hln := playL_length (cl.take j) [] (fun y hy => by
                obtain ⟨i, hi, rfl⟩ := HCM.out y (List.mem_of_mem_take hy)
                exact Nat.le_refl _)
              rw [hbi] at m0 m1 m2 m3 m4 m5 hr1 hst
              have hrl1 : (oneB rs i).recs.length = 1 := rfl
              rw [hrl1] at m5 hr1
              have P1 := play_any xb (playL [] (cl.take j)) (oneB rs i) (.slice q 1 d) wi HB.out hr1 (by have h1 := HL8.out; have h2 := HCL.out; have h3 := HRL.out; rw [hrl1]; rw [List.length_take, List.length_nil] at hln; omega) (fun y hy => by
                rw [oneB_recs, List.mem_singleton] at hy
                subst hy
                have := hfr
                omega)
              have HST := Lib.hid hst
              rw [← HST.out] at P1
              have hdm : d ≤ 9223372036854775807 := by obtain ⟨_, _, e, _, h2⟩ := hr1.slice; injection e with _ _ e3; unfold maxLen at h2; omega
              unfold oneB at m0 m1 m2 m3 m4
              simp only at m0 m1 m2 m3 m4
              clear hst hfr hln hr1 hbi hrl1
              go_wp2_with (go_at_call 21; refine P1.mono ?_; rintro e w2 ⟨v2, rfl, hv2, hx2⟩
                           have HV2 := Lib.hid (CmO.view hv2)
                           have HX2 := Lib.hid (HXB.out.trans hx2)
                           clear hv2 hx2)
              go_roundg (cl.length - (j + 1))
              case measure => omega
              case rel => exact ⟨j + 1, _, rfl, by go_num, hlt, rfl, HV2, HX2⟩
            case neg =>
              have hje : j = cl.length := by omega
              subst hje
              have hi3 : ¬ (cl.length : Int) < (cl.length : Int) := by omega
              have hb := HB.out
              rw [List.take_length, HCE.out] at hb
              obtain ⟨A, hA⟩ : ∃ A, playL [] (mkB rs) = A := ⟨_, rfl⟩
              have hal := playL_length (mkB rs) [] (fun y hy => by
                obtain ⟨i, hi, rfl⟩ := List.mem_map.1 hy
                exact Nat.le_refl _)
              have haw := HA3.out.ext HXB.out
              rw [hA] at hb hal haw
              have hA8 : A.length ≤ 1000 := by have h1 := HL8.out; have h3 := HRL.out; rw [mkB_length, List.length_nil] at hal; omega
              have S1 := fun W hW => (by have := csame_any xa xb A A W (haw.ext hW) (hb.ext hW); rw [sameC_refl] at this; exact this : Calls Try.prog 27 #[xa, xb] W fun e w' => e = .returned (.bool true) ∧ Ext W w')
              have SR := fun v v' W h h' => (by have := rsameC_any v v' A A W h h'; rw [sameC_refl] at this; exact this : Calls Try.prog 24 #[v, v'] W fun e w' => e = .returned (.bool true) ∧ Ext W w')
              have A1 := fun W hW => as_any xa A W (haw.ext hW) hA8
              have A2 := fun W hW => as_any xb A W (hb.ext hW) hA8
              have LA := fun W hW => (by have := rlightA_any (.slice p3 cl.length c3) cl 8 W (HV3.out.ext hW) (by omega); rw [HLC.out] at this; exact this : Calls Try.prog 29 #[.slice p3 cl.length c3, .int .i64 8] W fun e w' => e = .returned (.bool true) ∧ Ext W w')
              have HS1 := Lib.hid S1
              have HA1 := Lib.hid A1
              have HA2 := Lib.hid A2
              have HSR := Lib.hid SR
              have HLA := Lib.hid LA
              clear hb hal haw hA hA8 S1 A1 A2 SR LA hlt
              go_wp2_with (first
                | (go_at_call 27; refine (HS1.out _ (Ext.refl _)).mono ?_; rintro e w4 ⟨rfl, hx4⟩)
                | (go_at_call 25; have hq := hx5; refine (HA2.out _ (hx4.trans hx5)).mono ?_; rintro e w6 ⟨v6, rfl, hv6, hx6⟩)
                | (go_at_call 25; refine (HA1.out _ hx4).mono ?_; rintro e w5 ⟨v5, rfl, hv5, hx5⟩)
                | (go_at_call 24; refine (HSR.out _ _ _ (hv5.ext hx6) hv6).mono ?_; rintro e w7 ⟨rfl, hx7⟩)
                | (go_at_call 29; refine (HLA.out _ (HXB.out.trans (((hx4.trans hx5).trans hx6).trans hx7))).mono ?_; rintro e w8 ⟨rfl, hx8⟩)
                | (go_at_call 9; refine (awake_any _).mono ?_; rintro e w9 ⟨rfl, hx9⟩))
              go_ret
              exact ⟨rfl, ((HX.out.trans HX3.out).trans HXB.out).trans (((((hx4.trans hx5).trans hx6).trans hx7).trans hx8).trans hx9)⟩
end Go.Proofs.Ytdklpenpmeplfaa
