/- WindowFeeds of layer 35: the law answers true. WindowFeeds of layer 35, whole. -/
import Derived.Test.YtpejdompanhieaaWaA
namespace Go.Proofs.Ytpejdompanhieaa
open Go.RowKit

/-- A number, its key and its time. -/
structure Fd where
  key : List UInt8
  time : Int
  n : Int
abbrev fdv (x : Fd) : Value := .agg #[.string ⟨x.key.toArray⟩, .int .i64 x.time, .int .i64 x.n]
def fdCells (x : Fd) : List Value := [.string ⟨x.key.toArray⟩, .int .i64 x.time, .int .i64 x.n]
theorem lightS_len {l : List Sm} (h : lightS l = true) : l.length ≤ 300 := by
  unfold lightS at h
  rw [Bool.and_eq_true, decide_eq_true_eq] at h
  exact h.1
theorem feedW_none {s : Wt} {key : List UInt8} {time n : Int} (h : (feedW s key time n).2.2 ≠ 0) : (feedW s key time n).2.1 = [] := by
  by_cases h1 : checkW s ≠ 0
  · rw [feedW_bad h1]
  · have hc : checkW s = 0 := by simpa using h1
    by_cases h2 : 64 < key.length
    · rw [feedW_long hc h2]
    · by_cases h3 : inW time 0 1099511627776 = false ∨ numW n = false
      · rw [feedW_out hc h2 h3]
      · have h4 : inW time 0 1099511627776 = true := by cases e : inW time 0 1099511627776 with | true => rfl | false => exact absurd (.inl e) h3
        have h5 : numW n = true := by cases e : numW n with | true => rfl | false => exact absurd (.inr e) h3
        cases h6 : lateW s (time - time % s.size) (max s.mark time) with
        | true => rw [feedW_late hc h2 h4 h5 h6]
        | false =>
          by_cases h7 : (addS s.opn (atS (time - time % s.size) key) n).2 = 0
          · rw [feedW_ok hc h2 h4 h5 h6 h7] at h
            exact absurd rfl h
          · rw [feedW_full hc h2 h4 h5 h6 h7]
theorem back_fact {W : World} {s : Wt} {v v' : Value} (h : ∃ u, v = wtv s u ∧ SmV W u s.opn) (h' : SmV W v' s.opn) : Calls Try.prog 16 #[v, wtv s v'] W fun e w' => e = .returned (.bool true) ∧ Ext W w' := by
  obtain ⟨u, rfl, hu⟩ := h
  have := rsameSW_any u v' s s W hu h'
  rw [sameW_refl] at this
  exact this
theorem sums_fact {W : World} {l : List Sm} {v v' : Value} (h : SmV W v l) (h' : SmV W v' l) : Calls Try.prog 18 #[v, v'] W fun e w' => e = .returned (.bool true) ∧ Ext W w' := by
  have := rsameS_any v v' l l W h h'
  rw [sameS_refl] at this
  exact this
theorem back_call {W : World} {s : Wt} {v : Value} (h : SmV W v s.opn) (hl : s.opn.length ≤ 1000) : Calls Try.prog 17 #[wtv s v] W fun e w' => ∃ r, e = .returned r ∧ (∃ u, r = wtv s u ∧ SmV w' u s.opn) ∧ Ext W w' := by
  refine (lback_any s v W h hl).mono ?_
  rintro e w' ⟨v', rfl, h1, h2⟩
  exact ⟨_, rfl, ⟨v', rfl, h1⟩, h2⟩
theorem as_call {W : World} {l : List Sm} {v : Value} (h : SmV W v l) (hl : l.length ≤ 1000) : Calls Try.prog 19 #[v] W fun e w' => ∃ r, e = .returned r ∧ SmV w' r l ∧ Ext W w' := by
  refine (las_any v l W h hl).mono ?_
  rintro e w' ⟨v', rfl, h1, h2⟩
  exact ⟨_, rfl, SmO.view h1, h2⟩
theorem wt_slice {w : World} {s : Wt} {v : Value} (h : SmV w v s.opn) : ∃ p n c, v = .slice p n c := by
  obtain ⟨p, c, e, _⟩ := h.slice
  exact ⟨p, _, c, e⟩
set_option maxRecDepth 20000 in
set_option maxHeartbeats 4000000 in
theorem feeds_core (s : Wt) (v : Value) (x : Fd) (PT TW : Wt) (O : List Sm) (er : Int) (w : World) (h : SmV w v s.opn) (hl : lightS s.opn = true) (hk : x.key.length ≤ 100) (hF1 : feedP s x.key x.time x.n = (PT, O, er)) (hF2 : feedW s x.key x.time x.n = (TW, O, er)) (hs : er = 0 → PT = TW) (hpl : PT.opn.length ≤ 1000) (hol : O.length ≤ 1000) (hcl : (closeW s).1.opn.length ≤ 1000 ∧ (closeW s).2.length ≤ 1000) :
    Calls Try.prog 3 #[wtv s v, fdv x] w fun e w' => e = .returned (.bool true) ∧ Below w.heap.size w w' := by
  have hlen := lightS_len hl
  obtain ⟨oS, oX, hx0, hsz⟩ := objs2 w 24 26 (wtC s v) (fdCells x)
  obtain ⟨px, nx, cx, rfl⟩ := wt_slice h
  have L1 := rlightS_any (.slice px nx cx) s.opn _ (h.ext hx0)
  rw [hl] at L1
  have HOW := Lib.hid fun W hW => lown_any s (.slice px nx cx) W (h.ext hW) (by omega)
  have HR2 := Lib.hid fun W hW => rfeed_any s (.slice px nx cx) x.key x.time x.n W (h.ext hW)
  rw [hF2] at HR2
  have HC2 := Lib.hid fun W hW => rclose_any s (.slice px nx cx) W (h.ext hW)
  have HF1 := Lib.hid fun v W hW => feed_any s v x.key x.time x.n W hW (by omega)
  rw [hF1] at HF1
  have HC1 := Lib.hid fun v W hW => close_any s v W hW (by omega)
  have HK1 := Lib.hid fun v W hW => check_any s v W hW
  have HK2 := Lib.hid fun W hW => rcheck_any s (.slice px nx cx) W (h.ext hW)
  have HN1 := Lib.hid fun W => wnew_any s.size s.late W
  have HN2 := Lib.hid fun W => rwnew_any s.size s.late W
  generalize checkW s = KS at *
  generalize hCK : closeW s = CK at *
  obtain ⟨CT, KL⟩ := CK
  have hNo : (newW s.size s.late).1.opn = [] := by unfold newW; split <;> rfl
  generalize hNN : newW s.size s.late = NN at *
  obtain ⟨NT, NE⟩ := NN
  have s0 := oS.cell (j := 0) rfl
  have s1 := oS.cell (j := 1) rfl
  have s2 := oS.cell (j := 2) rfl
  have s3 := oS.cell (j := 3) rfl
  have s4 := oS.cell (j := 4) rfl
  have x0 := oX.cell (j := 0) rfl
  have x1 := oX.cell (j := 1) rfl
  have x2 := oX.cell (j := 2) rfl
  have hkk : (ByteArray.mk x.key.toArray).size = x.key.length := text_size _
  have hi2 : decide ((100 : Int) < (x.key.length : Int)) = false := by rw [decide_eq_false_iff_not]; omega
  have HX0 := Lib.hid hx0
  have HV := Lib.hid h
  have HS := Lib.hid hs
  have HPL := Lib.hid hpl
  have HOL := Lib.hid hol
  have HCL := Lib.hid hcl
  have HSL : Hid (s.opn.length ≤ 1000) := Lib.hid (by omega)
  have HOS := Lib.hid oS
  have HOX := Lib.hid oX
  unfold fdCells at HX0 HOS HOX s0 s1 s2 s3 s4 x0 x1 x2 L1
  clear hx0 h hs hpl hol hcl hlen hk oS oX hsz hl hCK hNN
  go_enter Try.func3, Try.ntmps3
  go_wp2_with (first
    | (go_at_call 7; refine L1.mono ?_; rintro e w1 ⟨rfl, hx1⟩
       have HX1 := Lib.hid (HX0.out.trans hx1)
       have oS := HOS.out.ext hx1
       have oX := HOX.out.ext hx1
       have y0 := hx1.cell x0
       have s0 := oS.cell (j := 0) rfl
       have s1 := oS.cell (j := 1) rfl
       have s2 := oS.cell (j := 2) rfl
       have s3 := oS.cell (j := 3) rfl
       have s4 := oS.cell (j := 4) rfl)
    | (go_at_call 9; refine (HOW.out _ HX1.out).mono ?_; rintro e w2 ⟨vo, rfl, ho, hx2⟩
       obtain ⟨po, no, co, rfl⟩ := wt_slice ho
       have oOx := Ext.alloc w2 (.cells #[.int .i64 s.size, .int .i64 s.late, .int .i64 s.mark, .int .i64 s.drops, .slice po no co] 31)
       have oO : ObjAt (w2.alloc (.cells #[.int .i64 s.size, .int .i64 s.late, .int .i64 s.mark, .int .i64 s.drops, .slice po no co] 31)) w2.heap.size 31 (wtC s (.slice po no co)) := heap_alloc_new w2 _
       have HX2 := Lib.hid ((HX1.out.trans hx2).trans oOx)
       have ho2 := ho.ext oOx
       replace oS := (oS.ext hx2).ext oOx
       replace oX := (oX.ext hx2).ext oOx
       have o0 := oO.cell (j := 0) rfl
       have o1 := oO.cell (j := 1) rfl
       have o2 := oO.cell (j := 2) rfl
       have o3 := oO.cell (j := 3) rfl
       have o4 := oO.cell (j := 4) rfl
       have x0 := oX.cell (j := 0) rfl
       have x1 := oX.cell (j := 1) rfl
       have x2 := oX.cell (j := 2) rfl)
    | (go_at_call 10; refine (HF1.out _ _ ho2).mono ?_; rintro e w3 ⟨va, la, rfl, ha, hla, hx3⟩
       obtain ⟨pa, na, ca, rfl⟩ := wt_slice ha
       have oAx := Ext.alloc w3 (.cells #[.int .i64 PT.size, .int .i64 PT.late, .int .i64 PT.mark, .int .i64 PT.drops, .slice pa na ca] 31)
       have oA : ObjAt (w3.alloc (.cells #[.int .i64 PT.size, .int .i64 PT.late, .int .i64 PT.mark, .int .i64 PT.drops, .slice pa na ca] 31)) w3.heap.size 31 (wtC PT (.slice pa na ca)) := heap_alloc_new w3 _
       have HX3 := Lib.hid ((HX2.out.trans hx3).trans oAx)
       have HA := Lib.hid (ha.ext oAx)
       have HLA := Lib.hid (hla.ext oAx)
       have HO3 := Lib.hid ((ho2.ext hx3).ext oAx)
       replace oS := (oS.ext hx3).ext oAx
       replace oX := (oX.ext hx3).ext oAx
       replace oO := (oO.ext hx3).ext oAx
       have s0 := oS.cell (j := 0) rfl
       have s1 := oS.cell (j := 1) rfl
       have s2 := oS.cell (j := 2) rfl
       have s3 := oS.cell (j := 3) rfl
       have s4 := oS.cell (j := 4) rfl
       have x0 := oX.cell (j := 0) rfl
       have x1 := oX.cell (j := 1) rfl
       have x2 := oX.cell (j := 2) rfl)
    | (go_at_call 11; refine (HR2.out _ HX3.out).mono ?_; rintro e w4 ⟨vb, lb, rfl, hb, hlb, hx4⟩
       obtain ⟨pb, nb, cb, rfl⟩ := wt_slice hb
       have oBx := Ext.alloc w4 (.cells #[.int .i64 TW.size, .int .i64 TW.late, .int .i64 TW.mark, .int .i64 TW.drops, .slice pb nb cb] 24)
       have oB : ObjAt (w4.alloc (.cells #[.int .i64 TW.size, .int .i64 TW.late, .int .i64 TW.mark, .int .i64 TW.drops, .slice pb nb cb] 24)) w4.heap.size 24 (wtC TW (.slice pb nb cb)) := heap_alloc_new w4 _
       have HE4 := Lib.hid (hx4.trans oBx)
       have HX4 := Lib.hid (HX3.out.trans HE4.out)
       have HB := Lib.hid (hb.ext oBx)
       have HLB := Lib.hid (hlb.ext oBx)
       have HO4 := Lib.hid (HO3.out.ext HE4.out)
       have oA4 := oA.ext HE4.out
       replace oS := oS.ext HE4.out
       replace oX := oX.ext HE4.out
       replace oO := oO.ext HE4.out
       have o0 := oO.cell (j := 0) rfl
       have o1 := oO.cell (j := 1) rfl
       have o2 := oO.cell (j := 2) rfl
       have o3 := oO.cell (j := 3) rfl
       have o4 := oO.cell (j := 4) rfl)
    | (go_at_call 12; refine (HC1.out _ _ HO4.out).mono ?_; rintro e w5 ⟨vc, lc, rfl, hc, hlc, hx5⟩
       obtain ⟨pc, nc, cc, rfl⟩ := wt_slice hc
       have oCx := Ext.alloc w5 (.cells #[.int .i64 CT.size, .int .i64 CT.late, .int .i64 CT.mark, .int .i64 CT.drops, .slice pc nc cc] 31)
       have oC : ObjAt (w5.alloc (.cells #[.int .i64 CT.size, .int .i64 CT.late, .int .i64 CT.mark, .int .i64 CT.drops, .slice pc nc cc] 31)) w5.heap.size 31 (wtC CT (.slice pc nc cc)) := heap_alloc_new w5 _
       have HE5 := Lib.hid (hx5.trans oCx)
       have HX5 := Lib.hid (HX4.out.trans HE5.out)
       have HC := Lib.hid (hc.ext oCx)
       have HLC := Lib.hid (hlc.ext oCx)
       replace oS := oS.ext HE5.out
       replace oX := oX.ext HE5.out
       replace oO := oO.ext HE5.out
       have s0 := oS.cell (j := 0) rfl
       have s1 := oS.cell (j := 1) rfl
       have s2 := oS.cell (j := 2) rfl
       have s3 := oS.cell (j := 3) rfl
       have s4 := oS.cell (j := 4) rfl)
    | (go_at_call 13; refine (HC2.out _ HX5.out).mono ?_; rintro e w6 ⟨vd, ld, rfl, hd, hld, hx6⟩
       obtain ⟨pd, nd, cd, rfl⟩ := wt_slice hd
       have oDx := Ext.alloc w6 (.cells #[.int .i64 CT.size, .int .i64 CT.late, .int .i64 CT.mark, .int .i64 CT.drops, .slice pd nd cd] 24)
       have oD : ObjAt (w6.alloc (.cells #[.int .i64 CT.size, .int .i64 CT.late, .int .i64 CT.mark, .int .i64 CT.drops, .slice pd nd cd] 24)) w6.heap.size 24 (wtC CT (.slice pd nd cd)) := heap_alloc_new w6 _
       have HE6 := Lib.hid (hx6.trans oDx)
       have HX6 := Lib.hid (HX5.out.trans HE6.out)
       have HD := Lib.hid (hd.ext oDx)
       have HLD := Lib.hid (hld.ext oDx)
       replace oS := oS.ext HE6.out
       replace oO := oO.ext HE6.out
       have s0 := oS.cell (j := 0) rfl
       have s1 := oS.cell (j := 1) rfl)
    | (go_at_call 14; refine (HN1.out _).mono ?_; rintro e w7 ⟨rfl, hx7⟩
       have oNx := Ext.alloc w7 (.cells #[.int .i64 NT.size, .int .i64 NT.late, .int .i64 NT.mark, .int .i64 NT.drops, .slice none 0 0] 31)
       have oN : ObjAt (w7.alloc (.cells #[.int .i64 NT.size, .int .i64 NT.late, .int .i64 NT.mark, .int .i64 NT.drops, .slice none 0 0] 31)) w7.heap.size 31 (wtC NT (.slice none 0 0)) := heap_alloc_new w7 _
       have HE7 := Lib.hid (hx7.trans oNx)
       have HX7 := Lib.hid (HX6.out.trans HE7.out)
       replace oS := oS.ext HE7.out
       replace oO := oO.ext HE7.out
       have s0 := oS.cell (j := 0) rfl
       have s1 := oS.cell (j := 1) rfl)
    | (go_at_call 15; refine (HN2.out _).mono ?_; rintro e w8 ⟨rfl, hx8⟩
       have oMx := Ext.alloc w8 (.cells #[.int .i64 NT.size, .int .i64 NT.late, .int .i64 NT.mark, .int .i64 NT.drops, .slice none 0 0] 24)
       have oM : ObjAt (w8.alloc (.cells #[.int .i64 NT.size, .int .i64 NT.late, .int .i64 NT.mark, .int .i64 NT.drops, .slice none 0 0] 24)) w8.heap.size 24 (wtC NT (.slice none 0 0)) := heap_alloc_new w8 _
       have HE8 := Lib.hid (hx8.trans oMx)
       have HX8 := Lib.hid (HX7.out.trans HE8.out)))
  obtain ⟨W0, hW0⟩ : ∃ W, W = w8.alloc (.cells #[.int .i64 NT.size, .int .i64 NT.late, .int .i64 NT.mark, .int .i64 NT.drops, .slice none 0 0] 24) := ⟨_, rfl⟩
  have hS := oS.ext HE8.out
  have hO := oO.ext HE8.out
  have h78 := HE7.out.trans HE8.out
  have h68 := HE6.out.trans h78
  have h58 := HE5.out.trans h68
  have hA := oA4.ext h58
  have hB := oB.ext h58
  have hC := oC.ext h68
  have hD := oD.ext h78
  have hN := oN.ext HE8.out
  have KO := HO4.out.ext h58
  have KA := HA.out.ext (HE4.out.trans h58)
  have KLA := HLA.out.ext (HE4.out.trans h58)
  have KB := HB.out.ext h58
  have KLB := HLB.out.ext h58
  have KC := HC.out.ext h68
  have KLC := HLC.out.ext h68
  have KD := HD.out.ext h78
  have KLD := HLD.out.ext h78
  have HXW := HX8.out
  have KV := HV.out.ext HXW
  have KN : SmV (w8.alloc (.cells #[.int .i64 NT.size, .int .i64 NT.late, .int .i64 NT.mark, .int .i64 NT.drops, .slice none 0 0] 24)) (.slice none 0 0) NT.opn := by rw [hNo]; exact sm_nil _
  rw [← hW0] at hS hO hA hB hC hD hN oM KO KA KLA KB KLB KC KLC KD KLD HXW KV KN ⊢
  clear hW0 HX0 HX1 HX2 HX3 HX4 HX5 HX6 HX7 HX8 HE4 HE5 HE6 HE7 HE8 h78 h68 h58 oS oO oX oA oB oC oD oN oA4 HA HLA HB HLB HC HLC HD HLD HO3 HO4 HOS HOX HV HOW HF1 HR2 HC1 HC2 HN1 HN2
  by_cases he : er = 0
  case pos =>
    have hPT := HS.out he
    subst hPT
    subst he
    apply wp_region_dag_tail 58 (X := Ext) (by kernel_rfl) (by kernel_rfl) (by kernel_rfl) (by decide) (fun _ _ _ => Ext.trans) (Ext.drew1 _)
    simp only [List.take_succ_cons, List.take_zero, List.drop_succ_cons, List.drop_zero]
    apply dag_val Ext.refl rfl (by intro W hW H; go_simp <;> rfl)
    simp only [Act.put, List.setIfInBounds_toArray, List.set_cons_zero, List.set_cons_succ]
    apply dag_val Ext.refl rfl (by intro W hW H; go_simp <;> rfl)
    simp only [Act.put, List.setIfInBounds_toArray, List.set_cons_zero, List.set_cons_succ]
    apply dag_val Ext.refl rfl (by intro W hW H; go_simp <;> rfl)
    simp only [Act.put, List.setIfInBounds_toArray, List.set_cons_zero, List.set_cons_succ]
    apply dag_val Ext.refl rfl (by intro W hW H; go_simp <;> rfl)
    simp only [Act.put, List.setIfInBounds_toArray, List.set_cons_zero, List.set_cons_succ]
    apply dag_val Ext.refl rfl (by intro W hW H; go_simp <;> rfl)
    simp only [Act.put, List.setIfInBounds_toArray, List.set_cons_zero, List.set_cons_succ]
    apply dag_val Ext.refl rfl (by intro W hW H; go_simp <;> rfl)
    simp only [Act.put, List.setIfInBounds_toArray, List.set_cons_zero, List.set_cons_succ]
    apply dag_val Ext.refl rfl (by intro W hW H; go_simp <;> rfl)
    simp only [Act.put, List.setIfInBounds_toArray, List.set_cons_zero, List.set_cons_succ]
    apply dag_val Ext.refl rfl (by intro W hW H; have q0 := hW.cell (hA.cell (j := 0) rfl); have q1 := hW.cell (hA.cell (j := 1) rfl); have q2 := hW.cell (hA.cell (j := 2) rfl); have q3 := hW.cell (hA.cell (j := 3) rfl); have q4 := hW.cell (hA.cell (j := 4) rfl); go_simp <;> rfl)
    simp only [Act.put, List.setIfInBounds_toArray, List.set_cons_zero, List.set_cons_succ]
    refine' dag_calls (fun v W => ∃ u, v = wtv PT u ∧ SmV W u PT.opn) (fun v W W' hx h => h.imp fun u hu => ⟨hu.1, hu.2.ext hx⟩) rfl (by intro W; go_simp <;> rfl) (fun W hW H => (back_call (KA.ext hW) HPL.out).mono (by rintro e w' ⟨r, rfl, h1, h2⟩; exact ⟨r, rfl, h1, h2⟩)) (fun r1 => _)
    rotate_left
    simp only [Act.put, List.setIfInBounds_toArray, List.set_cons_zero, List.set_cons_succ]
    apply dag_val Ext.refl rfl (by intro W hW H; have q0 := hW.cell (hB.cell (j := 0) rfl); have q1 := hW.cell (hB.cell (j := 1) rfl); have q2 := hW.cell (hB.cell (j := 2) rfl); have q3 := hW.cell (hB.cell (j := 3) rfl); have q4 := hW.cell (hB.cell (j := 4) rfl); go_simp <;> rfl)
    simp only [Act.put, List.setIfInBounds_toArray, List.set_cons_zero, List.set_cons_succ]
    refine' dag_call (c := .bool true) (f := 16) (args := #[r1, wtv PT (.slice pb nb cb)]) rfl (by intro W; go_simp <;> rfl) (fun W hW H => back_fact (s := PT) (H 8 (by kernel_rfl)) (KB.ext hW)) _
    rotate_left
    simp only [Act.put, List.setIfInBounds_toArray, List.set_cons_zero, List.set_cons_succ]
    apply dag_val Ext.refl rfl (by intro W hW H; go_simp <;> rfl)
    simp only [Act.put, List.setIfInBounds_toArray, List.set_cons_zero, List.set_cons_succ]
    apply dag_val Ext.refl rfl (by intro W hW H; go_simp <;> rfl)
    simp only [Act.put, List.setIfInBounds_toArray, List.set_cons_zero, List.set_cons_succ]
    apply dag_val Ext.refl rfl (by intro W hW H; go_simp <;> rfl)
    simp only [Act.put, List.setIfInBounds_toArray, List.set_cons_zero, List.set_cons_succ]
    apply dag_val Ext.refl rfl (by intro W hW H; go_simp <;> rfl)
    simp only [Act.put, List.setIfInBounds_toArray, List.set_cons_zero, List.set_cons_succ]
    refine' dag_calls (fun v W => SmV W v O) (fun v W W' hx h => h.ext hx) rfl (by intro W; go_simp <;> rfl) (fun W hW H => (as_call (KLA.ext hW) HOL.out).mono (by rintro e w' ⟨r, rfl, h1, h2⟩; exact ⟨r, rfl, h1, h2⟩)) (fun r2 => _)
    rotate_left
    simp only [Act.put, List.setIfInBounds_toArray, List.set_cons_zero, List.set_cons_succ]
    apply dag_val Ext.refl rfl (by intro W hW H; go_simp <;> rfl)
    simp only [Act.put, List.setIfInBounds_toArray, List.set_cons_zero, List.set_cons_succ]
    refine' dag_call (c := .bool true) (f := 18) (args := #[r2, lb]) rfl (by intro W; go_simp <;> rfl) (fun W hW H => sums_fact (l := O) (H 15 (by kernel_rfl)) (KLB.ext hW)) _
    rotate_left
    simp only [Act.put, List.setIfInBounds_toArray, List.set_cons_zero, List.set_cons_succ]
    apply dag_val Ext.refl rfl (by intro W hW H; go_simp <;> rfl)
    simp only [Act.put, List.setIfInBounds_toArray, List.set_cons_zero, List.set_cons_succ]
    apply dag_val Ext.refl rfl (by intro W hW H; go_simp <;> rfl)
    simp only [Act.put, List.setIfInBounds_toArray, List.set_cons_zero, List.set_cons_succ]
    apply dag_val Ext.refl rfl (by intro W hW H; have q0 := hW.cell (hC.cell (j := 0) rfl); have q1 := hW.cell (hC.cell (j := 1) rfl); have q2 := hW.cell (hC.cell (j := 2) rfl); have q3 := hW.cell (hC.cell (j := 3) rfl); have q4 := hW.cell (hC.cell (j := 4) rfl); go_simp <;> rfl)
    simp only [Act.put, List.setIfInBounds_toArray, List.set_cons_zero, List.set_cons_succ]
    refine' dag_calls (fun v W => ∃ u, v = wtv CT u ∧ SmV W u CT.opn) (fun v W W' hx h => h.imp fun u hu => ⟨hu.1, hu.2.ext hx⟩) rfl (by intro W; go_simp <;> rfl) (fun W hW H => (back_call (KC.ext hW) HCL.out.1).mono (by rintro e w' ⟨r, rfl, h1, h2⟩; exact ⟨r, rfl, h1, h2⟩)) (fun r3 => _)
    rotate_left
    simp only [Act.put, List.setIfInBounds_toArray, List.set_cons_zero, List.set_cons_succ]
    apply dag_val Ext.refl rfl (by intro W hW H; have q0 := hW.cell (hD.cell (j := 0) rfl); have q1 := hW.cell (hD.cell (j := 1) rfl); have q2 := hW.cell (hD.cell (j := 2) rfl); have q3 := hW.cell (hD.cell (j := 3) rfl); have q4 := hW.cell (hD.cell (j := 4) rfl); go_simp <;> rfl)
    simp only [Act.put, List.setIfInBounds_toArray, List.set_cons_zero, List.set_cons_succ]
    refine' dag_call (c := .bool true) (f := 16) (args := #[r3, wtv CT (.slice pd nd cd)]) rfl (by intro W; go_simp <;> rfl) (fun W hW H => back_fact (s := CT) (H 21 (by kernel_rfl)) (KD.ext hW)) _
    rotate_left
    simp only [Act.put, List.setIfInBounds_toArray, List.set_cons_zero, List.set_cons_succ]
    apply dag_val Ext.refl rfl (by intro W hW H; go_simp <;> rfl)
    simp only [Act.put, List.setIfInBounds_toArray, List.set_cons_zero, List.set_cons_succ]
    apply dag_val Ext.refl rfl (by intro W hW H; go_simp <;> rfl)
    simp only [Act.put, List.setIfInBounds_toArray, List.set_cons_zero, List.set_cons_succ]
    apply dag_val Ext.refl rfl (by intro W hW H; go_simp <;> rfl)
    simp only [Act.put, List.setIfInBounds_toArray, List.set_cons_zero, List.set_cons_succ]
    refine' dag_calls (fun v W => SmV W v KL) (fun v W W' hx h => h.ext hx) rfl (by intro W; go_simp <;> rfl) (fun W hW H => (as_call (KLC.ext hW) HCL.out.2).mono (by rintro e w' ⟨r, rfl, h1, h2⟩; exact ⟨r, rfl, h1, h2⟩)) (fun r4 => _)
    rotate_left
    simp only [Act.put, List.setIfInBounds_toArray, List.set_cons_zero, List.set_cons_succ]
    apply dag_val Ext.refl rfl (by intro W hW H; go_simp <;> rfl)
    simp only [Act.put, List.setIfInBounds_toArray, List.set_cons_zero, List.set_cons_succ]
    refine' dag_call (c := .bool true) (f := 18) (args := #[r4, ld]) rfl (by intro W; go_simp <;> rfl) (fun W hW H => sums_fact (l := KL) (H 27 (by kernel_rfl)) (KLD.ext hW)) _
    rotate_left
    simp only [Act.put, List.setIfInBounds_toArray, List.set_cons_zero, List.set_cons_succ]
    apply dag_val Ext.refl rfl (by intro W hW H; go_simp <;> rfl)
    simp only [Act.put, List.setIfInBounds_toArray, List.set_cons_zero, List.set_cons_succ]
    apply dag_val Ext.refl rfl (by intro W hW H; go_simp <;> rfl)
    simp only [Act.put, List.setIfInBounds_toArray, List.set_cons_zero, List.set_cons_succ]
    apply dag_val Ext.refl rfl (by intro W hW H; have q0 := hW.cell (hO.cell (j := 0) rfl); have q1 := hW.cell (hO.cell (j := 1) rfl); have q2 := hW.cell (hO.cell (j := 2) rfl); have q3 := hW.cell (hO.cell (j := 3) rfl); have q4 := hW.cell (hO.cell (j := 4) rfl); go_simp <;> rfl)
    simp only [Act.put, List.setIfInBounds_toArray, List.set_cons_zero, List.set_cons_succ]
    refine' dag_calls (fun v W => ∃ u, v = wtv s u ∧ SmV W u s.opn) (fun v W W' hx h => h.imp fun u hu => ⟨hu.1, hu.2.ext hx⟩) rfl (by intro W; go_simp <;> rfl) (fun W hW H => (back_call (KO.ext hW) HSL.out).mono (by rintro e w' ⟨r, rfl, h1, h2⟩; exact ⟨r, rfl, h1, h2⟩)) (fun r5 => _)
    rotate_left
    simp only [Act.put, List.setIfInBounds_toArray, List.set_cons_zero, List.set_cons_succ]
    apply dag_val Ext.refl rfl (by intro W hW H; have q0 := hW.cell (hS.cell (j := 0) rfl); have q1 := hW.cell (hS.cell (j := 1) rfl); have q2 := hW.cell (hS.cell (j := 2) rfl); have q3 := hW.cell (hS.cell (j := 3) rfl); have q4 := hW.cell (hS.cell (j := 4) rfl); go_simp <;> rfl)
    simp only [Act.put, List.setIfInBounds_toArray, List.set_cons_zero, List.set_cons_succ]
    refine' dag_call (c := .bool true) (f := 16) (args := #[r5, wtv s (.slice px nx cx)]) rfl (by intro W; go_simp <;> rfl) (fun W hW H => back_fact (s := s) (H 33 (by kernel_rfl)) (KV.ext hW)) _
    rotate_left
    simp only [Act.put, List.setIfInBounds_toArray, List.set_cons_zero, List.set_cons_succ]
    apply dag_val Ext.refl rfl (by intro W hW H; go_simp <;> rfl)
    simp only [Act.put, List.setIfInBounds_toArray, List.set_cons_zero, List.set_cons_succ]
    apply dag_val Ext.refl rfl (by intro W hW H; go_simp <;> rfl)
    simp only [Act.put, List.setIfInBounds_toArray, List.set_cons_zero, List.set_cons_succ]
    apply dag_val Ext.refl rfl (by intro W hW H; have q0 := hW.cell (hN.cell (j := 0) rfl); have q1 := hW.cell (hN.cell (j := 1) rfl); have q2 := hW.cell (hN.cell (j := 2) rfl); have q3 := hW.cell (hN.cell (j := 3) rfl); have q4 := hW.cell (hN.cell (j := 4) rfl); go_simp <;> rfl)
    simp only [Act.put, List.setIfInBounds_toArray, List.set_cons_zero, List.set_cons_succ]
    refine' dag_calls (fun v W => ∃ u, v = wtv NT u ∧ SmV W u NT.opn) (fun v W W' hx h => h.imp fun u hu => ⟨hu.1, hu.2.ext hx⟩) rfl (by intro W; go_simp <;> rfl) (fun W hW H => (back_call (KN.ext hW) (by rw [hNo]; exact Nat.zero_le _)).mono (by rintro e w' ⟨r, rfl, h1, h2⟩; exact ⟨r, rfl, h1, h2⟩)) (fun r6 => _)
    rotate_left
    simp only [Act.put, List.setIfInBounds_toArray, List.set_cons_zero, List.set_cons_succ]
    apply dag_val Ext.refl rfl (by intro W hW H; have q0 := hW.cell (oM.cell (j := 0) rfl); have q1 := hW.cell (oM.cell (j := 1) rfl); have q2 := hW.cell (oM.cell (j := 2) rfl); have q3 := hW.cell (oM.cell (j := 3) rfl); have q4 := hW.cell (oM.cell (j := 4) rfl); go_simp <;> rfl)
    simp only [Act.put, List.setIfInBounds_toArray, List.set_cons_zero, List.set_cons_succ]
    refine' dag_call (c := .bool true) (f := 16) (args := #[r6, wtv NT (.slice none 0 0)]) rfl (by intro W; go_simp <;> rfl) (fun W hW H => back_fact (s := NT) (H 39 (by kernel_rfl)) (KN.ext hW)) _
    rotate_left
    simp only [Act.put, List.setIfInBounds_toArray, List.set_cons_zero, List.set_cons_succ]
    apply dag_val Ext.refl rfl (by intro W hW H; go_simp <;> rfl)
    simp only [Act.put, List.setIfInBounds_toArray, List.set_cons_zero, List.set_cons_succ]
    apply dag_val Ext.refl rfl (by intro W hW H; go_simp <;> rfl)
    simp only [Act.put, List.setIfInBounds_toArray, List.set_cons_zero, List.set_cons_succ]
    apply dag_val Ext.refl rfl (by intro W hW H; go_simp <;> rfl)
    simp only [Act.put, List.setIfInBounds_toArray, List.set_cons_zero, List.set_cons_succ]
    apply dag_val Ext.refl rfl (by intro W hW H; go_simp <;> rfl)
    simp only [Act.put, List.setIfInBounds_toArray, List.set_cons_zero, List.set_cons_succ]
    apply dag_val Ext.refl rfl (by intro W hW H; go_simp <;> rfl)
    simp only [Act.put, List.setIfInBounds_toArray, List.set_cons_zero, List.set_cons_succ]
    apply dag_val Ext.refl rfl (by intro W hW H; go_simp <;> rfl)
    simp only [Act.put, List.setIfInBounds_toArray, List.set_cons_zero, List.set_cons_succ]
    apply dag_val Ext.refl rfl (by intro W hW H; go_simp <;> rfl)
    simp only [Act.put, List.setIfInBounds_toArray, List.set_cons_zero, List.set_cons_succ]
    apply dag_val Ext.refl rfl (by intro W hW H; have q0 := hW.cell (hO.cell (j := 0) rfl); have q1 := hW.cell (hO.cell (j := 1) rfl); have q2 := hW.cell (hO.cell (j := 2) rfl); have q3 := hW.cell (hO.cell (j := 3) rfl); have q4 := hW.cell (hO.cell (j := 4) rfl); go_simp <;> rfl)
    simp only [Act.put, List.setIfInBounds_toArray, List.set_cons_zero, List.set_cons_succ]
    refine' dag_call (c := .int .i64 KS) (f := 20) (args := #[wtv s (.slice po no co)]) rfl (by intro W; go_simp <;> rfl) (fun W hW H => HK1.out _ W (KO.ext hW)) _
    rotate_left
    simp only [Act.put, List.setIfInBounds_toArray, List.set_cons_zero, List.set_cons_succ]
    apply dag_val Ext.refl rfl (by intro W hW H; have q0 := hW.cell (hS.cell (j := 0) rfl); have q1 := hW.cell (hS.cell (j := 1) rfl); have q2 := hW.cell (hS.cell (j := 2) rfl); have q3 := hW.cell (hS.cell (j := 3) rfl); have q4 := hW.cell (hS.cell (j := 4) rfl); go_simp <;> rfl)
    simp only [Act.put, List.setIfInBounds_toArray, List.set_cons_zero, List.set_cons_succ]
    refine' dag_call (c := .int .i64 KS) (f := 21) (args := #[wtv s (.slice px nx cx)]) rfl (by intro W; go_simp <;> rfl) (fun W hW H => HK2.out W (HXW.trans hW)) _
    rotate_left
    simp only [Act.put, List.setIfInBounds_toArray, List.set_cons_zero, List.set_cons_succ]
    apply dag_val Ext.refl rfl (by intro W hW H; go_simp <;> rfl)
    simp only [Act.put, List.setIfInBounds_toArray, List.set_cons_zero, List.set_cons_succ]
    apply dag_val Ext.refl rfl (by intro W hW H; go_simp <;> rfl)
    simp only [Act.put, List.setIfInBounds_toArray, List.set_cons_zero, List.set_cons_succ]
    apply dag_val Ext.refl rfl (by intro W hW H; go_simp <;> rfl)
    simp only [Act.put, List.setIfInBounds_toArray, List.set_cons_zero, List.set_cons_succ]
    refine' dag_call (c := .bool true) (f := 8) (args := #[]) rfl (by intro W; go_simp <;> rfl) (fun W hW H => awake_any W) _
    rotate_left
    simp only [Act.put, List.setIfInBounds_toArray, List.set_cons_zero, List.set_cons_succ]
    apply dag_val Ext.refl rfl (by intro W hW H; go_simp <;> rfl)
    simp only [Act.put, List.setIfInBounds_toArray, List.set_cons_zero, List.set_cons_succ]
    refine dag_end fun W hW H => ?_
    clear H
    go_wp2_with fail
    go_ret
    exact ⟨rfl, HXW.trans hW⟩
  case neg =>
    have hbe : (er != 0) = true := by rw [bne_iff_ne]; exact he
    clear he
    apply wp_region_dag_tail 58 (X := Ext) (by kernel_rfl) (by kernel_rfl) (by kernel_rfl) (by decide) (fun _ _ _ => Ext.trans) (Ext.drew1 _)
    simp only [List.take_succ_cons, List.take_zero, List.drop_succ_cons, List.drop_zero]
    apply dag_val Ext.refl rfl (by intro W hW H; go_simp <;> rfl)
    simp only [Act.put, List.setIfInBounds_toArray, List.set_cons_zero, List.set_cons_succ]
    apply dag_val Ext.refl rfl (by intro W hW H; go_simp <;> rfl)
    simp only [Act.put, List.setIfInBounds_toArray, List.set_cons_zero, List.set_cons_succ]
    apply dag_val Ext.refl rfl (by intro W hW H; go_simp <;> rfl)
    simp only [Act.put, List.setIfInBounds_toArray, List.set_cons_zero, List.set_cons_succ]
    apply dag_val Ext.refl rfl (by intro W hW H; go_simp <;> rfl)
    simp only [Act.put, List.setIfInBounds_toArray, List.set_cons_zero, List.set_cons_succ]
    apply dag_val Ext.refl rfl (by intro W hW H; go_simp <;> rfl)
    simp only [Act.put, List.setIfInBounds_toArray, List.set_cons_zero, List.set_cons_succ]
    apply dag_val Ext.refl rfl (by intro W hW H; go_simp <;> rfl)
    simp only [Act.put, List.setIfInBounds_toArray, List.set_cons_zero, List.set_cons_succ]
    apply dag_val Ext.refl rfl (by intro W hW H; go_simp <;> rfl)
    simp only [Act.put, List.setIfInBounds_toArray, List.set_cons_zero, List.set_cons_succ]
    apply dag_not Ext.refl rfl
    simp only [Act.put, List.setIfInBounds_toArray, List.set_cons_zero, List.set_cons_succ]
    apply dag_not Ext.refl rfl
    simp only [Act.put, List.setIfInBounds_toArray, List.set_cons_zero, List.set_cons_succ]
    apply dag_not Ext.refl rfl
    simp only [Act.put, List.setIfInBounds_toArray, List.set_cons_zero, List.set_cons_succ]
    apply dag_not Ext.refl rfl
    simp only [Act.put, List.setIfInBounds_toArray, List.set_cons_zero, List.set_cons_succ]
    apply dag_val Ext.refl rfl (by intro W hW H; go_simp <;> rfl)
    simp only [Act.put, List.setIfInBounds_toArray, List.set_cons_zero, List.set_cons_succ]
    apply dag_val Ext.refl rfl (by intro W hW H; go_simp <;> rfl)
    simp only [Act.put, List.setIfInBounds_toArray, List.set_cons_zero, List.set_cons_succ]
    apply dag_val Ext.refl rfl (by intro W hW H; go_simp <;> rfl)
    simp only [Act.put, List.setIfInBounds_toArray, List.set_cons_zero, List.set_cons_succ]
    apply dag_val Ext.refl rfl (by intro W hW H; go_simp <;> rfl)
    simp only [Act.put, List.setIfInBounds_toArray, List.set_cons_zero, List.set_cons_succ]
    refine' dag_calls (fun v W => SmV W v O) (fun v W W' hx h => h.ext hx) rfl (by intro W; go_simp <;> rfl) (fun W hW H => (as_call (KLA.ext hW) HOL.out).mono (by rintro e w' ⟨r, rfl, h1, h2⟩; exact ⟨r, rfl, h1, h2⟩)) (fun r2 => _)
    rotate_left
    simp only [Act.put, List.setIfInBounds_toArray, List.set_cons_zero, List.set_cons_succ]
    apply dag_val Ext.refl rfl (by intro W hW H; go_simp <;> rfl)
    simp only [Act.put, List.setIfInBounds_toArray, List.set_cons_zero, List.set_cons_succ]
    refine' dag_call (c := .bool true) (f := 18) (args := #[r2, lb]) rfl (by intro W; go_simp <;> rfl) (fun W hW H => sums_fact (l := O) (H 15 (by kernel_rfl)) (KLB.ext hW)) _
    rotate_left
    simp only [Act.put, List.setIfInBounds_toArray, List.set_cons_zero, List.set_cons_succ]
    apply dag_val Ext.refl rfl (by intro W hW H; go_simp <;> rfl)
    simp only [Act.put, List.setIfInBounds_toArray, List.set_cons_zero, List.set_cons_succ]
    apply dag_val Ext.refl rfl (by intro W hW H; go_simp <;> rfl)
    simp only [Act.put, List.setIfInBounds_toArray, List.set_cons_zero, List.set_cons_succ]
    apply dag_val Ext.refl rfl (by intro W hW H; have q0 := hW.cell (hC.cell (j := 0) rfl); have q1 := hW.cell (hC.cell (j := 1) rfl); have q2 := hW.cell (hC.cell (j := 2) rfl); have q3 := hW.cell (hC.cell (j := 3) rfl); have q4 := hW.cell (hC.cell (j := 4) rfl); go_simp <;> rfl)
    simp only [Act.put, List.setIfInBounds_toArray, List.set_cons_zero, List.set_cons_succ]
    refine' dag_calls (fun v W => ∃ u, v = wtv CT u ∧ SmV W u CT.opn) (fun v W W' hx h => h.imp fun u hu => ⟨hu.1, hu.2.ext hx⟩) rfl (by intro W; go_simp <;> rfl) (fun W hW H => (back_call (KC.ext hW) HCL.out.1).mono (by rintro e w' ⟨r, rfl, h1, h2⟩; exact ⟨r, rfl, h1, h2⟩)) (fun r3 => _)
    rotate_left
    simp only [Act.put, List.setIfInBounds_toArray, List.set_cons_zero, List.set_cons_succ]
    apply dag_val Ext.refl rfl (by intro W hW H; have q0 := hW.cell (hD.cell (j := 0) rfl); have q1 := hW.cell (hD.cell (j := 1) rfl); have q2 := hW.cell (hD.cell (j := 2) rfl); have q3 := hW.cell (hD.cell (j := 3) rfl); have q4 := hW.cell (hD.cell (j := 4) rfl); go_simp <;> rfl)
    simp only [Act.put, List.setIfInBounds_toArray, List.set_cons_zero, List.set_cons_succ]
    refine' dag_call (c := .bool true) (f := 16) (args := #[r3, wtv CT (.slice pd nd cd)]) rfl (by intro W; go_simp <;> rfl) (fun W hW H => back_fact (s := CT) (H 21 (by kernel_rfl)) (KD.ext hW)) _
    rotate_left
    simp only [Act.put, List.setIfInBounds_toArray, List.set_cons_zero, List.set_cons_succ]
    apply dag_val Ext.refl rfl (by intro W hW H; go_simp <;> rfl)
    simp only [Act.put, List.setIfInBounds_toArray, List.set_cons_zero, List.set_cons_succ]
    apply dag_val Ext.refl rfl (by intro W hW H; go_simp <;> rfl)
    simp only [Act.put, List.setIfInBounds_toArray, List.set_cons_zero, List.set_cons_succ]
    apply dag_val Ext.refl rfl (by intro W hW H; go_simp <;> rfl)
    simp only [Act.put, List.setIfInBounds_toArray, List.set_cons_zero, List.set_cons_succ]
    refine' dag_calls (fun v W => SmV W v KL) (fun v W W' hx h => h.ext hx) rfl (by intro W; go_simp <;> rfl) (fun W hW H => (as_call (KLC.ext hW) HCL.out.2).mono (by rintro e w' ⟨r, rfl, h1, h2⟩; exact ⟨r, rfl, h1, h2⟩)) (fun r4 => _)
    rotate_left
    simp only [Act.put, List.setIfInBounds_toArray, List.set_cons_zero, List.set_cons_succ]
    apply dag_val Ext.refl rfl (by intro W hW H; go_simp <;> rfl)
    simp only [Act.put, List.setIfInBounds_toArray, List.set_cons_zero, List.set_cons_succ]
    refine' dag_call (c := .bool true) (f := 18) (args := #[r4, ld]) rfl (by intro W; go_simp <;> rfl) (fun W hW H => sums_fact (l := KL) (H 27 (by kernel_rfl)) (KLD.ext hW)) _
    rotate_left
    simp only [Act.put, List.setIfInBounds_toArray, List.set_cons_zero, List.set_cons_succ]
    apply dag_val Ext.refl rfl (by intro W hW H; go_simp <;> rfl)
    simp only [Act.put, List.setIfInBounds_toArray, List.set_cons_zero, List.set_cons_succ]
    apply dag_val Ext.refl rfl (by intro W hW H; go_simp <;> rfl)
    simp only [Act.put, List.setIfInBounds_toArray, List.set_cons_zero, List.set_cons_succ]
    apply dag_val Ext.refl rfl (by intro W hW H; have q0 := hW.cell (hO.cell (j := 0) rfl); have q1 := hW.cell (hO.cell (j := 1) rfl); have q2 := hW.cell (hO.cell (j := 2) rfl); have q3 := hW.cell (hO.cell (j := 3) rfl); have q4 := hW.cell (hO.cell (j := 4) rfl); go_simp <;> rfl)
    simp only [Act.put, List.setIfInBounds_toArray, List.set_cons_zero, List.set_cons_succ]
    refine' dag_calls (fun v W => ∃ u, v = wtv s u ∧ SmV W u s.opn) (fun v W W' hx h => h.imp fun u hu => ⟨hu.1, hu.2.ext hx⟩) rfl (by intro W; go_simp <;> rfl) (fun W hW H => (back_call (KO.ext hW) HSL.out).mono (by rintro e w' ⟨r, rfl, h1, h2⟩; exact ⟨r, rfl, h1, h2⟩)) (fun r5 => _)
    rotate_left
    simp only [Act.put, List.setIfInBounds_toArray, List.set_cons_zero, List.set_cons_succ]
    apply dag_val Ext.refl rfl (by intro W hW H; have q0 := hW.cell (hS.cell (j := 0) rfl); have q1 := hW.cell (hS.cell (j := 1) rfl); have q2 := hW.cell (hS.cell (j := 2) rfl); have q3 := hW.cell (hS.cell (j := 3) rfl); have q4 := hW.cell (hS.cell (j := 4) rfl); go_simp <;> rfl)
    simp only [Act.put, List.setIfInBounds_toArray, List.set_cons_zero, List.set_cons_succ]
    refine' dag_call (c := .bool true) (f := 16) (args := #[r5, wtv s (.slice px nx cx)]) rfl (by intro W; go_simp <;> rfl) (fun W hW H => back_fact (s := s) (H 33 (by kernel_rfl)) (KV.ext hW)) _
    rotate_left
    simp only [Act.put, List.setIfInBounds_toArray, List.set_cons_zero, List.set_cons_succ]
    apply dag_val Ext.refl rfl (by intro W hW H; go_simp <;> rfl)
    simp only [Act.put, List.setIfInBounds_toArray, List.set_cons_zero, List.set_cons_succ]
    apply dag_val Ext.refl rfl (by intro W hW H; go_simp <;> rfl)
    simp only [Act.put, List.setIfInBounds_toArray, List.set_cons_zero, List.set_cons_succ]
    apply dag_val Ext.refl rfl (by intro W hW H; have q0 := hW.cell (hN.cell (j := 0) rfl); have q1 := hW.cell (hN.cell (j := 1) rfl); have q2 := hW.cell (hN.cell (j := 2) rfl); have q3 := hW.cell (hN.cell (j := 3) rfl); have q4 := hW.cell (hN.cell (j := 4) rfl); go_simp <;> rfl)
    simp only [Act.put, List.setIfInBounds_toArray, List.set_cons_zero, List.set_cons_succ]
    refine' dag_calls (fun v W => ∃ u, v = wtv NT u ∧ SmV W u NT.opn) (fun v W W' hx h => h.imp fun u hu => ⟨hu.1, hu.2.ext hx⟩) rfl (by intro W; go_simp <;> rfl) (fun W hW H => (back_call (KN.ext hW) (by rw [hNo]; exact Nat.zero_le _)).mono (by rintro e w' ⟨r, rfl, h1, h2⟩; exact ⟨r, rfl, h1, h2⟩)) (fun r6 => _)
    rotate_left
    simp only [Act.put, List.setIfInBounds_toArray, List.set_cons_zero, List.set_cons_succ]
    apply dag_val Ext.refl rfl (by intro W hW H; have q0 := hW.cell (oM.cell (j := 0) rfl); have q1 := hW.cell (oM.cell (j := 1) rfl); have q2 := hW.cell (oM.cell (j := 2) rfl); have q3 := hW.cell (oM.cell (j := 3) rfl); have q4 := hW.cell (oM.cell (j := 4) rfl); go_simp <;> rfl)
    simp only [Act.put, List.setIfInBounds_toArray, List.set_cons_zero, List.set_cons_succ]
    refine' dag_call (c := .bool true) (f := 16) (args := #[r6, wtv NT (.slice none 0 0)]) rfl (by intro W; go_simp <;> rfl) (fun W hW H => back_fact (s := NT) (H 39 (by kernel_rfl)) (KN.ext hW)) _
    rotate_left
    simp only [Act.put, List.setIfInBounds_toArray, List.set_cons_zero, List.set_cons_succ]
    apply dag_val Ext.refl rfl (by intro W hW H; go_simp <;> rfl)
    simp only [Act.put, List.setIfInBounds_toArray, List.set_cons_zero, List.set_cons_succ]
    apply dag_val Ext.refl rfl (by intro W hW H; go_simp <;> rfl)
    simp only [Act.put, List.setIfInBounds_toArray, List.set_cons_zero, List.set_cons_succ]
    apply dag_val Ext.refl rfl (by intro W hW H; go_simp <;> rfl)
    simp only [Act.put, List.setIfInBounds_toArray, List.set_cons_zero, List.set_cons_succ]
    apply dag_val Ext.refl rfl (by intro W hW H; go_simp <;> rfl)
    simp only [Act.put, List.setIfInBounds_toArray, List.set_cons_zero, List.set_cons_succ]
    apply dag_val Ext.refl rfl (by intro W hW H; go_simp <;> rfl)
    simp only [Act.put, List.setIfInBounds_toArray, List.set_cons_zero, List.set_cons_succ]
    apply dag_val Ext.refl rfl (by intro W hW H; go_simp <;> rfl)
    simp only [Act.put, List.setIfInBounds_toArray, List.set_cons_zero, List.set_cons_succ]
    apply dag_val Ext.refl rfl (by intro W hW H; go_simp <;> rfl)
    simp only [Act.put, List.setIfInBounds_toArray, List.set_cons_zero, List.set_cons_succ]
    apply dag_val Ext.refl rfl (by intro W hW H; have q0 := hW.cell (hO.cell (j := 0) rfl); have q1 := hW.cell (hO.cell (j := 1) rfl); have q2 := hW.cell (hO.cell (j := 2) rfl); have q3 := hW.cell (hO.cell (j := 3) rfl); have q4 := hW.cell (hO.cell (j := 4) rfl); go_simp <;> rfl)
    simp only [Act.put, List.setIfInBounds_toArray, List.set_cons_zero, List.set_cons_succ]
    refine' dag_call (c := .int .i64 KS) (f := 20) (args := #[wtv s (.slice po no co)]) rfl (by intro W; go_simp <;> rfl) (fun W hW H => HK1.out _ W (KO.ext hW)) _
    rotate_left
    simp only [Act.put, List.setIfInBounds_toArray, List.set_cons_zero, List.set_cons_succ]
    apply dag_val Ext.refl rfl (by intro W hW H; have q0 := hW.cell (hS.cell (j := 0) rfl); have q1 := hW.cell (hS.cell (j := 1) rfl); have q2 := hW.cell (hS.cell (j := 2) rfl); have q3 := hW.cell (hS.cell (j := 3) rfl); have q4 := hW.cell (hS.cell (j := 4) rfl); go_simp <;> rfl)
    simp only [Act.put, List.setIfInBounds_toArray, List.set_cons_zero, List.set_cons_succ]
    refine' dag_call (c := .int .i64 KS) (f := 21) (args := #[wtv s (.slice px nx cx)]) rfl (by intro W; go_simp <;> rfl) (fun W hW H => HK2.out W (HXW.trans hW)) _
    rotate_left
    simp only [Act.put, List.setIfInBounds_toArray, List.set_cons_zero, List.set_cons_succ]
    apply dag_val Ext.refl rfl (by intro W hW H; go_simp <;> rfl)
    simp only [Act.put, List.setIfInBounds_toArray, List.set_cons_zero, List.set_cons_succ]
    apply dag_val Ext.refl rfl (by intro W hW H; go_simp <;> rfl)
    simp only [Act.put, List.setIfInBounds_toArray, List.set_cons_zero, List.set_cons_succ]
    apply dag_val Ext.refl rfl (by intro W hW H; go_simp <;> rfl)
    simp only [Act.put, List.setIfInBounds_toArray, List.set_cons_zero, List.set_cons_succ]
    refine' dag_call (c := .bool true) (f := 8) (args := #[]) rfl (by intro W; go_simp <;> rfl) (fun W hW H => awake_any W) _
    rotate_left
    simp only [Act.put, List.setIfInBounds_toArray, List.set_cons_zero, List.set_cons_succ]
    apply dag_val Ext.refl rfl (by intro W hW H; go_simp <;> rfl)
    simp only [Act.put, List.setIfInBounds_toArray, List.set_cons_zero, List.set_cons_succ]
    refine dag_end fun W hW H => ?_
    clear H
    go_wp2_with fail
    go_ret
    exact ⟨rfl, HXW.trans hW⟩
theorem addS_len1 {l : List Sm} {p : Sm} {n : Int} : (addS l p n).1.length ≤ l.length + 1 := by
  rw [addS_def]
  have := posS_le l p
  by_cases hc : posS l p < l.length ∧ ordS (l.getD (posS l p) sm0) p = 0
  · rw [if_pos hc]
    split
    · exact Nat.le_succ _
    · simp only [List.length_set]; exact Nat.le_succ _
  · rw [if_neg hc]
    split
    · exact Nat.le_succ _
    · simp only [List.length_append, List.length_take, List.length_cons, List.length_drop]; omega
theorem feedW_lens {s : Wt} {key : List UInt8} {time n : Int} : (feedW s key time n).1.opn.length ≤ s.opn.length + 1 ∧ (feedW s key time n).2.1.length ≤ s.opn.length + 1 := by
  have ha := addS_len1 (l := s.opn) (p := atS (time - time % s.size) key) (n := n)
  unfold feedW
  split
  · exact ⟨Nat.le_succ _, Nat.zero_le _⟩
  · split
    · exact ⟨Nat.le_succ _, Nat.zero_le _⟩
    · split
      · exact ⟨Nat.le_succ _, Nat.zero_le _⟩
      · simp only
        split
        · exact ⟨Nat.le_succ _, Nat.zero_le _⟩
        · split
          · exact ⟨Nat.le_succ _, Nat.zero_le _⟩
          · exact ⟨Nat.le_trans (List.length_filter_le _ _) ha, Nat.le_trans (List.length_filter_le _ _) ha⟩
theorem closeW_lens (s : Wt) : (closeW s).1.opn.length ≤ s.opn.length ∧ (closeW s).2.length ≤ s.opn.length := by
  unfold closeW
  split
  · exact ⟨Nat.le_refl _, Nat.zero_le _⟩
  · exact ⟨Nat.zero_le _, Nat.le_refl _⟩
set_option maxHeartbeats 1000000 in
theorem windowFeeds_walk (s : Wt) (v : Value) (x : Fd) (w : World) (h : SmV w v s.opn) :
    Calls Try.prog 3 #[wtv s v, fdv x] w fun e w' => e = .returned (.bool true) ∧ Below w.heap.size w w' := by
  cases hl : lightS s.opn with
  | false =>
    obtain ⟨oS, oX, hx0, hsz⟩ := objs2 w 24 26 (wtC s v) (fdCells x)
    obtain ⟨px, nx, cx, rfl⟩ := wt_slice h
    have L1 := rlightS_any (.slice px nx cx) s.opn _ (h.ext hx0)
    rw [hl] at L1
    have s4 := oS.cell (j := 4) rfl
    unfold fdCells at hx0 L1 s4
    clear hl hsz h oS oX
    go_enter Try.func3, Try.ntmps3
    go_wp2_with (first
      | (go_at_call 7; refine L1.mono ?_; rintro e w1 ⟨rfl, hx1⟩)
      | (go_at_call 8; refine (awake_any _).mono ?_; rintro e w3 ⟨rfl, hx3⟩))
    go_ret
    exact ⟨rfl, (hx0.trans hx1).trans hx3⟩
  | true =>
    by_cases hk : x.key.length ≤ 100
    case neg =>
      have hi2 : decide ((100 : Int) < (x.key.length : Int)) = true := by rw [decide_eq_true_eq]; omega
      have hkk : (ByteArray.mk x.key.toArray).size = x.key.length := text_size _
      obtain ⟨oS, oX, hx0, hsz⟩ := objs2 w 24 26 (wtC s v) (fdCells x)
      obtain ⟨px, nx, cx, rfl⟩ := wt_slice h
      have L1 := rlightS_any (.slice px nx cx) s.opn _ (h.ext hx0)
      rw [hl] at L1
      have s4 := oS.cell (j := 4) rfl
      have x0 := oX.cell (j := 0) rfl
      unfold fdCells at hx0 L1 s4 x0
      clear hl hsz h oS oX hk
      go_enter Try.func3, Try.ntmps3
      go_wp2_with (first
        | (go_at_call 7; refine L1.mono ?_; rintro e w1 ⟨rfl, hx1⟩
           have y0 := hx1.cell x0)
        | (go_at_call 8; refine (awake_any _).mono ?_; rintro e w3 ⟨rfl, hx3⟩))
      go_ret
      exact ⟨rfl, (hx0.trans hx1).trans hx3⟩
    have hlen := lightS_len hl
    have hcl := closeW_lens s
    have hfl := feedW_lens (s := s) (key := x.key) (time := x.time) (n := x.n)
    obtain ⟨TW, O, er, hF2⟩ : ∃ T O er, feedW s x.key x.time x.n = (T, O, er) := ⟨_, _, _, rfl⟩
    rw [hF2] at hfl
    by_cases he : er = 0
    · have hF1 : feedP s x.key x.time x.n = (TW, O, er) := by unfold feedP; rw [hF2]; simp only; rw [if_neg (by simp [he])]
      exact feeds_core s v x TW TW O er w h hl hk hF1 hF2 (fun _ => rfl) (by have := hfl.1; simp only at this; omega) (by have := hfl.2; simp only at this; omega) ⟨by omega, by omega⟩
    · have hO : O = [] := by have := feedW_none (s := s) (key := x.key) (time := x.time) (n := x.n) (by rw [hF2]; exact he); rw [hF2] at this; exact this
      subst hO
      have hF1 : feedP s x.key x.time x.n = (wt0, [], er) := by unfold feedP; rw [hF2]; simp only; rw [if_pos he]
      exact feeds_core s v x wt0 TW [] er w h hl hk hF1 hF2 (fun h => absurd h he) (by decide) (by decide) ⟨by omega, by omega⟩
end Go.Proofs.Ytpejdompanhieaa
