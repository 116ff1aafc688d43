/- What the program's Put of layer 35 lays: a state's bytes. What the program's Put of layer 35 lays, whole. -/
import Derived.Test.YtpejdompanhieaaWnP
import Derived.Test.YtpejdompanhieaaVarW
import Derived.Test.YtpejdompanhieaaDagK
import Derived.Test.YtpejdompanhieaaObj
namespace Go.Proofs.Ytpejdompanhieaa
open Go.RowKit

def putsV (l : List Int) : List UInt8 := (l.map putV).flatten
theorem putsV_snoc (l : List Int) (x : Int) : putsV (l ++ [x]) = putsV l ++ putV x := by unfold putsV; simp
theorem putV_len (n : Int) : (putV n).length ≤ 10 := (vb_length (zig n)).2
theorem putsV_len : ∀ l : List Int, (putsV l).length ≤ 10 * l.length
  | [] => by unfold putsV; simp
  | x :: l => by
    have h1 := putsV_len l
    have h2 := putV_len x
    have e : putsV (x :: l) = putV x ++ putsV l := by unfold putsV; simp
    rw [e, List.length_append, List.length_cons]
    omega
/-- Bytes in a box, apart from a block. -/
def OutB (w : World) (g b : Nat) (l : List UInt8) : Prop := ∃ p c, ObjAt w g 53 [.slice p l.length c] ∧ FB w (g + 1) (.slice p l.length c) l ∧ (Value.slice p l.length c).ownBlock ≠ some b
theorem OutB.ext {w w' : World} {g b : Nat} {l : List UInt8} (h : OutB w g b l) (hx : Ext w w') : OutB w' g b l := by
  obtain ⟨p, c, h1, h2, h3⟩ := h
  exact ⟨p, c, h1.ext hx, h2.keep hx, h3⟩
theorem OutB.new {w : World} {g b : Nat} {l : List UInt8} (h : OutB w g b l) : OutB w g w.heap.size l := by
  obtain ⟨p, c, h1, h2, _⟩ := h
  exact ⟨p, c, h1, h2, fun e => Nat.lt_irrefl _ (h2.lt _ e).2⟩
theorem OutB.grew {w W : World} {g b : Nat} {l m : List UInt8} {p : Option Addr} {c : Nat} {v : Value} (h1 : ObjAt w g 53 [.slice p l.length c]) (h2 : FB w (g + 1) (.slice p l.length c) l) (h3 : (Value.slice p l.length c).ownBlock ≠ some b) (hb : b < w.heap.size)
    (k : Grew w W (g + 1) (.slice p l.length c) v m) : ∃ p' c', v = .slice p' m.length c' ∧ ObjAt W g 53 [.slice p l.length c] ∧ OutB (W.setCell ⟨g, 0, none⟩ v) g b m ∧ Below g w (W.setCell ⟨g, 0, none⟩ v) ∧ (∀ B cs t, B = b → B ≠ g → ObjAt w B t cs → ObjAt (W.setCell ⟨g, 0, none⟩ v) B t cs) := by
  have hg := h1.lt
  obtain ⟨p', c', e, h4, h5, _⟩ := k.row.slice
  have hk1 := h1.kept k.grown (fun e => by have := (h2.lt g e.symm).1; omega)
  have hvg : v.ownBlock ≠ some g := fun e => by have := (k.row.lt g e).1; omega
  refine ⟨p', c', e, hk1, ?_, ?_, fun B cs t hB hne ho => ?_⟩
  · subst e
    refine ⟨p', c', hk1.store 0 _, k.row.far hvg _, fun e => ?_⟩
    rcases k.own with h | ⟨j, h, hj⟩
    · exact h3 (h ▸ e)
    · rw [h] at e
      have := Option.some.inj e
      omega
  · exact (grown_below k.grown (by omega) fun j e => by have := (h2.lt j e).1; omega).trans (grown_below (grown_set W ⟨g, 0, none⟩ v) (by have := k.grown.size; omega) fun j e => by cases e; exact Nat.le_refl _)
  · subst hB
    exact (ho.kept k.grown (fun e => h3 e.symm)).far (p := ⟨g, 0, none⟩) hne v
abbrev intv (n : Int) : Value := .int .i64 n
set_option maxHeartbeats 1000000 in
theorem putl_any (g b : Nat) (ns : List Int) (l : List UInt8) (w : World) (ho : OutB w g b l) (hb : ObjAt w b 3 (ns.map intv)) (hgb : b ≠ g) (hns : ∀ n ∈ ns, -9223372036854775808 ≤ n ∧ n ≤ 9223372036854775807) (hl : l.length + 10 * ns.length ≤ 1000000) :
    Calls Try.prog 47 #[.slice (some ⟨b, 0, none⟩) ns.length ns.length, .pointer (some ⟨g, 0, none⟩)] w fun e w' => (∃ r, e = .returned r) ∧ OutB w' g b (l ++ putsV ns) ∧ Below g w w' := by
  have HNS := Lib.hid hns
  have HGB := Lib.hid hgb
  have HL := Lib.hid hl
  have HB := Lib.hid hb
  have HO := Lib.hid ho
  have hlen : ns.length ≤ 100000 := by omega
  clear hns hgb hl hb ho
  go_enter Try.func47, Try.ntmps47
  go_wp2_with fail
  go_loopg [7] (ns.length) (fun k s7 wr => ∃ j : Nat, s7 = .int .i64 j ∧ j ≤ ns.length ∧ k = ns.length - j ∧ Hid (OutB wr g b (l ++ putsV (ns.take j))) ∧ Hid (ObjAt wr b 3 (ns.map intv)) ∧ Hid (Below g w wr))
  case atStart => exact ⟨0, rfl, Nat.zero_le _, rfl, Lib.hid (by rw [List.take_zero]; unfold putsV; simpa using HO.out), HB, Lib.hid (Below.refl _ _)⟩
  case round =>
    obtain ⟨j, rfl, hj, hk, HO1, HB1, HX1⟩ := hrel
    by_cases hlt : j < ns.length
    case pos =>
      have hi : (j : Int) < (ns.length : Int) := by omega
      have m0 := HB1.out.cell (j := j) (u := intv ns[j]) (by rw [List.getElem?_map, List.getElem?_eq_getElem hlt]; rfl)
      have hsn : l ++ putsV (ns.take (j + 1)) = l ++ putsV (ns.take j) ++ putV ns[j] := by rw [List.take_succ_eq_append_getElem hlt, putsV_snoc, List.append_assoc]
      have hlen2 : (l ++ putsV (ns.take j)).length ≤ 1000000 := by
        have h1 := putsV_len (ns.take j)
        have h2 := HL.out
        rw [List.length_append]
        rw [List.length_take] at h1
        omega
      have hbd := HNS.out ns[j] (List.getElem_mem hlt)
      have hpl := putV_len ns[j]
      generalize hL1 : l ++ putsV (ns.take (j + 1)) = L1 at *
      have HL1 := Lib.hid hL1
      clear hL1
      generalize l ++ putsV (ns.take j) = L at *
      generalize ns[j] = x at *
      obtain ⟨p, c, o1, f1, n1⟩ := HO1.out
      have c0 := o1.cell (j := 0) rfl
      have hglt := o1.lt
      have HBD := Lib.hid hbd
      have HF1 := Lib.hid f1
      have HLL := Lib.hid (And.intro hlen2 hpl)
      have HSN := Lib.hid hsn
      have HGL := Lib.hid hglt
      have HO11 := Lib.hid o1
      have HN1 := Lib.hid n1
      clear hbd f1 hlen2 hpl hsn hglt o1 n1
      go_wp2_with fail
      apply wp_region_dagK 3 4 (fun a b => a.grownBy b (Value.slice p L.length c).ownBlock) (X := Ext) (by kernel_rfl) (by kernel_rfl) (by kernel_rfl) (by decide) (by decide) (fun _ _ _ => Ext.trans) (Ext.drew1 _)
      simp only [List.take_succ_cons, List.take_zero, List.drop_succ_cons, List.drop_zero]
      apply dagk_val Ext.refl rfl (by intro W hW H; have hW := hW (by kernel_rfl); have q := hW.cell c0; go_simp <;> rfl)
      simp only [Act.put, List.setIfInBounds_toArray, List.set_cons_zero, List.set_cons_succ]
      apply dagk_val Ext.refl rfl (by intro W hW H; go_simp <;> rfl)
      simp only [Act.put, List.setIfInBounds_toArray, List.set_cons_zero, List.set_cons_succ]
      refine' dagk_calls (fun v W => FB W wr.heap.size v (putV x)) (fb_stable HF1.out) rfl (by intro W; go_simp <;> rfl) (fun W hW H => (put_any x HBD.out.1 HBD.out.2 W).mono (by rintro e w' ⟨v1, rfl, h1, h2⟩; exact ⟨v1, rfl, h1.base ((hW (by kernel_rfl)).size), stepk_x h2 (by decide)⟩)) (fun v1 => _)
      rotate_left
      simp only [Act.put, List.setIfInBounds_toArray, List.set_cons_zero, List.set_cons_succ]
      refine' dagk_run (fun v W => Grew wr W (g + 1) (.slice p L.length c) v (L ++ putV x)) (Grew.stable) rfl (fun W hW H => (run_grows (vx := .slice p L.length c) (vy := v1) (l := L) (m := putV x) T.bytes rfl rfl rfl HF1.out (hW (by kernel_rfl)) (show FB W wr.heap.size v1 (putV x) from H 2 (by kernel_rfl)).view (by have := HLL.out; omega) HGL.out).imp fun v hv => hv.imp fun W' hw => ⟨hw.1, stepk_z hw.2.1, hw.2.2⟩) (fun v2 => _)
      rotate_left
      simp only [Act.put, List.setIfInBounds_toArray, List.set_cons_zero, List.set_cons_succ]
      refine dagk_end fun W1 H => ?_
      have hg1 : Grew wr W1 (g + 1) (.slice p L.length c) v2 (L ++ putV x) := H 3
      obtain ⟨p2, c2, e2, o2, ho2, hx2, hb2⟩ := OutB.grew HO11.out HF1.out HN1.out HB1.out.lt hg1
      have hb3 := hb2 b _ _ rfl HGB.out HB1.out
      have c1 := o2.cell (j := 0) rfl
      have f1 := o2.free 0
      rw [← HSN.out] at e2
      subst e2
      rw [← HSN.out] at ho2
      have HO2 := Lib.hid ho2
      have HB3 := Lib.hid hb3
      have HX2 := Lib.hid (HX1.out.trans hx2)
      clear H hg1 ho2 hx2 hb2 hb3 o2
      go_wp2_with fail
      go_roundg (ns.length - (j + 1))
      case measure => omega
      case rel => exact ⟨j + 1, by go_num, hlt, rfl, HL1.out ▸ HO2, HB3, HX2⟩
    case neg =>
      have hje : j = ns.length := by omega
      subst hje
      have hi : ¬ (ns.length : Int) < (ns.length : Int) := by omega
      clear hlt
      go_wp2_with fail
      go_end0
      refine ⟨⟨_, rfl⟩, ?_, HX1.out⟩
      have := HO1.out
      rw [List.take_length] at this
      exact this
/-! ### A state's bytes -/
theorem putl5_any (g b B : Nat) (n0 n1 n2 n3 n4 : Int) (l : List UInt8) (w : World) (hB : w.heap.size = B) (ho : OutB w g b l) (hns : ∀ n ∈ [n0, n1, n2, n3, n4], -9223372036854775808 ≤ n ∧ n ≤ 9223372036854775807) (hl : l.length ≤ 900000) :
    Calls Try.prog 47 #[.slice (some ⟨B, 0, none⟩) 5 5, .pointer (some ⟨g, 0, none⟩)] (w.alloc (.cells #[.int .i64 n0, .int .i64 n1, .int .i64 n2, .int .i64 n3, .int .i64 n4] 3)) fun e w' => (∃ r, e = .returned r) ∧ OutB w' g B (l ++ putsV [n0, n1, n2, n3, n4]) ∧ Below g w w' := by
  have hlt : g < w.heap.size := by obtain ⟨p, c, h1, _⟩ := ho; exact h1.lt
  have h1 := (OutB.new ho).ext (Ext.alloc w (.cells #[.int .i64 n0, .int .i64 n1, .int .i64 n2, .int .i64 n3, .int .i64 n4] 3))
  have h2 : ObjAt (w.alloc (.cells #[.int .i64 n0, .int .i64 n1, .int .i64 n2, .int .i64 n3, .int .i64 n4] 3)) w.heap.size 3 ([n0, n1, n2, n3, n4].map intv) := heap_alloc_new w _
  subst hB
  refine (putl_any g w.heap.size [n0, n1, n2, n3, n4] l _ h1 h2 (by omega) hns (by show l.length + 10 * 5 ≤ 1000000; omega)).mono ?_
  rintro e w' ⟨k1, k2, k3⟩
  exact ⟨k1, k2, ((Ext.alloc w _).below (by omega)).trans k3⟩
def sumL (x : Sm) : List Int := [x.start, x.count, x.total, x.least, x.most]
theorem sumV_eq (x : Sm) : sumV x = textV x.key ++ putsV (sumL x) := by unfold sumV putsV sumL; simp
theorem sumsV_snoc (l : List Sm) (x : Sm) : sumsV (l ++ [x]) = sumsV l ++ (textV x.key ++ putsV (sumL x)) := by rw [← sumV_eq]; unfold sumsV; simp
def headL (s : Wt) : List Int := [s.size, s.late, s.mark, s.drops, s.opn.length]
theorem putW_eq (s : Wt) : putW s = putsV (headL s) ++ sumsV s.opn := by unfold putW putsV headL; simp
def putE (s : Wt) : List UInt8 × Int := if checkW s ≠ 0 then ([], checkW s) else (putW s, 0)
theorem textV_len (l : List UInt8) : (textV l).length ≤ 10 + l.length := by
  have := putV_len l.length
  unfold textV
  rw [List.length_append]
  omega
theorem sumsV_len {size : Int} : ∀ {l : List Sm}, (∀ x ∈ l, mayS size x = true) → (sumsV l).length ≤ 124 * l.length
  | [], _ => by unfold sumsV; simp
  | x :: l, h => by
    have h1 := sumsV_len (l := l) fun y hy => h y (List.mem_cons_of_mem _ hy)
    have h2 := mayS_in (h x (List.mem_cons_self ..))
    have h3 := textV_len x.key
    have h4 := putsV_len (sumL x)
    have e : sumsV (x :: l) = sumV x ++ sumsV l := by unfold sumsV; simp
    rw [e, sumV_eq, List.length_append, List.length_append, List.length_cons]
    have e2 : (sumL x).length = 5 := rfl
    omega
theorem OutB.first (w : World) : OutB (w.alloc (.cells #[.slice none 0 0] 53)) w.heap.size w.heap.size [] := ⟨none, 0, heap_alloc_new w _, FB.nil _ _, fun e => by cases e⟩
set_option maxRecDepth 20000 in
set_option maxHeartbeats 2000000 in
theorem wput_any (s : Wt) (v : Value) (w : World) (h : SmV w v s.opn) (hl : s.opn.length ≤ 100000) :
    Calls Try.prog 22 #[wtv s v] w fun e w' => ∃ bv, e = .returned (.tuple #[bv, .int .i64 (putE s).2]) ∧ BV w' bv (putE s).1 ∧ Ext w w' := by
  have hx0 := Ext.alloc w (.cells #[.int .i64 s.size, .int .i64 s.late, .int .i64 s.mark, .int .i64 s.drops, v] 31)
  have oa : ObjAt (w.alloc (.cells #[.int .i64 s.size, .int .i64 s.late, .int .i64 s.mark, .int .i64 s.drops, v] 31)) w.heap.size 31 (wtC s v) := heap_alloc_new w _
  have C1 := fun W hW => check_any s v W (h.ext hW)
  obtain ⟨q, c, rfl, hnc, hcm⟩ := h.slice
  have a0 := oa.cell (j := 0) rfl
  have a1 := oa.cell (j := 1) rfl
  have a2 := oa.cell (j := 2) rfl
  have a3 := oa.cell (j := 3) rfl
  have a4 := oa.cell (j := 4) rfl
  have HH := Lib.hid h
  clear hnc hcm h
  by_cases hc : checkW s = 0
  case neg =>
    have e2 : putE s = ([], checkW s) := by unfold putE; rw [if_pos hc]
    rw [e2]
    simp only
    have hb : (checkW s != 0) = true := by rw [bne_iff_ne]; exact hc
    generalize checkW s = k at *
    clear hc e2
    go_enter Try.func22, Try.ntmps22
    go_wp2_with (first
      | (go_at_call 20; refine (C1 _ hx0).mono ?_; rintro e w1 ⟨rfl, hx1⟩))
    go_ret2
    exact ⟨_, rfl, BV.nil _, hx0.trans hx1⟩
  have e2 : putE s = (putW s, 0) := by unfold putE; rw [if_neg (by simp [hc])]
  rw [e2, putW_eq]
  simp only
  rw [hc] at C1
  obtain ⟨b1, b2, b3, b4, b5, b6, b7, b8, b9, b10, b11⟩ := checkW_ok hc
  have HMAY := Lib.hid b10
  have HHB : Hid (∀ n ∈ headL s, -9223372036854775808 ≤ n ∧ n ≤ 9223372036854775807) := Lib.hid fun n hn => by
    unfold headL at hn
    simp only [List.mem_cons, List.not_mem_nil, or_false] at hn
    omega
  have HLN := Lib.hid b9
  clear b1 b2 b3 b4 b5 b6 b7 b8 b10 b11 e2 hc hl b9
  go_enter Try.func22, Try.ntmps22
  go_wp2_with (first
    | (go_at_call 20; refine (C1 _ hx0).mono ?_; rintro e w1 ⟨rfl, hx1⟩
       have hxb := Ext.alloc w1 (.cells #[.slice none 0 0] 53)
       have b0 := (hx1.trans hxb).cell a0
       have b1 := (hx1.trans hxb).cell a1
       have b2 := (hx1.trans hxb).cell a2
       have b3 := (hx1.trans hxb).cell a3
       have b4 := (hx1.trans hxb).cell a4
       have HX1 := Lib.hid (hx0.trans hx1)
       have HXB := Lib.hid hxb
       have HOB := Lib.hid (OutB.first w1)
       clear hxb)
    | (go_at_call 47; refine (putl5_any w1.heap.size _ (w1.heap.size + 1) s.size s.late s.mark s.drops s.opn.length [] (w1.alloc (.cells #[.slice none 0 0] 53)) (by simp) HOB.out HHB.out (Nat.zero_le _)).mono ?_; rintro e w2 ⟨⟨r2, rfl⟩, ho2, hx2⟩
       have HO2 := Lib.hid ho2
       have HX2 : Hid (Ext w1 w2) := Lib.hid (HXB.out.thenBelow hx2)
       have k4 := (hx1.trans HX2.out).cell a4
       clear ho2 hx2))
  have HA := Lib.hid (OutB.new HOB.out)
  have HOL : Hid (∃ B, OutB w2 w1.heap.size B ([] ++ putsV (headL s))) := Lib.hid ⟨_, HO2.out⟩
  clear HO2 HOB HXB HA HHB b0 b1 b2 b3 b4 a0 a1 a2 a3 a4 C1
  go_loopg [32] (s.opn.length) (fun k s32 wr => ∃ j : Nat, s32 = .int .i64 j ∧ j ≤ s.opn.length ∧ k = s.opn.length - j ∧ Hid (∃ B, OutB wr w1.heap.size B (putsV (headL s) ++ sumsV (s.opn.take j))) ∧ Hid (Ext w1 wr))
  case atStart => exact ⟨0, rfl, Nat.zero_le _, rfl, Lib.hid (by have := HOL.out; rw [List.take_zero]; unfold sumsV; simpa using this), HX2⟩
  case round =>
    obtain ⟨j, rfl, hj, hk, HO1, HXR⟩ := hrel
    obtain ⟨B1, hO1⟩ := HO1.out
    by_cases hlt : j < s.opn.length
    case pos =>
      have hi : (j : Int) < (s.opn.length : Int) := by omega
      obtain ⟨b, o, rfl, ⟨m0, m1, m2, m3, m4, m5⟩⟩ := sm_at (HH.out.ext (HX1.out.trans HXR.out)) hlt
      have hsn : putsV (headL s) ++ sumsV (s.opn.take (j + 1)) = (putsV (headL s) ++ sumsV (s.opn.take j) ++ textV s.opn[j].key) ++ putsV (sumL s.opn[j]) := by rw [List.take_succ_eq_append_getElem hlt, sumsV_snoc]; simp only [List.append_assoc]
      have hmay := HMAY.out _ (List.getElem_mem hlt)
      have hm1 := mayS_in hmay
      have hm2 := mayS_total hmay
      have hlen2 : (putsV (headL s) ++ sumsV (s.opn.take j)).length ≤ 100000 := by
        have h1 := putsV_len (headL s)
        have h2 := sumsV_len (l := s.opn.take j) fun x hx => HMAY.out x (List.mem_of_mem_take hx)
        have h3 := HLN.out
        have e2 : (headL s).length = 5 := rfl
        rw [List.length_append]
        rw [List.length_take] at h2
        omega
      generalize hL1 : putsV (headL s) ++ sumsV (s.opn.take (j + 1)) = L1 at *
      generalize hL : putsV (headL s) ++ sumsV (s.opn.take j) = L at *
      generalize s.opn[j] = x at *
      have HSB : Hid (∀ n ∈ sumL x, -9223372036854775808 ≤ n ∧ n ≤ 9223372036854775807) := Lib.hid fun n hn => by
        unfold sumL at hn
        simp only [List.mem_cons, List.not_mem_nil, or_false] at hn
        omega
      have htl := textV_len x.key
      have hkl : x.key.length ≤ 64 := by omega
      have HLL := Lib.hid (And.intro hlen2 (And.intro htl hkl))
      have HSN := Lib.hid hsn
      have HL1 := Lib.hid hL1
      have hxa := Ext.alloc wr (.cells #[.int .i64 x.start, .string ⟨x.key.toArray⟩, .int .i64 x.count, .int .i64 x.total, .int .i64 x.least, .int .i64 x.most] 64)
      have ox : ObjAt (wr.alloc (.cells #[.int .i64 x.start, .string ⟨x.key.toArray⟩, .int .i64 x.count, .int .i64 x.total, .int .i64 x.least, .int .i64 x.most] 64)) wr.heap.size 64 (smCells x) := heap_alloc_new wr _
      obtain ⟨p, c1, o1, f1, n1⟩ := hO1.new.ext hxa
      have c0 := o1.cell (j := 0) rfl
      have x1 := ox.cell (j := 1) rfl
      have HXA := Lib.hid hxa
      have HF1 := Lib.hid f1
      have HGL := Lib.hid o1.lt
      have HO11 := Lib.hid o1
      have HN1 := Lib.hid n1
      have HOX := Lib.hid ox
      have HGX : Hid (wr.heap.size ≠ w1.heap.size) := Lib.hid (by obtain ⟨_, _, h1, _⟩ := hO1; have := h1.lt; omega)
      have HR : Hid (w1.heap.size ≤ wr.heap.size) := Lib.hid HXR.out.size
      clear hmay hm1 hm2 hlen2 hL1 hL hsn hxa o1 f1 n1 ox htl hkl hO1
      go_wp2_with fail
      obtain ⟨wa, hwa⟩ : ∃ wa, wa = wr.alloc (.cells #[.int .i64 x.start, .string ⟨x.key.toArray⟩, .int .i64 x.count, .int .i64 x.total, .int .i64 x.least, .int .i64 x.most] 64) := ⟨_, rfl⟩
      have HWA : Hid (wa.heap.size = wr.heap.size + 1) := Lib.hid (by rw [hwa]; simp)
      rw [← hwa] at c0 x1 HXA HF1 HGL HO11 HOX ⊢
      clear hwa
      apply wp_region_dagK 4 5 (fun a b => a.grownBy b (Value.slice p L.length c1).ownBlock) (X := Ext) (by kernel_rfl) (by kernel_rfl) (by kernel_rfl) (by decide) (by decide) (fun _ _ _ => Ext.trans) (Ext.drew1 _)
      simp only [List.take_succ_cons, List.take_zero, List.drop_succ_cons, List.drop_zero]
      apply dagk_val Ext.refl rfl (by intro W hW H; have hW := hW (by kernel_rfl); have q := hW.cell c0; go_simp <;> rfl)
      simp only [Act.put, List.setIfInBounds_toArray, List.set_cons_zero, List.set_cons_succ]
      apply dagk_val Ext.refl rfl (by intro W hW H; go_simp <;> rfl)
      simp only [Act.put, List.setIfInBounds_toArray, List.set_cons_zero, List.set_cons_succ]
      apply dagk_val Ext.refl rfl (by intro W hW H; have hW := hW (by kernel_rfl); have q := hW.cell x1; go_simp <;> rfl)
      simp only [Act.put, List.setIfInBounds_toArray, List.set_cons_zero, List.set_cons_succ]
      refine' dagk_calls (fun v W => FB W wa.heap.size v (textV x.key)) (fb_stable HF1.out) rfl (by intro W; go_simp <;> rfl) (fun W hW H => (text_any x.key (by have := HLL.out.2.2; omega) W).mono (by rintro e w' ⟨v1, rfl, h1, h2⟩; exact ⟨v1, rfl, h1.base ((hW (by kernel_rfl)).size), stepk_x h2 (by decide)⟩)) (fun v1 => _)
      rotate_left
      simp only [Act.put, List.setIfInBounds_toArray, List.set_cons_zero, List.set_cons_succ]
      refine' dagk_run (fun v W => Grew wa W (w1.heap.size + 1) (.slice p L.length c1) v (L ++ textV x.key)) (Grew.stable) rfl (fun W hW H => (run_grows (vx := .slice p L.length c1) (vy := v1) (l := L) (m := textV x.key) T.bytes rfl rfl rfl HF1.out (hW (by kernel_rfl)) (show FB W wa.heap.size v1 (textV x.key) from H 3 (by kernel_rfl)).view (by have := HLL.out; omega) HGL.out).imp fun v hv => hv.imp fun W' hw => ⟨hw.1, stepk_z hw.2.1, hw.2.2⟩) (fun v2 => _)
      rotate_left
      simp only [Act.put, List.setIfInBounds_toArray, List.set_cons_zero, List.set_cons_succ]
      refine dagk_end fun W1 H => ?_
      have hg1 : Grew wa W1 (w1.heap.size + 1) (.slice p L.length c1) v2 (L ++ textV x.key) := H 4
      obtain ⟨p2, c2, e2, o2, ho2, hx2, hb2⟩ := OutB.grew (b := wr.heap.size) HO11.out HF1.out HN1.out (by have := HWA.out; omega) hg1
      have ox2 := hb2 _ _ _ rfl HGX.out HOX.out
      have c1' := o2.cell (j := 0) rfl
      have f1 := o2.free 0
      have y0 := ox2.cell (j := 0) rfl
      have y2 := ox2.cell (j := 2) rfl
      have y3 := ox2.cell (j := 3) rfl
      have y4 := ox2.cell (j := 4) rfl
      have y5 := ox2.cell (j := 5) rfl
      have HL2 : Hid ((L ++ textV x.key).length ≤ 900000) := Lib.hid (by have := HLL.out; rw [List.length_append]; omega)
      generalize L ++ textV x.key = L2 at *
      subst e2
      have HO2 := Lib.hid ho2
      have HX2' := Lib.hid ((HXR.out.trans HXA.out).thenBelow hx2)
      clear H hg1 ho2 hx2 hb2 o2 ox2 c0 x1
      go_wp2_with (go_at_call 47; refine (putl5_any w1.heap.size wr.heap.size W1.heap.size x.start x.count x.total x.least x.most L2 (W1.setCell ⟨w1.heap.size, 0, none⟩ (.slice p2 L2.length c2)) (by simp [World.setCell]) HO2.out HSB.out HL2.out).mono ?_; rintro e w5 ⟨⟨r5, rfl⟩, ho5, hx5⟩
                   have HO5 := Lib.hid ho5
                   have HX5 := Lib.hid (HX2'.out.thenBelow hx5)
                   clear ho5 hx5)
      go_roundg (s.opn.length - (j + 1))
      case measure => omega
      case rel =>
        have hq3 : wrap64 ((j : Int) + 1) = ((j + 1 : Nat) : Int) := by have := HLN.out; unfold wrap64; omega
        have hF : ∃ B, OutB w5 w1.heap.size B (putsV (headL s) ++ sumsV (s.opn.take (j + 1))) := by
          rw [HL1.out, HSN.out]
          exact ⟨_, HO5.out⟩
        exact ⟨j + 1, congrArg (Value.int .i64) hq3, hlt, rfl, Lib.hid hF, HX5⟩
    case neg =>
      have hje : j = s.opn.length := by omega
      subst hje
      have hi : ¬ (s.opn.length : Int) < (s.opn.length : Int) := by omega
      rw [List.take_length] at hO1
      obtain ⟨p, c1, o1, f1, n1⟩ := hO1
      generalize (putsV (headL s) ++ sumsV s.opn).length = nn at o1 f1 n1
      have c0 := o1.cell (j := 0) rfl
      have HF1 := Lib.hid f1
      clear hlt o1 f1 n1
      go_wp2_with fail
      go_ret2
      exact ⟨_, rfl, HF1.out.view, HX1.out.trans HXR.out⟩
end Go.Proofs.Ytpejdompanhieaa
