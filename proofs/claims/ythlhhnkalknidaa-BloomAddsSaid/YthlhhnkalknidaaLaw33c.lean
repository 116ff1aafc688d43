/- The statement BloomOrder of layer 33: the walk of the law. -/
import Derived.Test.YthlhhnkalknidaaLaw33b
import Derived.Test.YthlhhnkalknidaaLaw33
import Derived.Test.YthlhhnkalknidaaDagF
namespace Go.Proofs.Ythlhhnkalknidaa
open Go.RowKit

/-- What a walk asks of one round, and at the end. -/
theorem turn_round (s : SetB) (K : List (List UInt8)) (hg : goodB s) (j : Nat) :
    (sB s K j).bits.length ≤ 5000 ∧ 0 ≤ (sB s K j).n ∧ (sB s K j).n ≤ 1099511627776 := by
  obtain ⟨f1, f2, f3, f4, _⟩ := sB_facts s K hg j
  have f5 := f1.2.2.2.2
  have f6 := f1.2.1
  exact ⟨Nat.le_trans f6 (by decide), f5.1, f5.2⟩
theorem turn_end (s : SetB) (K : List (List UInt8)) (hg : goodB s) (n : Nat) :
    joinS (sB s K n) s = (⟨(sB s K n).bits, s.each, min ((sB s K n).n + s.n) 1099511627776⟩, 0) ∧ joinS s (sB s K n) = (⟨(sB s K n).bits, s.each, min ((sB s K n).n + s.n) 1099511627776⟩, 0) ∧
    (putS (sB s K n)).2 = 0 ∧ getS (putS (sB s K n)).1 = (sB s K n, 0) ∧ (putS (sB s K n)).1.length ≤ 5000 := by
  obtain ⟨f1, f2, f3, f4, _⟩ := sB_facts s K hg n
  have hsub := sB_sub s K hg n
  have e1 : orB s.bits (sB s K n).bits = (sB s K n).bits := or_sub _ _ f2.symm hsub
  refine ⟨?_, ?_, by rw [putS_ok f1], get_put _ f1, ?_⟩
  · rw [join_good _ _ f1 hg f2 f3, or_comm8 _ _ f2, e1, f3]
  · rw [join_good _ _ hg f1 f2.symm f3.symm, e1, Int.add_comm]
  · have h1 := putS_length (sB s K n)
    have h2 := f1.2.1
    omega

/-- A set in the document's box. -/
structure InR (w : World) (g : Nat) (s : SetB) : Prop where
  ex : ∃ p c, ObjAt w g 24 [.slice p s.bits.length c, .int .i64 s.each, .int .i64 s.n] ∧ BV w (.slice p s.bits.length c) s.bits
theorem InR.ext {w w' : World} {g : Nat} {s : SetB} (h : InR w g s) (hx : Ext w w') : InR w' g s := by
  obtain ⟨p, c, h1, h2⟩ := h.ex
  exact ⟨p, c, h1.ext hx, h2.ext hx⟩
theorem InR.far3 {w : World} {g g' : Nat} {s : SetB} (h : InR w g s) {x : Value} {e n : Int} (ho : ObjAt w g' 27 [x, .int .i64 e, .int .i64 n]) (hx : ∀ b : UInt8, x ≠ bv b) (hne : g ≠ g') (a b c : Value) : InR (set3 w g' a b c) g s := by
  obtain ⟨p, q, h1, h2⟩ := h.ex
  exact ⟨p, q, h1.far3 hne _ _ _, h2.beside3 ho hx _ _ _⟩

/-- A set in its box, its slice named. -/
def Bx (w : World) (g : Nat) (p : Option Addr) (c : Nat) (s : SetB) : Prop := ObjAt w g 27 [.slice p s.bits.length c, .int .i64 s.each, .int .i64 s.n] ∧ BV w (.slice p s.bits.length c) s.bits
theorem Bx.ext {w w' : World} {g : Nat} {p : Option Addr} {c : Nat} {s : SetB} (h : Bx w g p c s) (hx : Ext w w') : Bx w' g p c s := ⟨h.1.ext hx, h.2.ext hx⟩
theorem Bx.new {w : World} {p : Option Addr} {c : Nat} {s : SetB} (h : BV w (.slice p s.bits.length c) s.bits) : Bx (w.alloc (.cells #[.slice p s.bits.length c, .int .i64 s.each, .int .i64 s.n] 27)) w.heap.size p c s :=
  ⟨heap_alloc_new w _, h.ext (Ext.alloc _ _)⟩
def BxR (w : World) (g : Nat) (p : Option Addr) (c : Nat) (s : SetB) : Prop := ObjAt w g 24 [.slice p s.bits.length c, .int .i64 s.each, .int .i64 s.n] ∧ BV w (.slice p s.bits.length c) s.bits
theorem BxR.ext {w w' : World} {g : Nat} {p : Option Addr} {c : Nat} {s : SetB} (h : BxR w g p c s) (hx : Ext w w') : BxR w' g p c s := ⟨h.1.ext hx, h.2.ext hx⟩
theorem joinS_any (v1 v2 : Value) (a b s : SetB) (w : World) (h1 : BV w v1 a.bits) (h2 : BV w v2 b.bits) (ha : a.bits.length ≤ 5000) (hb : b.bits.length ≤ 5000) (hj : joinS a b = (s, 0)) :
    Calls Try.prog 21 #[stv v1 a.each a.n, stv v2 b.each b.n] w fun e w' => ∃ p c, e = .returned (.tuple #[stv (.slice p s.bits.length c) s.each s.n, .int .i64 0]) ∧ BV w' (.slice p s.bits.length c) s.bits ∧ Ext w w' := by
  have h := join_any v1 a.bits a.each a.n v2 b.bits b.each b.n w h1 h2 (by omega) (by omega)
  have hj' : joinS ⟨a.bits, a.each, a.n⟩ ⟨b.bits, b.each, b.n⟩ = (s, 0) := hj
  rw [hj'] at h
  refine h.mono ?_
  rintro e w' ⟨v', rfl, hb, hx⟩
  obtain ⟨p, c, rfl⟩ := hb.slice
  exact ⟨p, c, rfl, hb, hx⟩
theorem sameS_any (v1 v2 : Value) (s : SetB) (w : World) (h1 : BV w v1 s.bits) (h2 : BV w v2 s.bits) :
    Calls Try.prog 25 #[stv v1 s.each s.n, stv v2 s.each s.n] w fun e w' => e = .returned (.bool true) ∧ Ext w w' := by
  have h := same_any v1 s.bits s.each s.n v2 s.bits s.each s.n w h1 h2
  rw [same_refl] at h
  exact h

set_option maxRecDepth 20000 in
set_option maxHeartbeats 8000000 in
theorem bloomOrder_walk (vk : Value) (K : List (List UInt8)) (sv : Value) (x : List UInt8 × Int × Int) (w : World) (hk : SRow 1 RS (fun _ => True) w vk K) (hs : BV w sv x.1) (he : -9223372036854775808 ≤ x.2.1 ∧ x.2.1 ≤ 9223372036854775807) (hn : -9223372036854775808 ≤ x.2.2 ∧ x.2.2 ≤ 9223372036854775807) :
    Calls Try.prog 7 #[vk, stv sv x.2.1 x.2.2] w fun e w' => e = .returned (.bool true) ∧ Ext w w' := by
  obtain ⟨p, c, rfl, hkc, hkm⟩ := hk.slice
  unfold maxLen at hkm
  obtain ⟨l, each, n⟩ := x
  simp only at *
  obtain ⟨q, d, rfl⟩ := hs.slice
  clear he hn
  have hx0 := Ext.alloc w (.cells #[.slice q l.length d, .int .i64 each, .int .i64 n] 24)
  have o0 := boxR_at w (.slice q l.length d) each n
  have hs0 := hs.ext hx0
  by_cases hl : 30 < K.length
  · have hl2 : (30 : Int) < (K.length : Int) := by omega
    clear hl
    go_enter Try.func7, Try.ntmps7
    go_wp2_with (go_at_call 9; refine (awake_any _).mono ?_; rintro e w1 ⟨rfl, hx1⟩)
    go_ret
    exact ⟨rfl, hx0.trans hx1⟩
  have hl2 : ¬ (30 : Int) < (K.length : Int) := by omega
  have L1 := light_any (.slice q l.length d) l each n _ hs0
  by_cases hl200 : l.length ≤ 200
  case neg =>
    rw [decide_eq_false hl200] at L1
    clear hl hl200
    go_enter Try.func7, Try.ntmps7
    go_wp2_with (first
      | (go_at_call 8; refine L1.mono ?_; rintro e w1 ⟨rfl, hx1⟩)
      | (go_at_call 9; refine (awake_any _).mono ?_; rintro e w2 ⟨rfl, hx2⟩))
    go_ret
    exact ⟨rfl, (hx0.trans hx1).trans hx2⟩
  rw [decide_eq_true hl200] at L1
  have C1 := fun W h => check_any (.slice q l.length d) l each n W h
  by_cases hg : goodB ⟨l, each, n⟩
  case neg =>
    rw [checkB_bad hg] at C1
    clear hl hl200 hg
    go_enter Try.func7, Try.ntmps7
    go_wp2_with (first
      | (go_at_call 8; refine L1.mono ?_; rintro e w1 ⟨rfl, hx1⟩
         obtain ⟨m0, m1, m2⟩ := (o0.ext hx1).cells3)
      | (go_at_call 17; refine (C1 _ (hs0.ext hx1)).mono ?_; rintro e w2 ⟨rfl, hx2⟩)
      | (go_at_call 9; refine (awake_any _).mono ?_; rintro e w3 ⟨rfl, hx3⟩))
    go_ret
    exact ⟨rfl, ((hx0.trans hx1).trans hx2).trans hx3⟩
  rw [checkB_ok hg] at C1
  clear hl hl200
  go_enter Try.func7, Try.ntmps7
  go_wp2_with (first
    | (go_at_call 8; refine L1.mono ?_; rintro e w1 ⟨rfl, hx1⟩
       obtain ⟨m0, m1, m2⟩ := (o0.ext hx1).cells3)
    | (go_at_call 17; refine (C1 _ (hs0.ext hx1)).mono ?_; rintro e w2 ⟨rfl, hx2⟩
       obtain ⟨l0, l1, l2⟩ := ((o0.ext hx1).ext hx2).cells3))
  have hxa := (hx0.trans hx1).trans hx2
  have oR2 : InR w2 w.heap.size ⟨l, each, n⟩ := ⟨q, d, (o0.ext hx1).ext hx2, (hs0.ext hx1).ext hx2⟩
  have hgs := hxa.size
  have HGS := Lib.hid hgs
  clear m0 m1 m2 hs0 L1 C1 hgs
  apply wp_region_dagF 5 (by kernel_rfl) (by kernel_rfl) (by kernel_rfl) (by decide)
  simp only [List.take_succ_cons, List.take_zero, List.drop_succ_cons, List.drop_zero]
  apply dagf_val rfl (by intro W hW H; have k0 := hW.cell l0; have k1 := hW.cell l1; have k2 := hW.cell l2; go_simp <;> rfl)
  simp only [Act.put, List.setIfInBounds_toArray, List.set_cons_zero, List.set_cons_succ]
  apply dagf_val rfl (by intro W hW H; have k0 := hW.cell l0; have k1 := hW.cell l1; have k2 := hW.cell l2; go_simp <;> rfl)
  simp only [Act.put, List.setIfInBounds_toArray, List.set_cons_zero, List.set_cons_succ]
  refine' dagf_row (fun v W => ∃ g, v = .pointer (some ⟨g, 0, none⟩) ∧ w2.heap.size ≤ g ∧ ObjAt W g 27 nilS) (ObjAt.res _ _ _) rfl (fun W hW H => frow_alloc hW.size (by go_simp <;> rfl)) (fun v2 => _)
  rotate_left
  simp only [Act.put, List.setIfInBounds_toArray, List.set_cons_zero, List.set_cons_succ]
  refine' dagf_row (fun v W => ∃ g, v = .pointer (some ⟨g, 0, none⟩) ∧ w2.heap.size ≤ g ∧ ObjAt W g 27 nilS) (ObjAt.res _ _ _) rfl (fun W hW H => frow_alloc hW.size (by go_simp <;> rfl)) (fun v3 => _)
  rotate_left
  simp only [Act.put, List.setIfInBounds_toArray, List.set_cons_zero, List.set_cons_succ]
  refine' dagf_upd 2 v2 _ (fun v W => ∃ g, v = .pointer (some ⟨g, 0, none⟩) ∧ w2.heap.size ≤ g ∧ ObjAt W g 27 [.slice q l.length d, .int .i64 each, .int .i64 n]) (ObjAt.res _ _ _) (by kernel_rfl) (by repeat (first | exact List.mem_cons_self | refine mem_keep ?_ (by decide) | apply List.mem_cons_of_mem)) rfl (fun W hW H => by obtain ⟨g, rfl, hgg, ho⟩ := (show ∃ g, v2 = .pointer (some ⟨g, 0, none⟩) ∧ w2.heap.size ≤ g ∧ ObjAt W g 27 nilS from H (2, v2, _) (by repeat (first | exact List.mem_cons_self | refine mem_keep ?_ (by decide) | apply List.mem_cons_of_mem)) (by kernel_rfl)); obtain ⟨⟨c0, f0, c1, f1, c2, f2⟩, ho2⟩ := ho.stored3 (.slice q l.length d) (.int .i64 each) (.int .i64 n); exact ⟨_, (by go_simp <;> rfl), grown_set3 _ _ _ _ _, g, rfl, hgg, ho2⟩) (fun v4 => _)
  rotate_left
  simp only [Act.put]
  refine dagf_end fun W hW H HA => ?_
  obtain ⟨g5, e5, hg5, oa⟩ : ∃ g, v2 = .pointer (some ⟨g, 0, none⟩) ∧ w2.heap.size ≤ g ∧ ObjAt W g 27 [.slice q l.length d, .int .i64 each, .int .i64 n] := H (4, v2, _) (by repeat (first | exact List.mem_cons_self | refine mem_keep ?_ (by decide) | apply List.mem_cons_of_mem))
  obtain ⟨g6, e6, hg6, ob⟩ : ∃ g, v3 = .pointer (some ⟨g, 0, none⟩) ∧ w2.heap.size ≤ g ∧ ObjAt W g 27 nilS := H (3, v3, _) (by repeat (first | exact List.mem_cons_self | refine mem_keep ?_ (by decide) | apply List.mem_cons_of_mem))
  subst e5
  subst e6
  have hne : g5 ≠ g6 := fun e => HA (4, .pointer (some ⟨g5, 0, none⟩), _) (by repeat (first | exact List.mem_cons_self | refine mem_keep ?_ (by decide) | apply List.mem_cons_of_mem)) (3, .pointer (some ⟨g6, 0, none⟩), _) (by repeat (first | exact List.mem_cons_self | refine mem_keep ?_ (by decide) | apply List.mem_cons_of_mem)) (by show (4 : Nat) ≠ 3; decide) g5 rfl (by rw [e]; rfl)
  clear H HA l0 l1 l2
  have oRW := oR2.ext hW
  have bW : BV W (.slice q l.length d) l := hs.ext (hxa.trans hW)
  obtain ⟨⟨c0, f0, c1, f1, c2, f2⟩, ob2⟩ := ob.stored3 (.slice q l.length d) (.int .i64 each) (.int .i64 n)
  have hxW := (hxa.trans hW).set3 (g := g6) (Nat.le_trans HGS.out hg6) (.slice q l.length d) (.int .i64 each) (.int .i64 n)
  have iA : In (set3 W g6 (.slice q l.length d) (.int .i64 each) (.int .i64 n)) g5 ⟨l, each, n⟩ := (⟨q, d, oa, bW⟩ : In W g5 ⟨l, each, n⟩).far3 ob (slice_nb _ _ _) hne _ _ _
  have iB : In (set3 W g6 (.slice q l.length d) (.int .i64 each) (.int .i64 n)) g6 ⟨l, each, n⟩ := In.laid ob (slice_nb _ _ _) ⟨l, each, n⟩ bW
  have hwg : w.heap.size ≠ g6 := by have := oR2.ex; obtain ⟨_, _, ho, _⟩ := this; have := ho.lt; omega
  have hwg5 : w.heap.size ≠ g5 := by have := oR2.ex; obtain ⟨_, _, ho, _⟩ := this; have := ho.lt; omega
  have iR : InR (set3 W g6 (.slice q l.length d) (.int .i64 each) (.int .i64 n)) w.heap.size ⟨l, each, n⟩ := oRW.far3 ob (slice_nb _ _ _) hwg _ _ _
  have HNE := Lib.hid hne
  have HWG := Lib.hid hwg
  have HWG5 := Lib.hid hwg5
  have HG := Lib.hid hg
  have h5w : w.heap.size ≤ g5 := Nat.le_trans HGS.out hg5
  have h6w : w.heap.size ≤ g6 := Nat.le_trans HGS.out hg6
  have H5W := Lib.hid h5w
  have H6W := Lib.hid h6w
  generalize hs0 : (⟨l, each, n⟩ : SetB) = s0 at *
  clear hne hwg hwg5 hg oa ob ob2 oR2 oRW hg5 hg6 h5w h6w
  go_wp2_with fail
  go_loopg [7] (K.length) (fun k s7 wr => ∃ j : Nat, s7 = .int .i64 j ∧ j ≤ K.length ∧ k = K.length - j ∧ In wr g5 (sB s0 K j) ∧ In wr g6 (sB s0 K.reverse j) ∧ InR wr w.heap.size s0 ∧ Ext w wr)
  case atStart => exact ⟨0, rfl, Nat.zero_le _, rfl, iA, iB, iR, hxW⟩
  case round =>
    obtain ⟨j, rfl, hj, hk2, hiA, hiB, hiR, hx⟩ := hrel
    by_cases hlt : j < K.length
    case pos =>
      have hi : (j : Int) < (K.length : Int) := by omega
      obtain ⟨bk, ok, e9, hck0⟩ := str_at hk hlt
      subst e9
      have hck := hx.cell hck0
      have hsize : (ByteArray.mk (K.getD j []).toArray).size = (K.getD j []).length := text_size _
      by_cases h60 : (K.getD j []).length ≤ 60
      case neg =>
        have h61 : (60 : Int) < ((K.getD j []).length : Int) := by omega
        clear h60
        generalize K.getD j [] = key at *
        go_wp2_with (go_at_call 9; refine (awake_any _).mono ?_; rintro e w4 ⟨rfl, hx4⟩)
        go_ret
        exact ⟨rfl, hx.trans hx4⟩
      have h61 : ¬ (60 : Int) < ((K.getD j []).length : Int) := by omega
      obtain ⟨r, hr⟩ : ∃ r, K.length - 1 - j = r := ⟨_, rfl⟩
      have hrK : r < K.length := by omega
      have hrev : K.reverse.getD j [] = K.getD r [] := by
        rw [List.getD_eq_getElem?_getD, List.getElem?_reverse hlt, hr, List.getD_eq_getElem?_getD]
      obtain ⟨_, _, e9, hcr0⟩ := str_at hk hrK
      cases e9
      have hrl : (K.getD r []).length ≤ maxLen := by
        obtain ⟨_, _, cs, _, _, _, hu⟩ := hk.cells (by decide) hrK
        have := hu.now.2
        rw [List.getD_eq_getElem?_getD, List.getElem?_eq_getElem hrK]
        exact this
      obtain ⟨f1, f2, f3⟩ := turn_round s0 K HG.out j
      obtain ⟨q1, q2, q3⟩ := turn_round s0 K.reverse HG.out j
      have A1 := fun v W h => addS_any v (sB s0 K j) (K.getD j []) W h (Nat.le_trans h60 (by simp [maxLen])) f1 f2 f3
      have A2 := fun v W h => addS_any v (sB s0 K.reverse j) (K.getD r []) W h hrl q1 q2 q3
      have hS : addB (sB s0 K j) (K.getD j []) = sB s0 K (j + 1) := rfl
      have hS2 : addB (sB s0 K.reverse j) (K.getD r []) = sB s0 K.reverse (j + 1) := by rw [← hrev]; rfl
      rw [hS] at A1
      rw [hS2] at A2
      have hw1 : IntKind.i64.wrap ((K.length : Int) - 1) = (K.length : Int) - 1 := by rw [IntKind.wrap_i64]; omega
      have hw2 : IntKind.i64.wrap ((K.length : Int) - 1 - (j : Int)) = (r : Int) := by rw [IntKind.wrap_i64]; omega
      have hir : (r : Int) < (K.length : Int) := by omega
      clear f1 f2 f3 q1 q2 q3 hS hS2 h60 hrev hrl hr
      generalize K.getD j [] = key at *
      generalize K.getD r [] = keyr at *
      generalize hAn : sB s0 K j = S at *
      generalize hAn2 : sB s0 K (j + 1) = S' at *
      generalize hBn : sB s0 K.reverse j = O at *
      generalize hBn2 : sB s0 K.reverse (j + 1) = O' at *
      have HAN := Lib.hid hAn2
      have HBN := Lib.hid hBn2
      clear hAn hAn2 hBn hBn2
      obtain ⟨ps, cs, os, bs⟩ := hiA.ex
      obtain ⟨m0, m1, m2⟩ := os.cells3
      go_wp2_with fail
      apply wp_region_dag_tail 6 (X := Ext) (by kernel_rfl) (by kernel_rfl) (by kernel_rfl) (by decide) (fun _ _ _ => Ext.trans) (Ext.drew1 _)
      simp only [List.take_succ_cons, List.take_zero, List.drop_succ_cons, List.drop_zero]
      apply dag_val Ext.refl rfl (by intro W hW H; have k0 := hW.cell m0; have k1 := hW.cell m1; have k2 := hW.cell m2; go_simp <;> rfl)
      simp only [Act.put, List.setIfInBounds_toArray, List.set_cons_zero, List.set_cons_succ]
      apply dag_val Ext.refl rfl (by intro W hW H; go_simp <;> rfl)
      simp only [Act.put, List.setIfInBounds_toArray, List.set_cons_zero, List.set_cons_succ]
      apply dag_val Ext.refl rfl (by intro W hW H; go_simp <;> rfl)
      simp only [Act.put, List.setIfInBounds_toArray, List.set_cons_zero, List.set_cons_succ]
      apply dag_val Ext.refl rfl (by intro W hW H; go_simp <;> rfl)
      simp only [Act.put, List.setIfInBounds_toArray, List.set_cons_zero, List.set_cons_succ]
      apply dag_val Ext.refl rfl (by intro W hW H; have k0 := hW.cell hck; go_simp <;> rfl)
      simp only [Act.put, List.setIfInBounds_toArray, List.set_cons_zero, List.set_cons_succ]
      refine' dag_calls (fun v W => ∃ u cu, v = stv (.slice u S'.bits.length cu) S'.each S'.n ∧ BV W (.slice u S'.bits.length cu) S'.bits) (fun v W W' hx ⟨u, cu, e, hb⟩ => ⟨u, cu, e, hb.ext hx⟩) rfl (by intro W; go_simp <;> rfl) (fun W hW H => (A1 _ W (bs.ext hW)).mono (by rintro e w' ⟨u, cu, rfl, hb, hx9⟩; exact ⟨_, rfl, ⟨u, cu, rfl, hb⟩, hx9⟩)) (fun r1 => _)
      rotate_left
      simp only [Act.put, List.setIfInBounds_toArray, List.set_cons_zero, List.set_cons_succ]
      refine dag_end fun W3 hW3 H => ?_
      obtain ⟨u, cu, e8, hbu⟩ : ∃ u cu, r1 = stv (.slice u S'.bits.length cu) S'.each S'.n ∧ BV W3 (.slice u S'.bits.length cu) S'.bits := H 5
      subst e8
      clear H m0 m1 m2
      have osW := os.ext hW3
      obtain ⟨⟨d0, k0, d1, k1, d2, k2⟩, os2⟩ := osW.stored3 (.slice u S'.bits.length cu) (.int .i64 S'.each) (.int .i64 S'.n)
      have jA : In (set3 W3 g5 (.slice u S'.bits.length cu) (.int .i64 S'.each) (.int .i64 S'.n)) g5 S' := In.laid osW (slice_nb _ _ _) S' hbu
      have jB : In (set3 W3 g5 (.slice u S'.bits.length cu) (.int .i64 S'.each) (.int .i64 S'.n)) g6 O := (hiB.ext hW3).far3 osW (slice_nb _ _ _) HNE.out.symm _ _ _
      have jR : InR (set3 W3 g5 (.slice u S'.bits.length cu) (.int .i64 S'.each) (.int .i64 S'.n)) w.heap.size s0 := (hiR.ext hW3).far3 osW (slice_nb _ _ _) HWG5.out _ _ _
      have hx3 : Ext w (set3 W3 g5 (.slice u S'.bits.length cu) (.int .i64 S'.each) (.int .i64 S'.n)) := (hx.trans hW3).set3 H5W.out _ _ _
      have hcr := hx3.cell hcr0
      go_wp2_with fail
      clear d0 k0 d1 k1 d2 k2
      obtain ⟨pO, cO, oO, bO⟩ := jB.ex
      obtain ⟨m0, m1, m2⟩ := oO.cells3
      apply wp_region_dag_tail 10 (X := Ext) (by kernel_rfl) (by kernel_rfl) (by kernel_rfl) (by decide) (fun _ _ _ => Ext.trans) (Ext.drew1 _)
      simp only [List.take_succ_cons, List.take_zero, List.drop_succ_cons, List.drop_zero]
      apply dag_val Ext.refl rfl (by intro W hW H; have k0 := hW.cell m0; have k1 := hW.cell m1; have k2 := hW.cell m2; go_simp <;> rfl)
      simp only [Act.put, List.setIfInBounds_toArray, List.set_cons_zero, List.set_cons_succ]
      apply dag_val Ext.refl rfl (by intro W hW H; go_simp <;> rfl)
      simp only [Act.put, List.setIfInBounds_toArray, List.set_cons_zero, List.set_cons_succ]
      apply dag_val Ext.refl rfl (by intro W hW H; go_simp <;> rfl)
      simp only [Act.put, List.setIfInBounds_toArray, List.set_cons_zero, List.set_cons_succ]
      apply dag_val Ext.refl rfl (by intro W hW H; go_simp <;> rfl)
      simp only [Act.put, List.setIfInBounds_toArray, List.set_cons_zero, List.set_cons_succ]
      apply dag_val Ext.refl rfl (by intro W hW H; go_simp <;> rfl)
      simp only [Act.put, List.setIfInBounds_toArray, List.set_cons_zero, List.set_cons_succ]
      apply dag_val Ext.refl rfl (by intro W hW H; go_simp <;> rfl)
      simp only [Act.put, List.setIfInBounds_toArray, List.set_cons_zero, List.set_cons_succ]
      apply dag_val Ext.refl rfl (by intro W hW H; go_simp <;> rfl)
      simp only [Act.put, List.setIfInBounds_toArray, List.set_cons_zero, List.set_cons_succ]
      apply dag_val Ext.refl rfl (by intro W hW H; go_simp <;> rfl)
      simp only [Act.put, List.setIfInBounds_toArray, List.set_cons_zero, List.set_cons_succ]
      apply dag_val Ext.refl rfl (by intro W hW H; have k0 := hW.cell hcr; go_simp <;> rfl)
      simp only [Act.put, List.setIfInBounds_toArray, List.set_cons_zero, List.set_cons_succ]
      refine' dag_calls (fun v W => ∃ u cu, v = stv (.slice u O'.bits.length cu) O'.each O'.n ∧ BV W (.slice u O'.bits.length cu) O'.bits) (fun v W W' hx ⟨u, cu, e, hb⟩ => ⟨u, cu, e, hb.ext hx⟩) rfl (by intro W; go_simp <;> rfl) (fun W hW H => (A2 _ W (bO.ext hW)).mono (by rintro e w' ⟨u, cu, rfl, hb, hx9⟩; exact ⟨_, rfl, ⟨u, cu, rfl, hb⟩, hx9⟩)) (fun r2 => _)
      rotate_left
      simp only [Act.put, List.setIfInBounds_toArray, List.set_cons_zero, List.set_cons_succ]
      refine dag_end fun W4 hW4 H => ?_
      obtain ⟨u4, cu4, e8, hbu4⟩ : ∃ u cu, r2 = stv (.slice u O'.bits.length cu) O'.each O'.n ∧ BV W4 (.slice u O'.bits.length cu) O'.bits := H 9
      subst e8
      clear H m0 m1 m2
      have ooW := oO.ext hW4
      obtain ⟨⟨d0, k0, d1, k1, d2, k2⟩, oo2⟩ := ooW.stored3 (.slice u4 O'.bits.length cu4) (.int .i64 O'.each) (.int .i64 O'.n)
      have jB2 : In (set3 W4 g6 (.slice u4 O'.bits.length cu4) (.int .i64 O'.each) (.int .i64 O'.n)) g6 O' := In.laid ooW (slice_nb _ _ _) O' hbu4
      have jA2 : In (set3 W4 g6 (.slice u4 O'.bits.length cu4) (.int .i64 O'.each) (.int .i64 O'.n)) g5 S' := (jA.ext hW4).far3 ooW (slice_nb _ _ _) HNE.out _ _ _
      have jR2 : InR (set3 W4 g6 (.slice u4 O'.bits.length cu4) (.int .i64 O'.each) (.int .i64 O'.n)) w.heap.size s0 := (jR.ext hW4).far3 ooW (slice_nb _ _ _) HWG.out _ _ _
      have hx4 : Ext w (set3 W4 g6 (.slice u4 O'.bits.length cu4) (.int .i64 O'.each) (.int .i64 O'.n)) := (hx3.trans hW4).set3 H6W.out _ _ _
      go_wp2_with fail
      go_roundg (K.length - (j + 1))
      case measure => omega
      case rel => exact ⟨j + 1, by go_num, hlt, rfl, by rw [HAN.out]; exact jA2, by rw [HBN.out]; exact jB2, jR2, hx4⟩
    case neg =>
      obtain rfl : j = K.length := by omega
      obtain ⟨t1, t2, t3, t4, t5⟩ := turn_end s0 K HG.out K.length
      obtain ⟨f1, f2, f3⟩ := turn_round s0 K HG.out K.length
      have hgS := (sB_facts s0 K HG.out K.length).1
      have hg0 := HG.out.2.1
      have hbnd := hgS.2.2
      rw [sB_turn s0 K HG.out] at hiB
      have J1 := fun v1 v2 W h1 h2 => joinS_any v1 v2 (sB s0 K K.length) s0 _ W h1 h2 f1 (Nat.le_trans hg0 (by decide)) t1
      have J2 := fun v1 v2 W h1 h2 => joinS_any v1 v2 s0 (sB s0 K K.length) _ W h1 h2 (Nat.le_trans hg0 (by decide)) f1 t2
      have P1 := fun v W h => putset_any v (sB s0 K K.length).bits (sB s0 K K.length).each (sB s0 K K.length).n W h (Nat.le_trans f1 (by decide)) (Int.le_trans (by decide) hbnd.1) (Int.le_trans hbnd.2.1 (by decide)) (Int.le_trans (by decide) hbnd.2.2.1) (Int.le_trans hbnd.2.2.2 (by decide))
      have e3 : putS ⟨(sB s0 K K.length).bits, (sB s0 K K.length).each, (sB s0 K K.length).n⟩ = putS (sB s0 K K.length) := rfl
      rw [e3, t3] at P1
      have G1 := fun v W h => getset_any v (putS (sB s0 K K.length)).1 W h (Nat.le_trans t5 (by decide))
      rw [t4] at G1
      clear t1 t2 t3 t4 t5 f1 f2 f3 hgS hg0 hbnd e3
      generalize (putS (sB s0 K K.length)).1 = pl at *
      generalize hJ : (⟨(sB s0 K K.length).bits, s0.each, min ((sB s0 K K.length).n + s0.n) 1099511627776⟩ : SetB) = Jn at *
      have hJb : Jn.bits = (sB s0 K K.length).bits := by rw [← hJ]
      clear hJ
      generalize sB s0 K K.length = S at *
      have S1 := fun v1 v2 W h1 h2 => sameS_any v1 v2 S W h1 h2
      have S2 := fun v1 v2 W h1 h2 => sameS_any v1 v2 Jn W h1 h2
      have HJB := Lib.hid hJb
      have hzs : (Jn.bits == S.bits) = true := by rw [hJb]; simp
      clear hJb
      simp only at G1 P1
      obtain ⟨pa, ca, oa, ba⟩ := hiA.ex
      obtain ⟨pb, cb, ob, bb⟩ := hiB.ex
      obtain ⟨pr, cr, oR, bR⟩ := hiR.ex
      have A0 : Bx wr g5 pa ca S := ⟨oa, ba⟩
      have B0 : Bx wr g6 pb cb S := ⟨ob, bb⟩
      have R0 : BxR wr w.heap.size pr cr s0 := ⟨oR, bR⟩
      obtain ⟨m0, m1, m2⟩ := A0.1.cells3
      obtain ⟨l0, l1, l2⟩ := R0.1.cells3
      clear oa ba ob bb oR bR hiA hiB hiR
      go_wp2_with (first
        | (go_at_call 21; have hq := hx5; refine (J2 _ _ _ R5.2 B5.2).mono ?_; rintro e w6 ⟨p6, c6, rfl, hb6, hx6⟩
           have hx6a := hx6.trans (Ext.alloc w6 (.cells #[.slice p6 Jn.bits.length c6, .int .i64 Jn.each, .int .i64 Jn.n] 27))
           have Y6 := Bx.new hb6
           have A6 := A5.ext hx6a
           have B6 := B5.ext hx6a
           have X6 := X5.ext hx6a
           clear m0 m1 m2 l0 l1 l2
           obtain ⟨m0, m1, m2⟩ := A6.1.cells3)
        | (go_at_call 21; refine (J1 _ _ _ A0.2 R0.2).mono ?_; rintro e w5 ⟨p5, c5, rfl, hb5, hx5⟩
           have hx5a := hx5.trans (Ext.alloc w5 (.cells #[.slice p5 Jn.bits.length c5, .int .i64 Jn.each, .int .i64 Jn.n] 27))
           have X5 := Bx.new hb5
           have A5 := A0.ext hx5a
           have B5 := B0.ext hx5a
           have R5 := R0.ext hx5a
           clear m0 m1 m2 l0 l1 l2
           obtain ⟨m0, m1, m2⟩ := B5.1.cells3
           obtain ⟨l0, l1, l2⟩ := R5.1.cells3)
        | (go_at_call 26; refine (P1 _ _ A6.2).mono ?_; rintro e w7 ⟨v7, rfl, hf7, hx7⟩)
        | (go_at_call 28; refine (G1 _ _ hf7.view).mono ?_; rintro e w8 ⟨v8, rfl, hb8, hx8⟩
           obtain ⟨p8, c8, e8⟩ := hb8.slice
           subst e8
           have hx8a := hx7.trans (hx8.trans (Ext.alloc w8 (.cells #[.slice p8 S.bits.length c8, .int .i64 S.each, .int .i64 S.n] 27)))
           have Z8 := Bx.new hb8
           have A8 := A6.ext hx8a
           have B8 := B6.ext hx8a
           have X8 := X6.ext hx8a
           have Y8 := Y6.ext hx8a
           clear m0 m1 m2
           obtain ⟨m0, m1, m2⟩ := A8.1.cells3
           obtain ⟨l0, l1, l2⟩ := B8.1.cells3)
        | (go_at_call 25; have hq := hx10; refine (S1 _ _ _ A10.2 Z10.2).mono ?_; rintro e w11 ⟨rfl, hx11⟩
           clear m0 m1 m2 l0 l1 l2
           have A11 := A10.ext hx11
           have X11 := X10.ext hx11
           have m0 := A11.1.cells3.c0
           have l0 := X11.1.cells3.c0
           have a11 := A11.2
           have x11 := X11.2)
        | (go_at_call 25; have hq := hx9; refine (S2 _ _ _ X9.2 Y9.2).mono ?_; rintro e w10 ⟨rfl, hx10⟩
           have A10 := A9.ext hx10
           have X10 := X9.ext hx10
           have Z10 := Z9.ext hx10
           clear m0 m1 m2 l0 l1 l2
           obtain ⟨m0, m1, m2⟩ := A10.1.cells3
           obtain ⟨l0, l1, l2⟩ := Z10.1.cells3)
        | (go_at_call 25; refine (S1 _ _ _ A8.2 B8.2).mono ?_; rintro e w9 ⟨rfl, hx9⟩
           have A9 := A8.ext hx9
           have X9 := X8.ext hx9
           have Y9 := Y8.ext hx9
           have Z9 := Z8.ext hx9
           clear m0 m1 m2 l0 l1 l2
           obtain ⟨m0, m1, m2⟩ := X9.1.cells3
           obtain ⟨l0, l1, l2⟩ := Y9.1.cells3)
        | ((with_reducible show wpList _ _ _ (Oper.mk _ (Op.convert _ _ _) _ _ _ _ :: _) _ _); refine st_string T.bytes T.u8 T.str x11 ?_)
        | ((with_reducible show wpList _ _ _ (Oper.mk _ (Op.convert _ _ _) _ _ _ _ :: _) _ _); refine st_string T.bytes T.u8 T.str a11 ?_)
        | (go_at_call 9; refine (awake_any _).mono ?_; rintro e w12 ⟨rfl, hx12⟩))
      go_ret
      exact ⟨rfl, ((((((hx.trans hx5a).trans hx6a).trans hx8a).trans hx9).trans hx10).trans hx11).trans hx12⟩
end Go.Proofs.Ythlhhnkalknidaa
