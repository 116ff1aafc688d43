/- What the program's functions of layer 32 compute: a match laid, and packing. -/
import Derived.Test.YtjhobppgpglndaaPkP
namespace Go.Proofs.Ytjhobppgpglndaa
open Go.RowKit

theorem bits_or128 : ∀ x : Fin 128, bits .or .u8 128 (x.val : Int) = 128 + (x.val : Int) := by decide +kernel
def matchO (out run : List UInt8) (n d : Nat) : List UInt8 := out ++ flushB run ++ [UInt8.ofNat (128 + (n - 4))] ++ [UInt8.ofNat (d / 256), UInt8.ofNat d]
theorem flushB_length (run : List UInt8) : (flushB run).length ≤ run.length + 1 := by unfold flushB; split <;> simp

set_option maxHeartbeats 1000000 in
theorem pmatch_any (B g : Nat) (vo vr : Value) (out run : List UInt8) (n d : Nat) (w : World) (h : PK w B g vo vr out run) (hr : run.length < 128) (ho : out.length ≤ 900000) (h1 : 4 ≤ n) (h2 : n ≤ 131) (h3 : 1 ≤ d) (h4 : d ≤ 1024) :
    Calls Try.prog 21 #[.pointer (some ⟨g, 0, none⟩), .int .i64 n, .int .i64 d] w fun e w' => (∃ r, e = .returned r) ∧ (∃ vo' vr', PK w' B g vo' vr' (matchO out run n d) []) ∧ Below B w w' := by
  have hlt := h.lt
  obtain ⟨x, hbit, HX⟩ : ∃ x : UInt8, bits .or .u8 128 ((n : Int) - 4) = (x.toNat : Int) ∧ Hid (x = UInt8.ofNat (128 + (n - 4))) := by
    refine ⟨UInt8.ofNat (128 + (n - 4)), ?_, rfl⟩
    have := bits_or128 ⟨n - 4, by omega⟩
    rw [toNat_ofNat8]
    have e : ((n : Int) - 4) = ((n - 4 : Nat) : Int) := by omega
    rw [e]
    dsimp only at this
    rw [this]; omega
  have hw1 : IntKind.i64.wrap ((n : Int) - 4) = (n : Int) - 4 := by rw [IntKind.wrap_i64]; omega
  have hw2 : IntKind.u8.wrap ((n : Int) - 4) = (n : Int) - 4 := by rw [IntKind.wrap_u8]; omega
  obtain ⟨nb, hun, HN⟩ : ∃ nb : BitVec 64, IntKind.u64.wrap (d : Int) = un nb ∧ Hid (nb.toNat = d) := by
    refine ⟨BitVec.ofNat 64 d, ?_, ?_⟩
    · have : (BitVec.ofNat 64 d).toNat = d := by simp; omega
      unfold un; rw [this, IntKind.wrap_u64]; omega
    · have : (BitVec.ofNat 64 d).toNat = d := by simp; omega
      exact this
  have hfl := flushB_length run
  obtain ⟨o1, ho1⟩ : ∃ o1, out ++ flushB run = o1 := ⟨_, rfl⟩
  have hol : o1.length ≤ 900129 := by rw [← ho1, List.length_append]; omega
  have F1 := flush_any B g vo vr out run w h (by omega) (by omega)
  rw [ho1] at F1
  have HO := Lib.hid ho1; clear ho1
  go_enter Try.func21, Try.ntmps21
  go_wp2_with (first
    | (go_at_call 22; refine F1.mono ?_; rintro e w1 ⟨⟨r, rfl⟩, ⟨vo1, vr1, k1⟩, hb1⟩
       have hc0 := k1.obj.cell (j := 0) (u := vo1) rfl
       have hlt1 := k1.lt)
    | (at_builtin; refine st_append T.bytes (k1.o.keep (Ext.alloc _ _)) (FB.lit1 w1 (Nat.le_refl _) x).view ?_ (by simp; omega) (by simp; omega); intro v2 w2 hf2 hg2 hw2
       have hG : Grew w1 w2 B vo1 v2 (o1 ++ [x]) := ⟨hf2, ((Ext.alloc w1 _).grownBy _).trans hg2, hw2.elim .inl fun e => .inr ⟨_, e, by simp⟩⟩
       obtain ⟨p2, c2, e2, _, _, _⟩ := hf2.slice
       generalize (o1 ++ [x]).length = n2 at e2
       subst e2
       obtain ⟨k2, hb2⟩ := k1.setOut hG
       have hob := k1.obj.kept hG.grown k1.og.symm
       have hd0 := hob.cell (j := 0) (u := vo1) rfl
       have hf0 := hob.free 0
       clear hf2 hg2 hw2 hob hG))
  generalize w2.setCell ⟨g, 0, none⟩ (.slice p2 n2 c2) = W2 at *
  clear hd0 hf0 hc0
  have hc0 := k2.obj.cell (j := 0) (u := .slice p2 n2 c2) rfl
  have hlt2 := k2.lt
  apply wp_region_dagK 8 11 (fun a b => a.grownBy b (Value.slice p2 n2 c2).ownBlock) (X := Ext) (by kernel_rfl) (by kernel_rfl) (by kernel_rfl) (by decide) (by decide) (fun _ _ _ => Ext.trans) (Ext.drew1 _)
  simp only [List.take_succ_cons, List.take_zero, List.drop_succ_cons, List.drop_zero]
  apply dagk_val Ext.refl rfl (by intro W hW H; go_simp <;> rfl)
  simp only [Act.put, List.setIfInBounds_toArray, List.set_cons_zero, List.set_cons_succ]
  apply dagk_val Ext.refl rfl (by intro W hW H; go_simp <;> rfl)
  simp only [Act.put, List.setIfInBounds_toArray, List.set_cons_zero, List.set_cons_succ]
  apply dagk_val Ext.refl rfl (by intro W hW H; go_simp <;> rfl)
  simp only [Act.put, List.setIfInBounds_toArray, List.set_cons_zero, List.set_cons_succ]
  apply dagk_val Ext.refl rfl (by intro W hW H; go_simp <;> rfl)
  simp only [Act.put, List.setIfInBounds_toArray, List.set_cons_zero, List.set_cons_succ]
  apply dagk_val Ext.refl rfl (by intro W hW H; have hW := hW (by kernel_rfl); have hq := hW.cell hc0; go_simp <;> rfl)
  simp only [Act.put, List.setIfInBounds_toArray, List.set_cons_zero, List.set_cons_succ]
  apply dagk_val Ext.refl rfl (by intro W hW H; go_simp <;> rfl)
  simp only [Act.put, List.setIfInBounds_toArray, List.set_cons_zero, List.set_cons_succ]
  apply dagk_val Ext.refl rfl (by intro W hW H; go_simp <;> rfl)
  simp only [Act.put, List.setIfInBounds_toArray, List.set_cons_zero, List.set_cons_succ]
  refine' dagk_calls (fun v W => FB W W2.heap.size v (fixedL nb.toNat 2)) (fb_stable k2.o) rfl (by intro W; go_simp <;> rfl) (fun W hW H => (fixed_any nb 2 (by decide) W).mono (by rintro e w' ⟨v3, rfl, hf3, hx3⟩; exact ⟨v3, rfl, hf3.base (hW (by kernel_rfl)).size, stepk_x hx3 (by decide)⟩)) (fun v3 => _)
  rotate_left
  simp only [Act.put, List.setIfInBounds_toArray, List.set_cons_zero, List.set_cons_succ]
  refine' dagk_run (fun v W => Grew W2 W B (.slice p2 n2 c2) v (o1 ++ [x] ++ fixedL nb.toNat 2)) (Grew.stable) rfl (fun W hW H => (run_grows (vx := .slice p2 n2 c2) (vy := v3) (l := o1 ++ [x]) (m := fixedL nb.toNat 2) T.bytes rfl rfl rfl k2.o (hW (by kernel_rfl)) (show FB W W2.heap.size v3 (fixedL nb.toNat 2) from H 7 (by kernel_rfl)).view (by rw [fixedL_length]; simp; omega) k2.lt).imp fun v hv => hv.imp fun W' hw => ⟨hw.1, stepk_z hw.2.1, hw.2.2⟩) (fun v4 => _)
  rotate_left
  simp only [Act.put, List.setIfInBounds_toArray, List.set_cons_zero, List.set_cons_succ]
  apply dagk_val Ext.refl rfl (by intro W hW H; go_simp <;> rfl)
  simp only [Act.put, List.setIfInBounds_toArray, List.set_cons_zero, List.set_cons_succ]
  apply dagk_val Ext.refl rfl (by intro W hW H; go_simp <;> rfl)
  simp only [Act.put, List.setIfInBounds_toArray, List.set_cons_zero, List.set_cons_succ]
  refine dagk_end fun W3 H => ?_
  have hG : Grew W2 W3 B (.slice p2 n2 c2) v4 (o1 ++ [x] ++ fixedL nb.toNat 2) := H 8
  obtain ⟨p4, c4, e4, _, _, _⟩ := hG.row.slice
  generalize (o1 ++ [x] ++ fixedL nb.toNat 2).length = n4 at e4
  subst e4
  obtain ⟨k3, hb3⟩ := k2.setOut hG
  have hob := k2.obj.kept hG.grown k2.og.symm
  have hd0 := hob.cell (j := 0) (u := .slice p2 n2 c2) rfl
  have hf0 := hob.free 0
  clear H hob
  go_wp2_with fail
  go_end0
  refine ⟨⟨_, rfl⟩, ⟨.slice p4 n4 c4, vr1, ?_⟩, (hb1.trans hb2).trans hb3⟩
  have e : matchO out run n d = o1 ++ [x] ++ fixedL nb.toNat 2 := by
    unfold matchO; rw [HO.out, HX.out, HN.out]; simp [fixedL]
  rw [e]
  exact k3

theorem PK.ext {w w' : World} {B g : Nat} {vo vr : Value} {out run : List UInt8} (h : PK w B g vo vr out run) (hx : Ext w w') : PK w' B g vo vr out run :=
  ⟨h.obj.ext hx, h.base, h.o.keep hx, h.r.keep hx, h.og, h.rg, h.or⟩
/-- Where packing stands. -/
structure Packing (l out run : List UInt8) (c : Nat) : Prop where
  at_ : c ≤ l.length
  few : run.length < 128
  room : out.length + 2 * run.length ≤ 2 * c
  all : out ++ packAt l c run = packB l
theorem Packing.start (l : List UInt8) : Packing l [] [] 0 := ⟨Nat.zero_le _, by simp, by simp, by simp [packAt_zero]⟩
theorem flushB_two (run : List UInt8) : (flushB run).length ≤ 2 * run.length := by
  unfold flushB
  split
  · simp
  · rename_i h
    have := List.length_pos_iff.2 h
    simp; omega
theorem Packing.one {l out run : List UInt8} {c : Nat} (h : Packing l out run c) (hc : c < l.length) (hm : (matchB l c).1 = 0) : Packing l (oneO out run l[c]) (oneR run l[c]) (c + 1) := by
  have hf := flushB_two (run ++ [l[c]])
  have hl : (run ++ [l[c]]).length = run.length + 1 := by simp
  have h1 := h.few
  have h2 := h.room
  have ha := h.all
  rw [packAt_one l c run hc hm] at ha
  unfold oneO oneR
  by_cases h128 : (run ++ [l[c]]).length = 128
  · rw [if_pos h128] at ha
    rw [if_pos h128, if_pos h128]
    refine ⟨hc, by simp, ?_, by rw [← ha, List.append_assoc]⟩
    rw [List.length_append]
    simp only [List.length_nil]
    omega
  · rw [if_neg h128] at ha
    rw [if_neg h128, if_neg h128]
    exact ⟨hc, by omega, by omega, ha⟩
theorem Packing.match {l out run : List UInt8} {c : Nat} (h : Packing l out run c) (hc : c < l.length) (hm : (matchB l c).1 ≠ 0) : Packing l (matchO out run (matchB l c).1 (matchB l c).2) [] (c + (matchB l c).1) := by
  have hf := flushB_two run
  have h2 := h.room
  have ha := h.all
  rw [packAt_match l c run hc hm] at ha
  rcases matchB_is l c with h0 | ⟨_, m1, m2, m3, m4, m5, m6, m7⟩
  · rw [h0] at hm; exact absurd rfl hm
  refine ⟨m6, by simp, ?_, ?_⟩
  · unfold matchO
    simp only [List.length_append, List.length_cons, List.length_nil]
    omega
  · rw [← ha]; unfold matchO; simp
theorem Packing.stop {l out run : List UInt8} {c : Nat} (h : Packing l out run c) (hc : ¬ c < l.length) : out ++ flushB run = packB l := by
  have := h.all
  rwa [packAt_end l c run (by omega)] at this

set_option maxHeartbeats 1000000 in
theorem pack_any (v : Value) (l : List UInt8) (w : World) (h : BV w v l) (hl : l.length ≤ 100000) :
    Calls Try.prog 10 #[v] w fun e w' => ∃ v', e = .returned v' ∧ FB w' w.heap.size v' (packB l) ∧ Ext w w' := by
  obtain ⟨p, cp, rfl, hn, hcp, hs⟩ := id h
  go_enter Try.func10, Try.ntmps10
  go_wp2_with fail
  have K0 : PK (w.alloc (.cells #[.slice none 0 0, .slice none 0 0] 41)) w.heap.size w.heap.size (.slice none 0 0) (.slice none 0 0) [] [] :=
    ⟨ObjAt.new w _ [.slice none 0 0, .slice none 0 0], Nat.le_refl _, FB.nil _ _, FB.nil _ _, by simp [Value.ownBlock], by simp [Value.ownBlock], .inl rfl⟩
  go_loopg [4] l.length (fun k s4 wr => ∃ (c : Nat) (out run : List UInt8) (vo vr : Value), s4 = .int .i64 c ∧ Packing l out run c ∧ k = l.length - c ∧ PK wr w.heap.size w.heap.size vo vr out run ∧ Ext w wr)
  case atStart => exact ⟨0, [], [], _, _, rfl, Packing.start l, rfl, K0, Ext.alloc _ _⟩
  case round =>
    obtain ⟨c, out, run, vo, vr, rfl, hp, hk, k, hx⟩ := hrel
    have hp1 := hp.at_
    have hp2 := hp.few
    have hp3 := hp.room
    by_cases hc : c < l.length
    case neg =>
      have HS := Lib.hid (hp.stop hc)
      have hc' : ¬ (c < l.length) := hc
      clear hp K0
      go_wp2_with (go_at_call 22; refine (flush_any _ _ _ _ _ _ _ k (by omega) (by omega)).mono ?_; rintro e w1 ⟨⟨r, rfl⟩, ⟨vo1, vr1, k1⟩, hb1⟩; have hd0 := k1.obj.cell (j := 0) (u := vo1) rfl)
      go_ret
      refine ⟨_, rfl, ?_, hx.thenBelow hb1⟩
      rw [← HS.out]
      exact k1.o
    case pos =>
      have M1 := fun w h => match_any (.slice p l.length cp) l c w h hc
      by_cases hm : (matchB l c).1 = 0
      · obtain ⟨b, o, rfl, hcell⟩ := hs.at (bs_get l hc)
        have hpo := Lib.hid (hp.one hc hm)
        have hcc := hx.cell hcell
        rw [hm] at M1
        generalize l[c] = x at *
        clear hp K0 hcell hs
        go_wp2_with (first
          | (go_at_call 8; refine (M1 _ (h.ext hx)).mono ?_; rintro e w1 ⟨rfl, hx1⟩; have hc1 := hx1.cell hcc)
          | (go_at_call 20; refine (one_any _ _ _ _ out run x _ (k.ext hx1) hp2 (by omega)).mono ?_; rintro e w2 ⟨⟨r, rfl⟩, ⟨vo2, vr2, k2⟩, hb2⟩))
        go_roundg (l.length - (c + 1))
        case measure => omega
        case rel => exact ⟨c + 1, _, _, vo2, vr2, by go_num, hpo.out, rfl, k2, (hx.trans hx1).thenBelow hb2⟩
      · have hpm := Lib.hid (hp.match hc hm)
        rcases matchB_is l c with h0 | ⟨_, m1, m2, m3, m4, m5, m6, _⟩
        · rw [h0] at hm; exact absurd rfl hm
        generalize matchB l c = mm at *
        obtain ⟨n, d⟩ := mm
        dsimp only at hm m1 m2 m3 m4 m5 m6
        have hz : ((n : Int) == 0) = false := by rw [beq_eq_false_iff_ne]; omega
        clear hp K0 hs
        go_wp2_with (first
          | (go_at_call 8; refine (M1 _ (h.ext hx)).mono ?_; rintro e w1 ⟨rfl, hx1⟩)
          | (go_at_call 21; refine (pmatch_any _ _ _ _ out run n d _ (k.ext hx1) hp2 (by omega) m1 m2 m3 m5).mono ?_; rintro e w2 ⟨⟨r, rfl⟩, ⟨vo2, vr2, k2⟩, hb2⟩))
        go_roundg (l.length - (c + n))
        case measure => omega
        case rel => exact ⟨c + n, _, _, vo2, vr2, by go_num, hpm.out, rfl, k2, (hx.trans hx1).thenBelow hb2⟩
end Go.Proofs.Ytjhobppgpglndaa
