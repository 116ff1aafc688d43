/- What the program's functions of layer 32 compute: the unpacker's match. -/
import Derived.Test.YtjhobppgpglndaaUnp
namespace Go.Proofs.Ytjhobppgpglndaa
open Go.RowKit

theorem bits_andNot128 : ∀ x : Fin 256, bits .andNot .u8 (x.val : Int) 128 = if x.val < 128 then (x.val : Int) else (x.val : Int) - 128 := by decide +kernel
theorem bits_and128 : ∀ x : Fin 256, (bits .and .u8 (x.val : Int) 128 == 0) = decide (x.val < 128) := by decide +kernel
/-- How far back, and how many. -/
def farM (r : List UInt8) : Nat := 256 * (r.getD 0 0).toNat + (r.getD 1 0).toNat
def manyM (c : UInt8) : Nat := c.toNat - 128 + 4
def matchE (most : Nat) (c : UInt8) (r out : List UInt8) : Int :=
  if r.length < 2 then 3 else if farM r = 0 ∨ out.length < farM r then 4 else if most < out.length + manyM c then 5 else 0
theorem unfixed_two (r : List UInt8) (h : 2 ≤ r.length) : un (unfixed (r.take 2)) = (farM r : Int) ∧ farM r < 65536 := by
  match r, h with
  | x :: y :: r, _ =>
    have h1 := x.toNat_lt
    have h2 := y.toNat_lt
    have e : farM (x :: y :: r) = 256 * x.toNat + y.toNat := rfl
    have e2 : valL ((x :: y :: r).take 2) = x.toNat * 256 + y.toNat := by
      show (0 * 256 + x.toNat) * 256 + y.toNat = _
      omega
    have h1' : x.toNat < 256 := h1
    have h2' : y.toNat < 256 := h2
    refine ⟨?_, by rw [e]; omega⟩
    unfold un unfixed
    rw [e2, e, BitVec.toNat_ofNat, Nat.mod_eq_of_lt (by omega)]
    omega
theorem copyN_step (out : List UInt8) (d i : Nat) : copyN out d (i + 1) = copyN out d i ++ [(copyN out d i).getD (out.length + i - d) 0] := by
  simp only [copyN, copyN_length]

set_option maxHeartbeats 2000000 in
theorem umatch_any (W0 : World) (g most : Nat) (vp vo : Value) (c : UInt8) (r out : List UInt8) (w : World) (h : UK W0 w g vp vo most (c :: r) out) (hn : out.length ≤ 900000000) (hc : 128 ≤ c.toNat) :
    Calls Try.prog 24 #[.pointer (some ⟨g, 0, none⟩)] w fun e w' => e = .returned (.int .i64 (matchE most c r out)) ∧ Ext W0 w' ∧
      (matchE most c r out = 0 → ∃ vp' vo', UK W0 w' g vp' vo' most (r.drop 2) (copyN out (farM r) (manyM c))) := by
  obtain ⟨p, cp, rfl, hlp, hcp, hs⟩ := id h.p
  have hcp : cp ≤ 9223372036854775807 := by simpa [maxLen] using hcp
  obtain ⟨po, co, rfl, hlo, hco, _⟩ := id h.o.slice
  obtain ⟨b, o, rfl, hcell⟩ := hs.at (k := 0) (u := bv c) rfl
  rw [Nat.add_zero] at hcell
  have hc0 := h.obj.cell (j := 0) (u := .slice (some ⟨b, o, none⟩) (c :: r).length cp) rfl
  have hc1 := h.obj.cell (j := 1) (u := .slice po out.length co) rfl
  have hcc := h.ext.cell hcell
  have h1 := h.p
  obtain ⟨rl, hrl⟩ : ∃ rl, (c :: r).length = rl := ⟨_, rfl⟩
  rw [hrl] at h hc0 hlp h1
  rw [List.length_cons] at hrl
  have hc256 : c.toNat < 256 := c.toNat_lt
  unfold matchE
  by_cases hlt : r.length < 2
  · rw [if_pos hlt]
    have ht : rl ≤ 2 := by omega
    clear hlt hrl hcell hs
    go_enter Try.func24, Try.ntmps24
    go_wp2_with fail
    go_ret
    exact ⟨rfl, h.ext, fun e => by cases e⟩
  rw [if_neg hlt]
  have ht : ¬ rl ≤ 2 := by omega
  obtain ⟨hu, hD⟩ := unfixed_two r (by omega)
  have U1 := fun v w h => unfixed_any v (r.take 2) w h
  generalize unfixed (r.take 2) = nb at *
  obtain ⟨D, hDe⟩ : ∃ D, farM r = D := ⟨_, rfl⟩
  rw [hDe] at hu hD ⊢
  obtain ⟨E, HE⟩ : ∃ E : Int, Hid ((if D = 0 ∨ out.length < D then 4 else if most < out.length + manyM c then 5 else 0) = E) := ⟨_, rfl⟩
  rw [HE.out]
  obtain ⟨q, N, hq, hN, hb⟩ : ∃ q N : Nat, (q : Int) + 4 = (N : Int) ∧ manyM c = N ∧ bits .andNot .u8 (c.toNat : Int) 128 = (q : Int) := by
    refine ⟨c.toNat - 128, manyM c, by unfold manyM; omega, rfl, ?_⟩
    have := bits_andNot128 ⟨c.toNat, hc256⟩
    dsimp only at this
    rw [this, if_neg (by omega)]; omega
  have hN256 : N ≤ 131 := by rw [← hN]; unfold manyM; omega
  have hq256 : q ≤ 127 := by omega
  rw [hN] at HE ⊢
  have hwq : IntKind.i64.wrap (q : Int) = (q : Int) := by rw [IntKind.wrap_i64]; omega
  have hwN : IntKind.i64.wrap (N : Int) = (N : Int) := by rw [IntKind.wrap_i64]; omega
  have hwD : IntKind.i64.wrap (un nb) = (D : Int) := by rw [hu, IntKind.wrap_i64]; omega
  have hpos : 0 < rl := by omega
  have hmid := (h1.mid (L := 1) (H := 3) (by decide) (by simp; omega))
  rw [List.drop_succ_cons, List.drop_zero] at hmid
  have R1 := fun w vo' => room_any W0 g most N (.slice (some ⟨b, o, none⟩) rl cp) vo' (c :: r) out w
  have pre : ∀ {Q : Prop}, (D = 0 ∨ out.length < D → Q) → (¬ (D = 0 ∨ out.length < D) → Q) → Q := fun a b => (Classical.em _).elim a b
  have HLr := Lib.hid hrl
  clear hN hDe hu hrl
  go_enter Try.func24, Try.ntmps24
  go_wp2_with fail
  apply wp_region_dag (X := Ext) (by kernel_rfl) (by kernel_rfl) (fun _ _ _ => Ext.trans) (Ext.drew1 _)
  apply dag_val Ext.refl rfl (by intro W hW H; go_simp <;> rfl)
  simp only [Act.put, List.setIfInBounds_toArray, List.set_cons_zero, List.set_cons_succ]
  apply dag_val Ext.refl rfl (by intro W hW H; go_simp <;> rfl)
  simp only [Act.put, List.setIfInBounds_toArray, List.set_cons_zero, List.set_cons_succ]
  apply dag_val Ext.refl rfl (by intro W hW H; go_simp <;> rfl)
  simp only [Act.put, List.setIfInBounds_toArray, List.set_cons_zero, List.set_cons_succ]
  apply dag_val Ext.refl rfl (by intro W hW H; have hq := hW.cell hc0; go_simp <;> rfl)
  simp only [Act.put, List.setIfInBounds_toArray, List.set_cons_zero, List.set_cons_succ]
  apply dag_val Ext.refl rfl (by intro W hW H; go_simp <;> rfl)
  simp only [Act.put, List.setIfInBounds_toArray, List.set_cons_zero, List.set_cons_succ]
  apply dag_val Ext.refl rfl (by intro W hW H; have hq := hW.cell hcc; go_simp <;> rfl)
  simp only [Act.put, List.setIfInBounds_toArray, List.set_cons_zero, List.set_cons_succ]
  apply dag_val Ext.refl rfl (by intro W hW H; go_simp <;> rfl)
  simp only [Act.put, List.setIfInBounds_toArray, List.set_cons_zero, List.set_cons_succ]
  apply dag_val Ext.refl rfl (by intro W hW H; go_simp <;> rfl)
  simp only [Act.put, List.setIfInBounds_toArray, List.set_cons_zero, List.set_cons_succ]
  apply dag_val Ext.refl rfl (by intro W hW H; go_simp <;> rfl)
  simp only [Act.put, List.setIfInBounds_toArray, List.set_cons_zero, List.set_cons_succ]
  apply dag_val Ext.refl rfl (by intro W hW H; go_simp <;> rfl)
  simp only [Act.put, List.setIfInBounds_toArray, List.set_cons_zero, List.set_cons_succ]
  apply dag_val Ext.refl rfl (by intro W hW H; go_simp <;> rfl)
  simp only [Act.put, List.setIfInBounds_toArray, List.set_cons_zero, List.set_cons_succ]
  apply dag_val Ext.refl rfl (by intro W hW H; go_simp <;> rfl)
  simp only [Act.put, List.setIfInBounds_toArray, List.set_cons_zero, List.set_cons_succ]
  apply dag_val Ext.refl rfl (by intro W hW H; have hq := hW.cell hc0; go_simp <;> rfl)
  simp only [Act.put, List.setIfInBounds_toArray, List.set_cons_zero, List.set_cons_succ]
  refine' dag_val Ext.refl rfl (fun W hW H => run_slice T.bytes rfl rfl W 1 3 cp) _
  rotate_left
  simp only [Act.put, List.setIfInBounds_toArray, List.set_cons_zero, List.set_cons_succ]
  refine' dag_call rfl (by intro W; go_simp <;> rfl) (fun W hW H => (U1 (.slice (cutA 1 (some ⟨b, o, none⟩) cp 1) 2 (cp - 1)) W ((hmid.ext h.ext).ext hW)).mono (by rintro e w' ⟨rfl, rfl⟩; exact ⟨rfl, Ext.refl _⟩)) _
  rotate_left
  simp only [Act.put, List.setIfInBounds_toArray, List.set_cons_zero, List.set_cons_succ]
  apply dag_val Ext.refl rfl (by intro W hW H; go_simp <;> rfl)
  simp only [Act.put, List.setIfInBounds_toArray, List.set_cons_zero, List.set_cons_succ]
  apply dag_val Ext.refl rfl (by intro W hW H; go_simp <;> rfl)
  simp only [Act.put, List.setIfInBounds_toArray, List.set_cons_zero, List.set_cons_succ]
  apply dag_val Ext.refl rfl (by intro W hW H; go_simp <;> rfl)
  simp only [Act.put, List.setIfInBounds_toArray, List.set_cons_zero, List.set_cons_succ]
  refine dag_end fun W1 hW H => ?_
  clear H
  have k1 := h.after hW
  have hd1 := hW.cell hc1
  clear hcell hs hc0 hc1 hcc hmid U1 pre hb
  by_cases hz : D = 0
  · have hz1 : ((D : Int) == 0) = true := by simp [hz]
    have hE : E = 4 := by rw [← HE.out, if_pos (.inl hz)]
    clear hz
    subst hE
    go_wp2_with fail
    go_ret
    exact ⟨rfl, k1.ext, fun e => by cases e⟩
  have hz1 : ((D : Int) == 0) = false := by rw [beq_eq_false_iff_ne]; omega
  by_cases hfar : out.length < D
  · have hE : E = 4 := by rw [← HE.out, if_pos (.inr hfar)]
    subst hE
    go_wp2_with fail
    go_ret
    exact ⟨rfl, k1.ext, fun e => by cases e⟩
  by_cases hm : most < out.length + N
  · have hE : E = 5 := by rw [← HE.out, if_neg (by omega), if_pos hm]
    subst hE
    rw [decide_eq_false (show ¬ out.length + N ≤ most by omega)] at R1
    go_wp2_with (go_at_call 27; refine (R1 _ _ k1 (by omega)).mono ?_; rintro e w2 ⟨rfl, hx2⟩)
    go_ret
    exact ⟨rfl, k1.ext.trans hx2, fun e => by cases e⟩
  have hE : E = 0 := by rw [← HE.out, if_neg (by omega), if_neg hm]
  subst hE
  rw [decide_eq_true (show out.length + N ≤ most by omega)] at R1
  go_wp2_with (go_at_call 27; refine (R1 _ _ k1 (by omega)).mono ?_; rintro e w2 ⟨rfl, hx2⟩; have k2 := k1.after hx2)
  clear hd1
  go_loopg [45] N (fun k s45 wr => ∃ (i : Nat) (vo' : Value), s45 = .int .i64 i ∧ i ≤ N ∧ k = N - i ∧ UK W0 wr g (.slice (some ⟨b, o, none⟩) rl cp) vo' most (c :: r) (copyN out D i))
  case atStart => exact ⟨0, _, rfl, by omega, rfl, k2⟩
  case round =>
    obtain ⟨i, vo', rfl, hi, hk, k⟩ := hrel
    have hLi := copyN_length out D i
    have hstep := copyN_step out D i
    have hnd := h1.drop (k := 3) (by simp; omega)
    rw [List.drop_succ_cons] at hnd
    by_cases hiN : i < N
    case neg =>
      obtain rfl : i = N := by omega
      have hd0 := k.obj.cell (j := 0) (u := .slice (some ⟨b, o, none⟩) rl cp) rfl
      have hf0 := k.obj.free 0
      have k5 := k.setP hnd
      clear hstep hLi k1 k2
      go_wp2_with ((with_reducible show wpList _ _ _ (Oper.mk _ (Op.slice _ _ _ _ _) _ _ _ _ :: _) _ _); refine st_slice T.bytes 3 rl cp ?_)
      go_ret
      exact ⟨rfl, k5.ext, ⟨_, _, k5⟩⟩
    case pos =>
      obtain ⟨j, hj, hjL, hje⟩ : ∃ j : Nat, j = out.length + i - D ∧ j < out.length + i ∧ ((out.length + i : Nat) : Int) - (D : Int) = (j : Int) := ⟨out.length + i - D, rfl, by omega, by omega⟩
      rw [← hj] at hstep
      obtain ⟨g2, c2, rfl, hl2, hm2, _, _⟩ := k.o.head (by intro e; rw [e] at hLi; simp at hLi; omega)
      have hcj := k.o.cell (j := j) (by omega)
      have hx : (copyN out D i).getD j 0 = (copyN out D i)[j]'(by omega) := by simp [List.getD_eq_getElem?_getD, show j < (copyN out D i).length by omega]
      rw [hx] at hstep
      generalize (copyN out D i)[j]'(by omega) = x at *
      rw [hLi] at k hl2
      obtain ⟨L, hL⟩ : ∃ L, out.length + i = L := ⟨_, rfl⟩
      rw [hL] at k hl2 hje hjL hLi
      have hLb : L ≤ 900000131 := by omega
      have hLj : L - D = j := by omega
      have HL := Lib.hid hL
      have hwj : IntKind.i64.wrap (j : Int) = (j : Int) := by rw [IntKind.wrap_i64]; omega
      have hc1 := k.obj.cell (j := 1) (u := .slice (some ⟨g2, 0, none⟩) L c2) rfl
      have hgt := k.obj.lt
      generalize copyN out D i = ci at *
      clear hL hx hj k1 k2 hnd hLj
      go_wp2_with fail
      apply wp_region_dagK 19 22 (fun a b => a.grownBy b (Value.slice (some ⟨g2, 0, none⟩) L c2).ownBlock) (X := Ext) (by kernel_rfl) (by kernel_rfl) (by kernel_rfl) (by decide) (by decide) (fun _ _ _ => Ext.trans) (Ext.drew1 _)
      simp only [List.take_succ_cons, List.take_zero, List.drop_succ_cons, List.drop_zero]
      apply dagk_val Ext.refl rfl (by intro W hW H; go_simp <;> rfl)
      simp only [Act.put, List.setIfInBounds_toArray, List.set_cons_zero, List.set_cons_succ]
      apply dagk_val Ext.refl rfl (by intro W hW H; go_simp <;> rfl)
      simp only [Act.put, List.setIfInBounds_toArray, List.set_cons_zero, List.set_cons_succ]
      apply dagk_val Ext.refl rfl (by intro W hW H; go_simp <;> rfl)
      simp only [Act.put, List.setIfInBounds_toArray, List.set_cons_zero, List.set_cons_succ]
      apply dagk_val Ext.refl rfl (by intro W hW H; go_simp <;> rfl)
      simp only [Act.put, List.setIfInBounds_toArray, List.set_cons_zero, List.set_cons_succ]
      apply dagk_val Ext.refl rfl (by intro W hW H; have hW := hW (by kernel_rfl); have hq := hW.cell hc1; go_simp <;> rfl)
      simp only [Act.put, List.setIfInBounds_toArray, List.set_cons_zero, List.set_cons_succ]
      apply dagk_val Ext.refl rfl (by intro W hW H; go_simp <;> rfl)
      simp only [Act.put, List.setIfInBounds_toArray, List.set_cons_zero, List.set_cons_succ]
      apply dagk_val Ext.refl rfl (by intro W hW H; go_simp <;> rfl)
      simp only [Act.put, List.setIfInBounds_toArray, List.set_cons_zero, List.set_cons_succ]
      apply dagk_val Ext.refl rfl (by intro W hW H; go_simp <;> rfl)
      simp only [Act.put, List.setIfInBounds_toArray, List.set_cons_zero, List.set_cons_succ]
      apply dagk_val Ext.refl rfl (by intro W hW H; have hW := hW (by kernel_rfl); have hq := hW.cell hc1; go_simp <;> rfl)
      simp only [Act.put, List.setIfInBounds_toArray, List.set_cons_zero, List.set_cons_succ]
      apply dagk_val Ext.refl rfl (by intro W hW H; go_simp <;> rfl)
      simp only [Act.put, List.setIfInBounds_toArray, List.set_cons_zero, List.set_cons_succ]
      apply dagk_val Ext.refl rfl (by intro W hW H; go_simp <;> rfl)
      simp only [Act.put, List.setIfInBounds_toArray, List.set_cons_zero, List.set_cons_succ]
      apply dagk_val Ext.refl rfl (by intro W hW H; go_simp <;> rfl)
      simp only [Act.put, List.setIfInBounds_toArray, List.set_cons_zero, List.set_cons_succ]
      apply dagk_val Ext.refl rfl (by intro W hW H; have hW := hW (by kernel_rfl); have hq := hW.cell hc1; go_simp <;> rfl)
      simp only [Act.put, List.setIfInBounds_toArray, List.set_cons_zero, List.set_cons_succ]
      apply dagk_val Ext.refl rfl (by intro W hW H; go_simp <;> rfl)
      simp only [Act.put, List.setIfInBounds_toArray, List.set_cons_zero, List.set_cons_succ]
      apply dagk_val Ext.refl rfl (by intro W hW H; go_simp <;> rfl)
      simp only [Act.put, List.setIfInBounds_toArray, List.set_cons_zero, List.set_cons_succ]
      apply dagk_val Ext.refl rfl (by intro W hW H; go_simp <;> rfl)
      simp only [Act.put, List.setIfInBounds_toArray, List.set_cons_zero, List.set_cons_succ]
      apply dagk_val Ext.refl rfl (by intro W hW H; have hW := hW (by kernel_rfl); have hi : (j : Int) < (L : Int) := (by omega); go_simp <;> rfl)
      simp only [Act.put, List.setIfInBounds_toArray, List.set_cons_zero, List.set_cons_succ]
      apply dagk_val Ext.refl rfl (by intro W hW H; have hW := hW (by kernel_rfl); have hq := hW.cell hcj; go_simp <;> rfl)
      simp only [Act.put, List.setIfInBounds_toArray, List.set_cons_zero, List.set_cons_succ]
      refine' dagk_run (fun v W => FB W wr.heap.size v [x]) (fb_stable k.o) rfl (fun W hW H => ⟨.slice (some ⟨W.heap.size, 0, none⟩) 1 1, W.alloc (.cells #[bv x] 5), (by go_simp <;> rfl), stepk_x (Ext.alloc _ _) (by decide), FB.lit1 W (hW (by kernel_rfl)).size x⟩) (fun v1 => _)
      rotate_left
      simp only [Act.put, List.setIfInBounds_toArray, List.set_cons_zero, List.set_cons_succ]
      refine' dagk_run (fun v W => Grew wr W W0.heap.size (.slice (some ⟨g2, 0, none⟩) L c2) v (ci ++ [x])) (Grew.stable) rfl (fun W hW H => (run_grows (vx := .slice (some ⟨g2, 0, none⟩) L c2) (vy := v1) (l := ci) (m := [x]) T.bytes rfl rfl rfl k.o (hW (by kernel_rfl)) (show FB W wr.heap.size v1 [x] from H 18 (by kernel_rfl)).view (by simp; omega) k.ext.size).imp fun v hv => hv.imp fun W' hw => ⟨hw.1, stepk_z hw.2.1, hw.2.2⟩) (fun v2 => _)
      rotate_left
      simp only [Act.put, List.setIfInBounds_toArray, List.set_cons_zero, List.set_cons_succ]
      apply dagk_val Ext.refl rfl (by intro W hW H; go_simp <;> rfl)
      simp only [Act.put, List.setIfInBounds_toArray, List.set_cons_zero, List.set_cons_succ]
      apply dagk_val Ext.refl rfl (by intro W hW H; go_simp <;> rfl)
      simp only [Act.put, List.setIfInBounds_toArray, List.set_cons_zero, List.set_cons_succ]
      refine dagk_end fun W3 H => ?_
      have hG : Grew wr W3 W0.heap.size (.slice (some ⟨g2, 0, none⟩) L c2) v2 (ci ++ [x]) := H 19
      obtain ⟨p4, c4, e4, _, _, _⟩ := hG.row.slice
      generalize (ci ++ [x]).length = n4 at e4
      subst e4
      have k3 := k.setOut hG
      have hob := k.obj.kept hG.grown k.og.symm
      have hd1 := hob.cell (j := 1) (u := .slice (some ⟨g2, 0, none⟩) L c2) rfl
      have hf1 := hob.free 1
      rw [← hstep] at k3
      clear H hob hc1 hG
      go_wp2_with fail
      go_roundg (N - (i + 1))
      case measure => omega
      case rel => exact ⟨i + 1, _, by go_num, hiN, rfl, k3⟩
end Go.Proofs.Ytjhobppgpglndaa
