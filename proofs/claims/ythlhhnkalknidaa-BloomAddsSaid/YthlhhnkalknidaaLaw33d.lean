/- The statement BloomAdds of layer 33: the walk of the law. -/
import Derived.Test.YthlhhnkalknidaaLaw33c
import Derived.Test.YthlhhnkalknidaaBmY
namespace Go.Proofs.Ythlhhnkalknidaa
open Go.RowKit

set_option maxRecDepth 20000 in
set_option maxHeartbeats 8000000 in
theorem bloomAdds_walk (s : Value) (x : List UInt8 × Int × Int) (key : List UInt8) (size : Int) (w : World) (hs : BV w s x.1) (_ : -9223372036854775808 ≤ x.2.1 ∧ x.2.1 ≤ 9223372036854775807) (_ : -9223372036854775808 ≤ x.2.2 ∧ x.2.2 ≤ 9223372036854775807)
    (hk : key.length ≤ maxLen) (_ : -9223372036854775808 ≤ size ∧ size ≤ 9223372036854775807) :
    Calls Try.prog 3 #[stv s x.2.1 x.2.2, .string ⟨key.toArray⟩, .int .i64 size] w fun e w' => e = .returned (.bool true) ∧ Ext w w' := by
  obtain ⟨l, each, n⟩ := x
  simp only at *
  obtain ⟨p, c, rfl⟩ := hs.slice
  have hx0 := Ext.alloc w (.cells #[.slice p l.length c, .int .i64 each, .int .i64 n] 24)
  have o0 := boxR_at w (.slice p l.length c) each n
  have hs0 := hs.ext hx0
  have L1 := light_any (.slice p l.length c) l each n _ hs0
  have hsize : (ByteArray.mk key.toArray).size = key.length := text_size _
  by_cases hl : l.length ≤ 200
  case neg =>
    rw [decide_eq_false hl] at L1
    clear hl hk hsize
    go_enter Try.func3, Try.ntmps3
    go_wp2_with (first
      | (go_at_call 8; refine L1.mono ?_; rintro e w1 ⟨rfl, hx1⟩)
      | (go_at_call 9; refine (awake_any _).mono ?_; rintro e w2 ⟨rfl, hx2⟩))
    go_ret
    exact ⟨rfl, (hx0.trans hx1).trans hx2⟩
  rw [decide_eq_true hl] at L1
  by_cases hkl : key.length ≤ 100
  case neg =>
    have hk2 : (100 : Int) < (key.length : Int) := by omega
    clear hl hk hkl
    go_enter Try.func3, Try.ntmps3
    go_wp2_with (first
      | (go_at_call 8; refine L1.mono ?_; rintro e w1 ⟨rfl, hx1⟩)
      | (go_at_call 9; refine (awake_any _).mono ?_; rintro e w2 ⟨rfl, hx2⟩))
    go_ret
    exact ⟨rfl, (hx0.trans hx1).trans hx2⟩
  have hk2 : ¬ (100 : Int) < (key.length : Int) := by omega
  have A1 := fun W h => add_any (.slice p l.length c) l each n key W h hk (by omega)
  have A2 := fun W h => radd_any (.slice p l.length c) l each n key W h hk (by omega)
  generalize addB ⟨l, each, n⟩ key = T at *
  obtain ⟨tl, te, tn⟩ := T
  have H1 := fun W h => has_any (.slice p l.length c) l each n key W h hk
  have H2 := fun W h => rhas_any (.slice p l.length c) l each n key W h hk (by omega)
  generalize hasB ⟨l, each, n⟩ key = hb at *
  have C1 := fun W h => check_any (.slice p l.length c) l each n W h
  have C2 := fun W h => rcheck_any (.slice p l.length c) l each n W h
  generalize checkB ⟨l, each, n⟩ = ck at *
  have P1 := fun W h => places_any (.slice p l.length c) l each n key W h hk
  have P2 := fun W h => rplaces_any (.slice p l.length c) l each n key W h hk
  have hfew := places_few ⟨l, each, n⟩ key
  generalize placesB ⟨l, each, n⟩ key = ps at *
  have N1 := fun W => newset_any size each W
  have N2 := fun W => rnewset_any size each W
  generalize newS size each = Z at *
  obtain ⟨⟨zl, ze, zn⟩, zerr⟩ := Z
  simp only at A1 A2 N1 N2
  have S1 := fun v1 v2 W h1 h2 => rsame_any v1 tl te tn v2 tl te tn W h1 h2
  rw [same_refl] at S1
  have S2 := fun v1 v2 W h1 h2 => rsame_any v1 zl ze zn v2 zl ze zn W h1 h2
  rw [same_refl] at S2
  have S3 : ∀ v1 r W, BV W v1 tl → (∃ u cu, r = stv (.slice u tl.length cu) te tn ∧ BV W (.slice u tl.length cu) tl) → Calls Try.prog 13 #[stv v1 te tn, r] W fun e w' => e = .returned (.bool true) ∧ Ext W w' := by
    rintro v1 r W h1 ⟨u, cu, rfl, h2⟩
    exact S1 _ _ W h1 h2
  have hnl : (ni ps).length = ps.length := ni_length ps
  have HNL := Lib.hid hnl
  have hz1 : (hb == hb) = true := by simp
  have hz2 : (ck == ck) = true := by simp
  have hz3 : (zerr == zerr) = true := by simp
  have hz4 : (l == l) = true := by simp
  clear hl hk hkl hnl
  go_enter Try.func3, Try.ntmps3
  go_wp2_with (first
    | (go_at_call 8; refine L1.mono ?_; rintro e w1 ⟨rfl, hx1⟩
       obtain ⟨m0, m1, m2⟩ := (o0.ext hx1).cells3
       have hx1a := hx1.trans (Ext.alloc w1 (.cells #[.slice p l.length c, .int .i64 each, .int .i64 n] 27))
       have hs1 := hs0.ext hx1a
       obtain ⟨k0, k1, k2⟩ := (o0.ext hx1a).cells3
       have ox := boxS_at w1 (.slice p l.length c) each n
       obtain ⟨j0, j1, j2⟩ := ox.cells3)
    | ((with_reducible show wpList _ _ _ (Oper.mk _ (Op.convert _ _ _) _ _ _ _ :: _) _ _); refine st_string T.bytes T.u8 T.str hs1 ?_))
  clear m0 m1 m2 L1 hs1
  have hxa := hx0.trans hx1a
  have hsa := hs.ext hxa
  have oa := o0.ext hx1a
  apply wp_region_dag_tail 6 (X := Ext) (by kernel_rfl) (by kernel_rfl) (by kernel_rfl) (by decide) (fun _ _ _ => Ext.trans) (Ext.drew1 _)
  simp only [List.take_succ_cons, List.take_zero, List.drop_succ_cons, List.drop_zero]
  apply dag_val Ext.refl rfl (by intro W hW H; have q0 := hW.cell j0; have q1 := hW.cell j1; have q2 := hW.cell j2; go_simp <;> rfl)
  simp only [Act.put, List.setIfInBounds_toArray, List.set_cons_zero, List.set_cons_succ]
  apply dag_val Ext.refl rfl (by intro W hW H; go_simp <;> rfl)
  simp only [Act.put, List.setIfInBounds_toArray, List.set_cons_zero, List.set_cons_succ]
  refine' dag_calls (fun v W => ∃ p c, v = .slice p ps.length c ∧ IV W (.slice p ps.length c) (ni ps)) (fun v W W' hx ⟨p, c, e, hb⟩ => ⟨p, c, e, hb.ext hx⟩) rfl (by intro W; go_simp <;> rfl) (fun W hW H => (P1 W (hsa.ext hW)).mono (by rintro e w' ⟨v', rfl, hio, hx9⟩; obtain ⟨p9, c9, e9, _, _⟩ := (IO.view hio).slice; rw [HNL.out] at e9; exact ⟨_, rfl, ⟨p9, c9, e9, by rw [← e9]; exact IO.view hio⟩, hx9⟩)) (fun a => _)
  rotate_left
  simp only [Act.put, List.setIfInBounds_toArray, List.set_cons_zero, List.set_cons_succ]
  apply dag_val Ext.refl rfl (by intro W hW H; have q0 := hW.cell k0; have q1 := hW.cell k1; have q2 := hW.cell k2; go_simp <;> rfl)
  simp only [Act.put, List.setIfInBounds_toArray, List.set_cons_zero, List.set_cons_succ]
  apply dag_val Ext.refl rfl (by intro W hW H; go_simp <;> rfl)
  simp only [Act.put, List.setIfInBounds_toArray, List.set_cons_zero, List.set_cons_succ]
  refine' dag_calls (fun v W => ∃ p c, v = .slice p ps.length c ∧ IV W (.slice p ps.length c) (ni ps)) (fun v W W' hx ⟨p, c, e, hb⟩ => ⟨p, c, e, hb.ext hx⟩) rfl (by intro W; go_simp <;> rfl) (fun W hW H => (P2 W (hsa.ext hW)).mono (by rintro e w' ⟨v', rfl, hio, hx9⟩; obtain ⟨p9, c9, e9, _, _⟩ := (IO.view hio).slice; rw [HNL.out] at e9; exact ⟨_, rfl, ⟨p9, c9, e9, by rw [← e9]; exact IO.view hio⟩, hx9⟩)) (fun b => _)
  rotate_left
  simp only [Act.put, List.setIfInBounds_toArray, List.set_cons_zero, List.set_cons_succ]
  refine dag_end fun W hW H => ?_
  obtain ⟨pa, ca, ea, ha⟩ : ∃ p c, a = .slice p ps.length c ∧ IV W (.slice p ps.length c) (ni ps) := H 2
  obtain ⟨pb, cb, eb, hbv⟩ : ∃ p c, b = .slice p ps.length c ∧ IV W (.slice p ps.length c) (ni ps) := H 5
  subst ea
  subst eb
  clear H j0 j1 j2 k0 k1 k2 P1 P2
  have hxb := hxa.trans hW
  go_wp2_with fail
  go_loopg [11] (ps.length) (fun k s11 wr => ∃ j : Nat, s11 = .int .i64 j ∧ j ≤ ps.length ∧ k = ps.length - j ∧ Ext W wr)
  case atStart => exact ⟨0, rfl, Nat.zero_le _, rfl, Ext.refl _⟩
  case round =>
    obtain ⟨j, rfl, hj, hk3, hx⟩ := hrel
    by_cases hjl : j < ps.length
    case pos =>
      have hi : (j : Int) < (ps.length : Int) := by omega
      obtain ⟨b3, o3, e9, hca0⟩ := int_at (ha.ext hx) (j := j) (by rw [HNL.out]; exact hjl)
      subst e9
      rw [ni_get] at hca0
      obtain ⟨b4, o4, e9, hcb0⟩ := int_at (hbv.ext hx) (j := j) (by rw [HNL.out]; exact hjl)
      subst e9
      rw [ni_get] at hcb0
      generalize ps[j] = q at *
      have hqq : ((q : Int) == (q : Int)) = true := by simp
      clear hjl
      go_wp2_with fail
      apply wp_region_dag (X := Ext) (by kernel_rfl) (by kernel_rfl) (fun _ _ _ => Ext.trans) (Ext.drew1 _)
      apply dag_val Ext.refl rfl (by intro W hW H; go_simp <;> rfl)
      simp only [Act.put, List.setIfInBounds_toArray, List.set_cons_zero, List.set_cons_succ]
      apply dag_val Ext.refl rfl (by intro W hW H; go_simp <;> rfl)
      simp only [Act.put, List.setIfInBounds_toArray, List.set_cons_zero, List.set_cons_succ]
      apply dag_val Ext.refl rfl (by intro W hW H; go_simp <;> rfl)
      simp only [Act.put, List.setIfInBounds_toArray, List.set_cons_zero, List.set_cons_succ]
      apply dag_val Ext.refl rfl (by intro W hW H; have q0 := hW.cell hca0; go_simp <;> rfl)
      simp only [Act.put, List.setIfInBounds_toArray, List.set_cons_zero, List.set_cons_succ]
      apply dag_val Ext.refl rfl (by intro W hW H; go_simp <;> rfl)
      simp only [Act.put, List.setIfInBounds_toArray, List.set_cons_zero, List.set_cons_succ]
      apply dag_val Ext.refl rfl (by intro W hW H; go_simp <;> rfl)
      simp only [Act.put, List.setIfInBounds_toArray, List.set_cons_zero, List.set_cons_succ]
      apply dag_val Ext.refl rfl (by intro W hW H; go_simp <;> rfl)
      simp only [Act.put, List.setIfInBounds_toArray, List.set_cons_zero, List.set_cons_succ]
      apply dag_val Ext.refl rfl (by intro W hW H; have q0 := hW.cell hcb0; go_simp <;> rfl)
      simp only [Act.put, List.setIfInBounds_toArray, List.set_cons_zero, List.set_cons_succ]
      apply dag_val Ext.refl rfl (by intro W hW H; go_simp <;> rfl)
      simp only [Act.put, List.setIfInBounds_toArray, List.set_cons_zero, List.set_cons_succ]
      refine dag_end fun W4 hW4 H => ?_
      clear H
      go_wp2_with fail
      go_roundg (ps.length - (j + 1))
      case measure => omega
      case rel => exact ⟨j + 1, by go_num, by omega, rfl, hx.trans hW4⟩
    case neg =>
      have hje : j = ps.length := by omega
      subst hje
      have hi : ¬ (ps.length : Int) < (ps.length : Int) := by omega
      have hxc := hxb.trans hx
      have hsc := hs.ext hxc
      have ox2 := ox.ext (hW.trans hx)
      have oa2 := oa.ext (hW.trans hx)
      obtain ⟨j0, j1, j2⟩ := ox2.cells3
      clear hx hjl
      go_wp2_with (go_at_call 12; refine (A1 _ hsc).mono ?_; rintro e w5 ⟨v5, rfl, hb5, hx5⟩
                   obtain ⟨p5, c5, e5⟩ := hb5.slice
                   subst e5
                   have hx5a := hx5.trans (Ext.alloc w5 (.cells #[.slice p5 tl.length c5, .int .i64 te, .int .i64 tn] 27))
                   have bt := hb5.ext (Ext.alloc w5 (.cells #[.slice p5 tl.length c5, .int .i64 te, .int .i64 tn] 27))
                   have ot := boxS_at w5 (.slice p5 tl.length c5) te tn)
      have hxd := hxc.trans hx5a
      have hsd := hs.ext hxd
      have ox3 := ox2.ext hx5a
      have oa3 := oa2.ext hx5a
      obtain ⟨t0, t1, t2⟩ := ot.cells3
      obtain ⟨k0, k1, k2⟩ := oa3.cells3
      clear j0 j1 j2 A1 S1 hsa hsc ha hbv HNL
      obtain ⟨j0, j1, j2⟩ := ox3.cells3
      apply wp_region_dag_tail 28 (X := Ext) (by kernel_rfl) (by kernel_rfl) (by kernel_rfl) (by decide) (fun _ _ _ => Ext.trans) (Ext.drew1 _)
      simp only [List.take_succ_cons, List.take_zero, List.drop_succ_cons, List.drop_zero]
      apply dag_val Ext.refl rfl (by intro W hW H; have q0 := hW.cell t0; have q1 := hW.cell t1; have q2 := hW.cell t2; go_simp <;> rfl)
      simp only [Act.put, List.setIfInBounds_toArray, List.set_cons_zero, List.set_cons_succ]
      apply dag_val Ext.refl rfl (by intro W hW H; have q0 := hW.cell k0; have q1 := hW.cell k1; have q2 := hW.cell k2; go_simp <;> rfl)
      simp only [Act.put, List.setIfInBounds_toArray, List.set_cons_zero, List.set_cons_succ]
      apply dag_val Ext.refl rfl (by intro W hW H; go_simp <;> rfl)
      simp only [Act.put, List.setIfInBounds_toArray, List.set_cons_zero, List.set_cons_succ]
      refine' dag_calls (fun v W => ∃ u cu, v = stv (.slice u tl.length cu) te tn ∧ BV W (.slice u tl.length cu) tl) (fun v W W' hx ⟨u, cu, e, hb⟩ => ⟨u, cu, e, hb.ext hx⟩) rfl (by intro W; go_simp <;> rfl) (fun W hW H => (A2 W (hsd.ext hW)).mono (by rintro e w' ⟨v9, rfl, hb9, hx9⟩; obtain ⟨p9, c9, e9⟩ := hb9.slice; subst e9; exact ⟨_, rfl, ⟨p9, c9, rfl, hb9⟩, hx9⟩)) (fun r => _)
      rotate_left
      simp only [Act.put, List.setIfInBounds_toArray, List.set_cons_zero, List.set_cons_succ]
      refine' dag_call (c := .bool true) (f := 13) (args := #[stv (.slice p5 tl.length c5) te tn, r]) rfl (by intro W; go_simp <;> rfl) (fun W hW H => S3 _ _ W (bt.ext hW) (H 3 (by kernel_rfl))) _
      rotate_left
      simp only [Act.put, List.setIfInBounds_toArray, List.set_cons_zero, List.set_cons_succ]
      apply dag_val Ext.refl rfl (by intro W hW H; go_simp <;> rfl)
      simp only [Act.put, List.setIfInBounds_toArray, List.set_cons_zero, List.set_cons_succ]
      apply dag_val Ext.refl rfl (by intro W hW H; have q0 := hW.cell j0; have q1 := hW.cell j1; have q2 := hW.cell j2; go_simp <;> rfl)
      simp only [Act.put, List.setIfInBounds_toArray, List.set_cons_zero, List.set_cons_succ]
      apply dag_val Ext.refl rfl (by intro W hW H; go_simp <;> rfl)
      simp only [Act.put, List.setIfInBounds_toArray, List.set_cons_zero, List.set_cons_succ]
      refine' dag_call (c := .bool hb) (f := 15) (args := #[stv (.slice p l.length c) each n, .string ⟨key.toArray⟩]) rfl (by intro W; go_simp <;> rfl) (fun W hW H => H1 W (hsd.ext hW)) _
      rotate_left
      simp only [Act.put, List.setIfInBounds_toArray, List.set_cons_zero, List.set_cons_succ]
      apply dag_val Ext.refl rfl (by intro W hW H; have q0 := hW.cell k0; have q1 := hW.cell k1; have q2 := hW.cell k2; go_simp <;> rfl)
      simp only [Act.put, List.setIfInBounds_toArray, List.set_cons_zero, List.set_cons_succ]
      apply dag_val Ext.refl rfl (by intro W hW H; go_simp <;> rfl)
      simp only [Act.put, List.setIfInBounds_toArray, List.set_cons_zero, List.set_cons_succ]
      refine' dag_call (c := .bool hb) (f := 16) (args := #[stv (.slice p l.length c) each n, .string ⟨key.toArray⟩]) rfl (by intro W; go_simp <;> rfl) (fun W hW H => H2 W (hsd.ext hW)) _
      rotate_left
      simp only [Act.put, List.setIfInBounds_toArray, List.set_cons_zero, List.set_cons_succ]
      apply dag_val Ext.refl rfl (by intro W hW H; go_simp <;> rfl)
      simp only [Act.put, List.setIfInBounds_toArray, List.set_cons_zero, List.set_cons_succ]
      apply dag_val Ext.refl rfl (by intro W hW H; go_simp <;> rfl)
      simp only [Act.put, List.setIfInBounds_toArray, List.set_cons_zero, List.set_cons_succ]
      apply dag_val Ext.refl rfl (by intro W hW H; go_simp <;> rfl)
      simp only [Act.put, List.setIfInBounds_toArray, List.set_cons_zero, List.set_cons_succ]
      apply dag_val Ext.refl rfl (by intro W hW H; have q0 := hW.cell j0; have q1 := hW.cell j1; have q2 := hW.cell j2; go_simp <;> rfl)
      simp only [Act.put, List.setIfInBounds_toArray, List.set_cons_zero, List.set_cons_succ]
      refine' dag_call (c := .int .i64 ck) (f := 17) (args := #[stv (.slice p l.length c) each n]) rfl (by intro W; go_simp <;> rfl) (fun W hW H => C1 W (hsd.ext hW)) _
      rotate_left
      simp only [Act.put, List.setIfInBounds_toArray, List.set_cons_zero, List.set_cons_succ]
      apply dag_val Ext.refl rfl (by intro W hW H; have q0 := hW.cell k0; have q1 := hW.cell k1; have q2 := hW.cell k2; go_simp <;> rfl)
      simp only [Act.put, List.setIfInBounds_toArray, List.set_cons_zero, List.set_cons_succ]
      refine' dag_call (c := .int .i64 ck) (f := 18) (args := #[stv (.slice p l.length c) each n]) rfl (by intro W; go_simp <;> rfl) (fun W hW H => C2 W (hsd.ext hW)) _
      rotate_left
      simp only [Act.put, List.setIfInBounds_toArray, List.set_cons_zero, List.set_cons_succ]
      apply dag_val Ext.refl rfl (by intro W hW H; go_simp <;> rfl)
      simp only [Act.put, List.setIfInBounds_toArray, List.set_cons_zero, List.set_cons_succ]
      apply dag_val Ext.refl rfl (by intro W hW H; go_simp <;> rfl)
      simp only [Act.put, List.setIfInBounds_toArray, List.set_cons_zero, List.set_cons_succ]
      apply dag_val Ext.refl rfl (by intro W hW H; go_simp <;> rfl)
      simp only [Act.put, List.setIfInBounds_toArray, List.set_cons_zero, List.set_cons_succ]
      apply dag_val Ext.refl rfl (by intro W hW H; go_simp <;> rfl)
      simp only [Act.put, List.setIfInBounds_toArray, List.set_cons_zero, List.set_cons_succ]
      apply dag_val Ext.refl rfl (by intro W hW H; have q0 := hW.cell j0; have q1 := hW.cell j1; have q2 := hW.cell j2; go_simp <;> rfl)
      simp only [Act.put, List.setIfInBounds_toArray, List.set_cons_zero, List.set_cons_succ]
      refine' dag_val Ext.refl rfl (fun W hW H => run_op_bytes_string T.bytes T.u8 T.str rfl rfl (v := .slice p l.length c) (l := l) (by exact hsd.ext hW)) _
      rotate_left
      simp only [Act.put, List.setIfInBounds_toArray, List.set_cons_zero, List.set_cons_succ]
      apply dag_val Ext.refl rfl (by intro W hW H; go_simp <;> rfl)
      simp only [Act.put, List.setIfInBounds_toArray, List.set_cons_zero, List.set_cons_succ]
      apply dag_val Ext.refl rfl (by intro W hW H; go_simp <;> rfl)
      simp only [Act.put, List.setIfInBounds_toArray, List.set_cons_zero, List.set_cons_succ]
      apply dag_val Ext.refl rfl (by intro W hW H; go_simp <;> rfl)
      simp only [Act.put, List.setIfInBounds_toArray, List.set_cons_zero, List.set_cons_succ]
      refine dag_end fun W6 hW6 H => ?_
      clear H
      have hxe := hxd.trans hW6
      have oa4 := oa3.ext hW6
      clear k0 k1 k2 j0 j1 j2 t0 t1 t2 hi hj
      obtain ⟨k0, k1, k2⟩ := oa4.cells3
      go_wp2_with (first
        | (go_at_call 19; refine (N1 _).mono ?_; rintro e w7 ⟨v7, rfl, hb7, hx7⟩
           obtain ⟨p7, c7, e7⟩ := hb7.slice
           subst e7
           have hx7a := hx7.trans (Ext.alloc w7 (.cells #[.slice p7 zl.length c7, .int .i64 ze, .int .i64 zn] 27))
           have bz := hb7.ext (Ext.alloc w7 (.cells #[.slice p7 zl.length c7, .int .i64 ze, .int .i64 zn] 27))
           have oz := boxS_at w7 (.slice p7 zl.length c7) ze zn
           clear k0 k1 k2
           obtain ⟨k0, k1, k2⟩ := (oa4.ext hx7a).cells3)
        | (go_at_call 20; refine (N2 _).mono ?_; rintro e w8 ⟨v8, rfl, hb8, hx8⟩
           obtain ⟨p8, c8, e8⟩ := hb8.slice
           subst e8
           have hx8a := hx8.trans (Ext.alloc w8 (.cells #[.slice p8 zl.length c8, .int .i64 ze, .int .i64 zn] 24))
           have bw := hb8.ext (Ext.alloc w8 (.cells #[.slice p8 zl.length c8, .int .i64 ze, .int .i64 zn] 24))
           have ow := boxR_at w8 (.slice p8 zl.length c8) ze zn
           have bz8 := bz.ext hx8a
           obtain ⟨mu0, mu1, mu2⟩ := (oz.ext hx8a).cells3
           obtain ⟨mj0, mj1, mj2⟩ := ow.cells3
           have hxf := (hxe.trans hx7a).trans hx8a)
        | (go_at_call 13; refine (S2 _ _ _ bz8 bw).mono ?_; rintro e w9 ⟨rfl, hx9⟩)
        | (go_at_call 9; refine (awake_any _).mono ?_; rintro e w10 ⟨rfl, hx10⟩))
      go_ret
      exact ⟨rfl, (hxf.trans hx9).trans hx10⟩
end Go.Proofs.Ythlhhnkalknidaa
