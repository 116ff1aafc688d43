/- The statement BloomJoins of layer 33: the walk of the law. -/
import Derived.Test.YthlhhnkalknidaaLaw33c
import Derived.Test.YthlhhnkalknidaaBmX
namespace Go.Proofs.Ythlhhnkalknidaa
open Go.RowKit

set_option maxRecDepth 20000 in
set_option maxHeartbeats 8000000 in
theorem bloomJoins_walk (sa : Value) (x : List UInt8 × Int × Int) (sb : Value) (y : List UInt8 × Int × Int) (w : World) (ha : BV w sa x.1) (_ : -9223372036854775808 ≤ x.2.1 ∧ x.2.1 ≤ 9223372036854775807) (_ : -9223372036854775808 ≤ x.2.2 ∧ x.2.2 ≤ 9223372036854775807)
    (hb : BV w sb y.1) (_ : -9223372036854775808 ≤ y.2.1 ∧ y.2.1 ≤ 9223372036854775807) (_ : -9223372036854775808 ≤ y.2.2 ∧ y.2.2 ≤ 9223372036854775807) :
    Calls Try.prog 4 #[stv sa x.2.1 x.2.2, stv sb y.2.1 y.2.2] w fun e w' => e = .returned (.bool true) ∧ Ext w w' := by
  obtain ⟨la, ea, na⟩ := x
  obtain ⟨lb, eb, nb⟩ := y
  simp only at *
  obtain ⟨p, c, rfl⟩ := ha.slice
  obtain ⟨q, d, rfl⟩ := hb.slice
  have oa : ObjAt ((w.alloc (.cells #[.slice p la.length c, .int .i64 ea, .int .i64 na] 24)).alloc (.cells #[.slice q lb.length d, .int .i64 eb, .int .i64 nb] 24)) w.heap.size 24 [.slice p la.length c, .int .i64 ea, .int .i64 na] := heap_alloc2_old w _ _
  have ob : ObjAt ((w.alloc (.cells #[.slice p la.length c, .int .i64 ea, .int .i64 na] 24)).alloc (.cells #[.slice q lb.length d, .int .i64 eb, .int .i64 nb] 24)) (w.heap.size + 1) 24 [.slice q lb.length d, .int .i64 eb, .int .i64 nb] := heap_alloc2_new w _ _
  have hx0 := (Ext.alloc w (.cells #[.slice p la.length c, .int .i64 ea, .int .i64 na] 24)).trans (Ext.alloc _ (.cells #[.slice q lb.length d, .int .i64 eb, .int .i64 nb] 24))
  have L1 := light_any (.slice p la.length c) la ea na _ (ha.ext hx0)
  have L2 := fun W h => light_any (.slice q lb.length d) lb eb nb W h
  by_cases hla : la.length ≤ 200
  case neg =>
    rw [decide_eq_false hla] at L1
    clear hla
    go_enter Try.func4, Try.ntmps4
    go_wp2_with (first
      | (go_at_call 8; refine L1.mono ?_; rintro e w1 ⟨rfl, hx1⟩)
      | (go_at_call 9; refine (awake_any _).mono ?_; rintro e w2 ⟨rfl, hx2⟩))
    go_ret
    exact ⟨rfl, (hx0.trans hx1).trans hx2⟩
  rw [decide_eq_true hla] at L1
  by_cases hlb : lb.length ≤ 200
  case neg =>
    rw [decide_eq_false hlb] at L2
    clear hla hlb
    go_enter Try.func4, Try.ntmps4
    go_wp2_with (first
      | (go_at_call 8; have hq := hx1; refine (L2 _ (hb.ext (hx0.trans hx1))).mono ?_; rintro e w2 ⟨rfl, hx2⟩)
      | (go_at_call 8; refine L1.mono ?_; rintro e w1 ⟨rfl, hx1⟩
         obtain ⟨m0, m1, m2⟩ := (ob.ext hx1).cells3)
      | (go_at_call 9; refine (awake_any _).mono ?_; rintro e w3 ⟨rfl, hx3⟩))
    go_ret
    exact ⟨rfl, ((hx0.trans hx1).trans hx2).trans hx3⟩
  rw [decide_eq_true hlb] at L2
  have J1 := fun W h1 h2 => join_any (.slice p la.length c) la ea na (.slice q lb.length d) lb eb nb W h1 h2 (by omega) (by omega)
  have J2 := fun W h1 h2 => rjoin_any (.slice p la.length c) la ea na (.slice q lb.length d) lb eb nb W h1 h2 (by omega) (by omega)
  generalize joinS ⟨la, ea, na⟩ ⟨lb, eb, nb⟩ = J at *
  obtain ⟨⟨jl, je, jn⟩, jerr⟩ := J
  simp only at J1 J2
  have S1 := fun v1 v2 W h1 h2 => rsame_any v1 jl je jn v2 jl je jn W h1 h2
  rw [same_refl] at S1
  have F1 := fun W h => full_any (.slice p la.length c) la ea na W h (by omega)
  have F2 := fun W h => rfull_any (.slice p la.length c) la ea na W h (by omega)
  have S2 := fun W h1 h2 => same_any (.slice p la.length c) la ea na (.slice q lb.length d) lb eb nb W h1 h2
  have S3 := fun W h1 h2 => rsame_any (.slice p la.length c) la ea na (.slice q lb.length d) lb eb nb W h1 h2
  generalize sameB ⟨la, ea, na⟩ ⟨lb, eb, nb⟩ = sm at *
  generalize fullL la = F at *
  have hz1 : (jerr == jerr) = true := by simp
  have hz2 : ((F : Int) == (F : Int)) = true := by simp
  have hz3 : (sm == sm) = true := by simp
  clear hla hlb
  go_enter Try.func4, Try.ntmps4
  go_wp2_with (first
    | (go_at_call 8; have hq := hx1; refine (L2 _ (hb.ext (hx0.trans hx1))).mono ?_; rintro e w2 ⟨rfl, hx2⟩
       obtain ⟨l0, l1, l2⟩ := ((oa.ext hx1).ext hx2).cells3
       obtain ⟨k0, k1, k2⟩ := ((ob.ext hx1).ext hx2).cells3
       have hxb := (hx0.trans hx1).trans hx2)
    | (go_at_call 8; refine L1.mono ?_; rintro e w1 ⟨rfl, hx1⟩
       obtain ⟨m0, m1, m2⟩ := (ob.ext hx1).cells3)
    | (go_at_call 21; refine (J1 _ (ha.ext hxb) (hb.ext hxb)).mono ?_; rintro e w3 ⟨v3, rfl, hb3, hx3⟩
       obtain ⟨p3, c3, e3⟩ := hb3.slice
       subst e3
       clear m0 m1 m2 l0 l1 l2 k0 k1 k2
       have hx3a := hx3.trans (Ext.alloc w3 (.cells #[.slice p3 jl.length c3, .int .i64 je, .int .i64 jn] 27))
       have bj := hb3.ext (Ext.alloc w3 (.cells #[.slice p3 jl.length c3, .int .i64 je, .int .i64 jn] 27))
       have oj := boxS_at w3 (.slice p3 jl.length c3) je jn
       have hxc := hxb.trans hx3a
       obtain ⟨l0, l1, l2⟩ := (((oa.ext hx1).ext hx2).ext hx3a).cells3
       obtain ⟨k0, k1, k2⟩ := (((ob.ext hx1).ext hx2).ext hx3a).cells3)
    | (go_at_call 22; refine (J2 _ (ha.ext hxc) (hb.ext hxc)).mono ?_; rintro e w4 ⟨v4, rfl, hb4, hx4⟩
       obtain ⟨p4, c4, e4⟩ := hb4.slice
       subst e4))
  have hx4a := hx4.trans (Ext.alloc w4 (.cells #[.slice p4 jl.length c4, .int .i64 je, .int .i64 jn] 24))
  have br := hb4.ext (Ext.alloc w4 (.cells #[.slice p4 jl.length c4, .int .i64 je, .int .i64 jn] 24))
  have or_ := boxR_at w4 (.slice p4 jl.length c4) je jn
  have hxd := hxc.trans hx4a
  have bj2 := bj.ext hx4a
  obtain ⟨n0, n1, n2⟩ := (oj.ext hx4a).cells3
  obtain ⟨r0, r1, r2⟩ := or_.cells3
  clear l0 l1 l2 k0 k1 k2
  obtain ⟨l0, l1, l2⟩ := ((((oa.ext hx1).ext hx2).ext hx3a).ext hx4a).cells3
  obtain ⟨k0, k1, k2⟩ := ((((ob.ext hx1).ext hx2).ext hx3a).ext hx4a).cells3
  have ha4 := ha.ext hxd
  have hb4' := hb.ext hxd
  apply wp_region_dag (X := Ext) (by kernel_rfl) (by kernel_rfl) (fun _ _ _ => Ext.trans) (Ext.drew1 _)
  apply dag_val Ext.refl rfl (by intro W hW H; have q0 := hW.cell n0; have q1 := hW.cell n1; have q2 := hW.cell n2; go_simp <;> rfl)
  simp only [Act.put, List.setIfInBounds_toArray, List.set_cons_zero, List.set_cons_succ]
  apply dag_val Ext.refl rfl (by intro W hW H; have q0 := hW.cell r0; have q1 := hW.cell r1; have q2 := hW.cell r2; go_simp <;> rfl)
  simp only [Act.put, List.setIfInBounds_toArray, List.set_cons_zero, List.set_cons_succ]
  refine' dag_call (c := .bool true) (f := 13) (args := #[stv (.slice p3 jl.length c3) je jn, stv (.slice p4 jl.length c4) je jn]) rfl (by intro W; go_simp <;> rfl) (fun W hW H => S1 _ _ W (bj2.ext hW) (br.ext hW)) _
  rotate_left
  simp only [Act.put, List.setIfInBounds_toArray, List.set_cons_zero, List.set_cons_succ]
  apply dag_val Ext.refl rfl (by intro W hW H; go_simp <;> rfl)
  simp only [Act.put, List.setIfInBounds_toArray, List.set_cons_zero, List.set_cons_succ]
  apply dag_val Ext.refl rfl (by intro W hW H; go_simp <;> rfl)
  simp only [Act.put, List.setIfInBounds_toArray, List.set_cons_zero, List.set_cons_succ]
  apply dag_val Ext.refl rfl (by intro W hW H; go_simp <;> rfl)
  simp only [Act.put, List.setIfInBounds_toArray, List.set_cons_zero, List.set_cons_succ]
  apply dag_val Ext.refl rfl (by intro W hW H; go_simp <;> rfl)
  simp only [Act.put, List.setIfInBounds_toArray, List.set_cons_zero, List.set_cons_succ]
  apply dag_val Ext.refl rfl (by intro W hW H; go_simp <;> rfl)
  simp only [Act.put, List.setIfInBounds_toArray, List.set_cons_zero, List.set_cons_succ]
  apply dag_val Ext.refl rfl (by intro W hW H; go_simp <;> rfl)
  simp only [Act.put, List.setIfInBounds_toArray, List.set_cons_zero, List.set_cons_succ]
  apply dag_val Ext.refl rfl (by intro W hW H; have q0 := hW.cell l0; have q1 := hW.cell l1; have q2 := hW.cell l2; go_simp <;> rfl)
  simp only [Act.put, List.setIfInBounds_toArray, List.set_cons_zero, List.set_cons_succ]
  refine' dag_call (c := .int .i64 (F : Int)) (f := 23) (args := #[stv (.slice p la.length c) ea na]) rfl (by intro W; go_simp <;> rfl) (fun W hW H => F1 W (ha4.ext hW)) _
  rotate_left
  simp only [Act.put, List.setIfInBounds_toArray, List.set_cons_zero, List.set_cons_succ]
  apply dag_val Ext.refl rfl (by intro W hW H; have q0 := hW.cell l0; have q1 := hW.cell l1; have q2 := hW.cell l2; go_simp <;> rfl)
  simp only [Act.put, List.setIfInBounds_toArray, List.set_cons_zero, List.set_cons_succ]
  refine' dag_call (c := .int .i64 (F : Int)) (f := 24) (args := #[stv (.slice p la.length c) ea na]) rfl (by intro W; go_simp <;> rfl) (fun W hW H => F2 W (ha4.ext hW)) _
  rotate_left
  simp only [Act.put, List.setIfInBounds_toArray, List.set_cons_zero, List.set_cons_succ]
  apply dag_val Ext.refl rfl (by intro W hW H; go_simp <;> rfl)
  simp only [Act.put, List.setIfInBounds_toArray, List.set_cons_zero, List.set_cons_succ]
  apply dag_val Ext.refl rfl (by intro W hW H; go_simp <;> rfl)
  simp only [Act.put, List.setIfInBounds_toArray, List.set_cons_zero, List.set_cons_succ]
  apply dag_val Ext.refl rfl (by intro W hW H; go_simp <;> rfl)
  simp only [Act.put, List.setIfInBounds_toArray, List.set_cons_zero, List.set_cons_succ]
  apply dag_val Ext.refl rfl (by intro W hW H; have q0 := hW.cell l0; have q1 := hW.cell l1; have q2 := hW.cell l2; go_simp <;> rfl)
  simp only [Act.put, List.setIfInBounds_toArray, List.set_cons_zero, List.set_cons_succ]
  apply dag_val Ext.refl rfl (by intro W hW H; have q0 := hW.cell k0; have q1 := hW.cell k1; have q2 := hW.cell k2; go_simp <;> rfl)
  simp only [Act.put, List.setIfInBounds_toArray, List.set_cons_zero, List.set_cons_succ]
  refine' dag_call (c := .bool sm) (f := 25) (args := #[stv (.slice p la.length c) ea na, stv (.slice q lb.length d) eb nb]) rfl (by intro W; go_simp <;> rfl) (fun W hW H => S2 W (ha4.ext hW) (hb4'.ext hW)) _
  rotate_left
  simp only [Act.put, List.setIfInBounds_toArray, List.set_cons_zero, List.set_cons_succ]
  apply dag_val Ext.refl rfl (by intro W hW H; have q0 := hW.cell l0; have q1 := hW.cell l1; have q2 := hW.cell l2; go_simp <;> rfl)
  simp only [Act.put, List.setIfInBounds_toArray, List.set_cons_zero, List.set_cons_succ]
  apply dag_val Ext.refl rfl (by intro W hW H; have q0 := hW.cell k0; have q1 := hW.cell k1; have q2 := hW.cell k2; go_simp <;> rfl)
  simp only [Act.put, List.setIfInBounds_toArray, List.set_cons_zero, List.set_cons_succ]
  refine' dag_call (c := .bool sm) (f := 13) (args := #[stv (.slice p la.length c) ea na, stv (.slice q lb.length d) eb nb]) rfl (by intro W; go_simp <;> rfl) (fun W hW H => S3 W (ha4.ext hW) (hb4'.ext hW)) _
  rotate_left
  simp only [Act.put, List.setIfInBounds_toArray, List.set_cons_zero, List.set_cons_succ]
  apply dag_val Ext.refl rfl (by intro W hW H; go_simp <;> rfl)
  simp only [Act.put, List.setIfInBounds_toArray, List.set_cons_zero, List.set_cons_succ]
  apply dag_val Ext.refl rfl (by intro W hW H; go_simp <;> rfl)
  simp only [Act.put, List.setIfInBounds_toArray, List.set_cons_zero, List.set_cons_succ]
  apply dag_val Ext.refl rfl (by intro W hW H; go_simp <;> rfl)
  simp only [Act.put, List.setIfInBounds_toArray, List.set_cons_zero, List.set_cons_succ]
  refine' dag_call (c := .bool true) (f := 9) (args := #[]) rfl (by intro W; go_simp <;> rfl) (fun W hW H => awake_any W) _
  rotate_left
  simp only [Act.put, List.setIfInBounds_toArray, List.set_cons_zero, List.set_cons_succ]
  apply dag_val Ext.refl rfl (by intro W hW H; go_simp <;> rfl)
  simp only [Act.put, List.setIfInBounds_toArray, List.set_cons_zero, List.set_cons_succ]
  apply dag_val Ext.refl rfl (by intro W hW H; go_simp <;> rfl)
  simp only [Act.put, List.setIfInBounds_toArray, List.set_cons_zero, List.set_cons_succ]
  refine dag_end fun W hW H => ?_
  go_wp2_with fail
  go_ret
  exact ⟨rfl, hxd.trans hW⟩
end Go.Proofs.Ythlhhnkalknidaa
