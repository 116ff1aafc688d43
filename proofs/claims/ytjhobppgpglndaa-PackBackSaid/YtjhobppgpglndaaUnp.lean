/- What the program's functions of layer 32 compute: the unpacker's methods. -/
import Derived.Test.YtjhobppgpglndaaObj
import Derived.Test.YtjhobppgpglndaaPk
import Derived.Test.YtjhobppgpglndaaFix
import Derived.Test.YtjhobppgpglndaaZeros
import Derived.Deep.LoopGhost
namespace Go.Proofs.Ytjhobppgpglndaa
open Go.RowKit

theorem T.int : Try.prog.underlying 3 = some (.int .i64) := Try.underlying3
/-- The unpacker at block g: what is left, which world W0 holds; what is out, of blocks that are not W0's. -/
structure UK (W0 w : World) (g : Nat) (vp vo : Value) (most : Nat) (rest out : List UInt8) : Prop where
  obj : ObjAt w g 46 [vp, vo, .int .i64 most]
  base : W0.heap.size ≤ g
  p : BV W0 vp rest
  o : FB w W0.heap.size vo out
  og : vo.ownBlock ≠ some g
  ext : Ext W0 w
theorem UK.after {W0 w w' : World} {g most : Nat} {vp vo : Value} {rest out : List UInt8} (h : UK W0 w g vp vo most rest out) (hx : Ext w w') : UK W0 w' g vp vo most rest out :=
  ⟨h.obj.ext hx, h.base, h.p, h.o.keep hx, h.og, h.ext.trans hx⟩
theorem UK.setOut {W0 w W : World} {g most : Nat} {vp vo v : Value} {rest out out' : List UInt8} (h : UK W0 w g vp vo most rest out) (k : Grew w W W0.heap.size vo v out') : UK W0 (W.setCell ⟨g, 1, none⟩ v) g vp v most rest out' := by
  have hlt := h.obj.lt
  have hvg : v.ownBlock ≠ some g := by
    rcases k.own with e | ⟨j, e, hj⟩
    · rw [e]; exact h.og
    · rw [e]; intro e2; cases e2; omega
  exact ⟨(h.obj.kept k.grown h.og.symm).store 1 v, h.base, h.p, k.row.far hvg _, hvg, (h.ext.thenBelow (grown_below k.grown h.ext.size fun j e => (h.o.lt j e).1)).store h.base _⟩
theorem UK.setP {W0 w : World} {g most : Nat} {vp vo v : Value} {rest rest' out : List UInt8} (h : UK W0 w g vp vo most rest out) (k : BV W0 v rest') : UK W0 (w.setCell ⟨g, 0, none⟩ v) g v vo most rest' out :=
  ⟨h.obj.store 0 v, h.base, k, h.o.far h.og _, h.og, h.ext.store h.base _⟩

set_option maxHeartbeats 1000000 in
theorem room_any (W0 : World) (g most n : Nat) (vp vo : Value) (rest out : List UInt8) (w : World) (h : UK W0 w g vp vo most rest out) (hn : out.length + n ≤ 1000000000) :
    Calls Try.prog 27 #[.pointer (some ⟨g, 0, none⟩), .int .i64 n] w fun e w' => e = .returned (.bool (decide (out.length + n ≤ most))) ∧ Ext w w' := by
  have hc1 := h.obj.cell (j := 1) (u := vo) rfl
  have hc2 := h.obj.cell (j := 2) (u := .int .i64 most) rfl
  obtain ⟨po, co, rfl, _, _, _⟩ := h.o.slice
  have hw : IntKind.i64.wrap ((out.length : Int) + (n : Int)) = (out.length : Int) + (n : Int) := by rw [IntKind.wrap_i64]; omega
  have hd : decide ((out.length : Int) + (n : Int) ≤ (most : Int)) = decide (out.length + n ≤ most) := by
    by_cases h : out.length + n ≤ most
    · rw [decide_eq_true h]; exact decide_eq_true (by omega)
    · rw [decide_eq_false h]; exact decide_eq_false (by omega)
  have HD := Lib.hid hd; clear hd
  go_enter Try.func27, Try.ntmps27
  go_wp2_with fail
  apply wp_region_dag (X := Ext) (by kernel_rfl) (by kernel_rfl) (fun _ _ _ => Ext.trans) (Ext.drew1 _)
  apply dag_val Ext.refl rfl (by intro W hW H; go_simp <;> rfl)
  simp only [Act.put, List.setIfInBounds_toArray, List.set_cons_zero, List.set_cons_succ]
  apply dag_val Ext.refl rfl (by intro W hW H; go_simp <;> rfl)
  simp only [Act.put, List.setIfInBounds_toArray, List.set_cons_zero, List.set_cons_succ]
  apply dag_val Ext.refl rfl (by intro W hW H; go_simp <;> rfl)
  simp only [Act.put, List.setIfInBounds_toArray, List.set_cons_zero, List.set_cons_succ]
  apply dag_val Ext.refl rfl (by intro W hW H; have hq := hW.cell hc1; go_simp <;> rfl)
  simp only [Act.put, List.setIfInBounds_toArray, List.set_cons_zero, List.set_cons_succ]
  apply dag_val Ext.refl rfl (by intro W hW H; go_simp <;> rfl)
  simp only [Act.put, List.setIfInBounds_toArray, List.set_cons_zero, List.set_cons_succ]
  apply dag_val Ext.refl rfl (by intro W hW H; go_simp <;> rfl)
  simp only [Act.put, List.setIfInBounds_toArray, List.set_cons_zero, List.set_cons_succ]
  apply dag_val Ext.refl rfl (by intro W hW H; go_simp <;> rfl)
  simp only [Act.put, List.setIfInBounds_toArray, List.set_cons_zero, List.set_cons_succ]
  apply dag_val Ext.refl rfl (by intro W hW H; go_simp <;> rfl)
  simp only [Act.put, List.setIfInBounds_toArray, List.set_cons_zero, List.set_cons_succ]
  apply dag_val Ext.refl rfl (by intro W hW H; go_simp <;> rfl)
  simp only [Act.put, List.setIfInBounds_toArray, List.set_cons_zero, List.set_cons_succ]
  apply dag_val Ext.refl rfl (by intro W hW H; go_simp <;> rfl)
  simp only [Act.put, List.setIfInBounds_toArray, List.set_cons_zero, List.set_cons_succ]
  apply dag_val Ext.refl rfl (by intro W hW H; have hq := hW.cell hc2; go_simp <;> rfl)
  simp only [Act.put, List.setIfInBounds_toArray, List.set_cons_zero, List.set_cons_succ]
  apply dag_val Ext.refl rfl (by intro W hW H; go_simp <;> rfl)
  simp only [Act.put, List.setIfInBounds_toArray, List.set_cons_zero, List.set_cons_succ]
  apply dag_val Ext.refl rfl (by intro W hW H; go_simp <;> rfl)
  simp only [Act.put, List.setIfInBounds_toArray, List.set_cons_zero, List.set_cons_succ]
  refine dag_end fun W hW H => ?_
  go_wp2_with fail
  go_ret
  exact ⟨(by rw [← HD.out]; rfl), hW⟩

def runE (most : Nat) (c : UInt8) (r out : List UInt8) : Int := if r.length < c.toNat + 1 then 3 else if most < out.length + (c.toNat + 1) then 5 else 0
set_option maxHeartbeats 1000000 in
theorem run_any (W0 : World) (g most : Nat) (vp vo : Value) (c : UInt8) (r out : List UInt8) (w : World) (h : UK W0 w g vp vo most (c :: r) out) (hn : out.length ≤ 900000000) :
    Calls Try.prog 23 #[.pointer (some ⟨g, 0, none⟩)] w fun e w' => e = .returned (.int .i64 (runE most c r out)) ∧ Ext W0 w' ∧
      (runE most c r out = 0 → ∃ vp' vo', UK W0 w' g vp' vo' most (r.drop (c.toNat + 1)) (out ++ r.take (c.toNat + 1))) := by
  obtain ⟨p, cp, rfl, hlp, hcp, hs⟩ := id h.p
  have hcp : cp ≤ 9223372036854775807 := by simpa [maxLen] using hcp
  obtain ⟨po, co, rfl, hlo, hco, _⟩ := id h.o.slice
  obtain ⟨b, o, rfl, hcell⟩ := hs.at (k := 0) (u := bv c) rfl
  rw [Nat.add_zero] at hcell
  have hc0 := h.obj.cell (j := 0) (u := .slice (some ⟨b, o, none⟩) (c :: r).length cp) rfl
  have hc1 := h.obj.cell (j := 1) (u := .slice po out.length co) rfl
  have hcc := h.ext.cell hcell
  have h1 := h.p
  obtain ⟨rl, hrl⟩ : ∃ rl, (c :: r).length = rl := ⟨_, rfl⟩
  rw [hrl] at h hc0 hlp h1
  rw [List.length_cons] at hrl
  have hc256 := c.toNat_lt
  have hc256 : c.toNat < 256 := hc256
  obtain ⟨n, hn1, hn2⟩ : ∃ n, n = c.toNat + 1 ∧ (c.toNat : Int) + 1 = (n : Int) := ⟨_, rfl, by omega⟩
  have R1 := fun w => room_any W0 g most n (.slice (some ⟨b, o, none⟩) rl cp) (.slice po out.length co) (c :: r) out w
  unfold runE
  rw [← hn1]
  have hn256 : n ≤ 256 := by omega
  have hwn : IntKind.i64.wrap (n : Int) = (n : Int) := by rw [IntKind.wrap_i64]; omega
  have hpos : 0 < rl := by omega
  by_cases hlt : r.length < n
  · rw [if_pos hlt]
    have ht : rl ≤ n := by omega
    clear hn1 hlt hrl hcell hs
    go_enter Try.func23, Try.ntmps23
    go_wp2_with fail
    go_ret
    exact ⟨rfl, h.ext, fun e => by cases e⟩
  rw [if_neg hlt]
  have ht : ¬ rl ≤ n := by omega
  by_cases hm : most < out.length + n
  · rw [if_pos hm]
    rw [decide_eq_false (show ¬ out.length + n ≤ most by omega)] at R1
    clear hn1 hlt hrl hcell hs
    go_enter Try.func23, Try.ntmps23
    go_wp2_with (go_at_call 27; refine (R1 _ h (by omega)).mono ?_; rintro e w1 ⟨rfl, hx1⟩)
    go_ret
    exact ⟨rfl, h.ext.trans hx1, fun e => by cases e⟩
  · rw [if_neg hm]
    rw [decide_eq_true (show out.length + n ≤ most by omega)] at R1
    have HC : Hid (∀ l : List UInt8, c :: l = [c] ++ l) := fun _ => rfl
    have hw1 : IntKind.i64.wrap ((n : Int) + 1) = (n : Int) + 1 := by rw [IntKind.wrap_i64]; omega
    have hrn : n ≤ r.length := by omega
    have HL := Lib.hid hrl
    clear hn1 hlt hrl hcell hs
    go_enter Try.func23, Try.ntmps23
    go_wp2_with (first
      | (at_builtin; refine st_zeros T.bytes T.int n k1.o ?_ (by omega) k1.ext.size rfl; intro v2 w2 hf2 hg2 hw2
         have hG : Grew w1 w2 W0.heap.size (.slice po out.length co) v2 (out ++ List.replicate n 0) := ⟨hf2, hg2, hw2.elim .inl fun e => .inr ⟨_, e, Nat.le_refl _⟩⟩
         have hlen : (out ++ List.replicate n (0 : UInt8)).length = out.length + n := by simp
         obtain ⟨p2, c2, e2, hl2, hm2, _⟩ := hf2.slice
         rw [hlen] at e2 hl2
         subst e2
         have k2 := k1.setOut hG
         have hob := k1.obj.kept hG.grown k1.og.symm
         have hd1 := hob.cell (j := 1) (u := .slice po out.length co) rfl
         have hf1 := hob.free 1
         clear hob hw2)
      | (go_at_call 27; refine (R1 _ h (by omega)).mono ?_; rintro e w1 ⟨rfl, hx1⟩; have k1 := h.after hx1
         have hd1 := k1.obj.cell (j := 1) (u := .slice po out.length co) rfl))
    obtain ⟨g2, c2', e2, _, _, _, _⟩ := k2.o.head (by intro e; have := congrArg List.length e; rw [hlen] at this; simp at this; omega)
    rw [hlen] at e2
    cases e2
    clear hd1 hf1 hG hc0 hc1
    generalize w2.setCell ⟨g, 1, none⟩ (.slice (some ⟨g2, 0, none⟩) (out.length + n) c2) = W2 at *
    have hc0 := k2.obj.cell (j := 0) (u := .slice (some ⟨b, o, none⟩) rl cp) rfl
    have hc1 := k2.obj.cell (j := 1) (u := .slice (some ⟨g2, 0, none⟩) (out.length + n) c2) rfl
    have ecut : cutA 1 (some ⟨g2, 0, none⟩) c2 out.length = some ⟨g2, out.length, none⟩ := by
      unfold cutA; rw [if_neg (by omega)]; simp [add_lit]
    have hsrc := h1.drop (k := 1) (by simp)
    rw [List.drop_succ_cons, List.drop_zero] at hsrc
    have hnd := h1.drop (k := n + 1) (by simp; omega)
    rw [List.drop_succ_cons] at hnd
    apply wp_region_dag_tail 11 (X := Ext) (by kernel_rfl) (by kernel_rfl) (by kernel_rfl) (by decide) (fun _ _ _ => Ext.trans) (Ext.drew1 _)
    simp only [List.take_succ_cons, List.take_zero, List.drop_succ_cons, List.drop_zero]
    apply dag_val Ext.refl rfl (by intro W hW H; go_simp <;> rfl)
    simp only [Act.put, List.setIfInBounds_toArray, List.set_cons_zero, List.set_cons_succ]
    apply dag_val Ext.refl rfl (by intro W hW H; go_simp <;> rfl)
    simp only [Act.put, List.setIfInBounds_toArray, List.set_cons_zero, List.set_cons_succ]
    apply dag_val Ext.refl rfl (by intro W hW H; go_simp <;> rfl)
    simp only [Act.put, List.setIfInBounds_toArray, List.set_cons_zero, List.set_cons_succ]
    apply dag_val Ext.refl rfl (by intro W hW H; have hq := hW.cell hc1; go_simp <;> rfl)
    simp only [Act.put, List.setIfInBounds_toArray, List.set_cons_zero, List.set_cons_succ]
    apply dag_val Ext.refl rfl (by intro W hW H; go_simp <;> rfl)
    simp only [Act.put, List.setIfInBounds_toArray, List.set_cons_zero, List.set_cons_succ]
    refine' dag_val Ext.refl rfl (fun W hW H => run_slice T.bytes rfl rfl W out.length (out.length + n) c2) _
    rotate_left
    simp only [Act.put, List.setIfInBounds_toArray, List.set_cons_zero, List.set_cons_succ]
    apply dag_val Ext.refl rfl (by intro W hW H; go_simp <;> rfl)
    simp only [Act.put, List.setIfInBounds_toArray, List.set_cons_zero, List.set_cons_succ]
    apply dag_val Ext.refl rfl (by intro W hW H; go_simp <;> rfl)
    simp only [Act.put, List.setIfInBounds_toArray, List.set_cons_zero, List.set_cons_succ]
    apply dag_val Ext.refl rfl (by intro W hW H; go_simp <;> rfl)
    simp only [Act.put, List.setIfInBounds_toArray, List.set_cons_zero, List.set_cons_succ]
    apply dag_val Ext.refl rfl (by intro W hW H; have hq := hW.cell hc0; go_simp <;> rfl)
    simp only [Act.put, List.setIfInBounds_toArray, List.set_cons_zero, List.set_cons_succ]
    refine' dag_val Ext.refl rfl (fun W hW H => run_slice T.bytes rfl rfl W 1 rl cp) _
    rotate_left
    simp only [Act.put, List.setIfInBounds_toArray, List.set_cons_zero, List.set_cons_succ]
    refine dag_end fun W3 hW H => ?_
    rw [ecut, show out.length + n - out.length = n by omega]
    have k3 := k2.after hW
    refine wpList_copy_bytes (off := out.length) (dl := n) T.bytes rfl rfl k3.o rfl rfl (by rw [hlen]; omega) (hsrc.ext k3.ext) ?_
    intro w4 hf4 hg4
    have e4 : (out ++ List.replicate n (0 : UInt8)).take out.length ++ (r.take (min r.length n) ++ (out ++ List.replicate n 0).drop (out.length + min r.length n)) = out ++ r.take n := by
      rw [Nat.min_eq_right hrn, List.take_left, List.drop_of_length_le (by rw [hlen]; exact Nat.le_refl _), List.append_nil]
    rw [e4] at hf4
    have hob := k3.obj.kept hg4 (k3.og.symm)
    have k4 : UK W0 w4 g (.slice (some ⟨b, o, none⟩) rl cp) (.slice (some ⟨g2, 0, none⟩) (out.length + n) c2) most (c :: r) (out ++ r.take n) :=
      ⟨hob, k3.base, k3.p, hf4, k3.og, k3.ext.thenBelow (grown_below hg4 k3.ext.size fun j e => by cases e; exact (k3.o.lt g2 rfl).1)⟩
    have hd0 := k4.obj.cell (j := 0) (u := .slice (some ⟨b, o, none⟩) rl cp) rfl
    have hf0 := k4.obj.free 0
    have k5 := k4.setP hnd
    clear hob hc0 hc1 H
    go_wp2_with ((with_reducible show wpList _ _ _ (Oper.mk _ (Op.slice _ _ _ _ _) _ _ _ _ :: _) _ _); refine st_slice T.bytes (n + 1) rl cp ?_)
    go_ret
    exact ⟨rfl, k5.ext, fun _ => ⟨_, _, k5⟩⟩
end Go.Proofs.Ytjhobppgpglndaa
