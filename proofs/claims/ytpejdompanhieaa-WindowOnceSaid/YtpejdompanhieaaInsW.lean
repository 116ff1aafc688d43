/- slices.Insert of one element into a row of the call's own. slices.Clone of rows of sums. -/
import Derived.Test.YtpejdompanhieaaIns
import Derived.Test.YtpejdompanhieaaWnR
namespace Go.Proofs.Ytpejdompanhieaa
open Go.RowKit

set_option maxRecDepth 20000 in
set_option maxHeartbeats 4000000 in
theorem insW_any {α : Type} {R : World → List Value → α → Prop} {S : Nat → Prop} {w : World} {B : Nat} {vx : Value} {xs : List α} {x : α} {i vb : Nat} {vs : List Value} (ho : ORow 64 6 R S w B vx xs) (hvb : w.heap[vb]? = some (.cells vs.toArray 64 (0, 0))) (hne : vx.ownBlock ≠ some vb)
    (hvs : vs.length = 6) (h1 : ∀ u ∈ vs, u.oneCell' = true) (hx : Under (fun k => S k ∧ some k ≠ vx.ownBlock) (fun w' => R w' vs x) w) (hi : i ≤ xs.length) (hl : xs.length ≤ 100000) (hB : B ≤ w.heap.size) :
    Calls Try.prog 60 #[vx, .int .i64 (i : Int), .slice (some ⟨vb, 0, none⟩) 1 1] w fun e w' => ∃ v', e = .returned v' ∧ ORow 64 6 R S w' B v' (xs.take i ++ x :: xs.drop i) ∧ w.grownBy w' vx.ownBlock ∧ (v'.ownBlock = vx.ownBlock ∨ ∃ k, v'.ownBlock = some k ∧ w.heap.size ≤ k) := by
  obtain ⟨p, c, rfl, hnc, hcm⟩ := ho.view.slice
  by_cases hin : i = xs.length
  case pos =>
    subst hin
    have hl1 : SRow 6 R (fun k => S k ∧ some k ≠ (Value.slice p xs.length c).ownBlock) w (.slice (some ⟨vb, 0, none⟩) 1 1) [x] := by
      refine ⟨[vs], some ⟨vb, 0, none⟩, 1, fun cs hcs => ?_, rfl, Nat.le_refl _, by simp [maxLen], fun _ => ⟨_, _, rfl, fun j u hu => ?_⟩, Items.one hx⟩
      · rw [List.mem_singleton] at hcs; subst hcs; exact ⟨hvs, h1⟩
      · rw [Nat.zero_add]
        unfold World.cell?
        simp only [hvb]
        simpa using hu
    have hnn : ((xs.length : Int) == (xs.length : Int)) = true := by simp
    have HL := Lib.hid hl
    have HCM := Lib.hid hcm
    unfold maxLen at hcm
    clear hl hi hvb hne hvs h1 hx
    go_enter Try.func60, Try.ntmps60
    go_wp2_with (first
      | ((with_reducible show wpList _ _ _ (Oper.mk _ (Op.slice _ _ _ _ _) _ _ _ _ :: _) _ _); refine st_slice T.sms xs.length xs.length c ?_)
      | (at_builtin; refine st_items T.sms ho hl1 ?_ (by have := HL.out; simp [maxLen]; omega) (by have := HL.out; simp; omega) hB; intro v2 w2 ho2 hg2 hw2))
    go_ret
    refine ⟨_, rfl, ?_, hg2, ?_⟩
    · rw [List.take_length, List.drop_length]; exact ho2
    · rcases hw2 with h | h
      · exact .inl h
      · exact .inr ⟨_, h, Nat.le_refl _⟩
  have hil : i < xs.length := by omega
  obtain ⟨css, hch, hown, hit⟩ := ho
  rcases hown.2 with ⟨_, hn0⟩ | ⟨g, cap, cur, e9, hBg, hg, hncap, hcapm, hcs, htk⟩
  · omega
  cases e9
  have hfl : css.flatten.length = xs.length * 6 := hown.1
  have hone := chunks_one hch
  have hvg : vb ≠ g := fun e => hne (by rw [e]; rfl)
  have hg' : w.heap[g]? = some (.cells cur.toList.toArray 64 (0, 0)) := by rw [Array.toArray_toList]; exact hg
  have hcl : cur.toList.length = c * 6 := by rw [Array.length_toList]; exact hcs
  have hold : ∀ j u, css.flatten[j]? = some u → cur.toList[j]? = some u := fun j u hu => by
    rw [← htk, List.getElem?_take] at hu
    split at hu
    · exact hu
    · cases hu
  generalize hC0 : cur.toList = C0 at *
  have hnn : ((i : Int) == (xs.length : Int)) = false := by simp; omega
  by_cases hroom : xs.length + 1 ≤ c
  case pos =>
    have hov : ∀ lb cb, (callFunc 74 #[.slice (some ⟨vb, 0, none⟩) 1 1, .slice (some ⟨g, (i + 1) * 6, none⟩) lb cb]).run Try.prog w = .ok (.value (.bool false)) w := fun lb cb => by
      rw [run_callFunc_extern Try.func74 (by kernel_rfl) (by kernel_rfl) (by kernel_rfl) (e := Extern.SlicesOverlaps.overlaps #[29, 29] #[4]) (by kernel_rfl),
        Lib.run_overlaps_apart w 29 4 64 Try.underlying29 6 (T.sms.size) ⟨vb, 0, none⟩ ⟨g, (i + 1) * 6, none⟩ 1 1 lb cb hvg 64 64 6 C0.length (by rw [cells_shape hvb, hvs]) (cells_shape hg') (by omega) (cells_frozen hvb _) (cells_frozen hvb _)]
      rfl
    have hw1 : IntKind.i64.wrap ((i : Int) + 1) = (i : Int) + 1 := by rw [IntKind.wrap_i64]; omega
    have hw2 : IntKind.i64.wrap ((xs.length : Int) + 1) = (xs.length : Int) + 1 := by rw [IntKind.wrap_i64]; omega
    have hgt : ¬ (c : Int) < (xs.length : Int) + 1 := by omega
    have HHO := Lib.hid hold
    have HON := Lib.hid hone
    have HCL := Lib.hid hcl
    have HTK := Lib.hid htk
    have HFL := Lib.hid hfl
    have HCH := Lib.hid hch
    have HG := Lib.hid hg'
    have HVB := Lib.hid hvb
    have HVS := Lib.hid hvs
    have HCP := Lib.hid hcapm
    have HV1 := Lib.hid h1
    have HHX := Lib.hid hx
    have HIT := Lib.hid hit
    have HVG := Lib.hid hvg
    clear hx hit hvg
    have HL := Lib.hid hl
    clear hl hold hone hcl hfl hch hg' hvb hvs hcapm h1 hcs htk hg hown hne hnc hcm
    have ht1 : cutA 6 (some ⟨g, 0, none⟩) c (i + 1) = some ⟨g, (i + 1) * 6, none⟩ := (cut_in (by omega)).trans (by rw [Nat.zero_add])
    have ht2 : cutA 6 (some ⟨g, 0, none⟩) c i = some ⟨g, i * 6, none⟩ := (cut_in (by omega)).trans (by rw [Nat.zero_add])
    go_enter Try.func60, Try.ntmps60
    go_wp2_with (first
      | ((with_reducible show wpList _ _ _ (Oper.mk _ (Op.slice _ _ _ _ _) _ _ _ _ :: _) _ _); refine st_slice T.sms i xs.length c ?_)
      | ((with_reducible show wpList _ _ _ (Oper.mk _ (Op.slice _ _ _ _ _) _ _ _ _ :: _) _ _); refine st_sliceTo T.sms (xs.length + 1) c ?_)
      | ((with_reducible show wpList _ _ _ (Oper.mk _ (Op.slice _ _ _ _ _) _ _ _ _ :: _) _ _); refine st_slice T.sms (i + 1) (xs.length + 1) c ?_; rw [ht1])
      | (simp only [hov]))
    apply wp_region_dag_tail 8 (X := Ext) (by kernel_rfl) (by kernel_rfl) (by kernel_rfl) (by decide) (fun _ _ _ => Ext.trans) (Ext.drew1 _)
    simp only [List.take_succ_cons, List.take_zero, List.drop_succ_cons, List.drop_zero]
    apply dag_val Ext.refl rfl (by intro W hW H; go_simp <;> rfl)
    simp only [Act.put, List.setIfInBounds_toArray, List.set_cons_zero, List.set_cons_succ]
    apply dag_val Ext.refl rfl (by intro W hW H; go_simp <;> rfl)
    simp only [Act.put, List.setIfInBounds_toArray, List.set_cons_zero, List.set_cons_succ]
    apply dag_val Ext.refl rfl (by intro W hW H; go_simp <;> rfl)
    simp only [Act.put, List.setIfInBounds_toArray, List.set_cons_zero, List.set_cons_succ]
    apply dag_val Ext.refl rfl (by intro W hW H; go_simp <;> rfl)
    simp only [Act.put, List.setIfInBounds_toArray, List.set_cons_zero, List.set_cons_succ]
    refine' dag_val Ext.refl rfl (fun W hW H => run_slice T.sms rfl rfl W (i + 1) (xs.length + 1) c) _
    rotate_left
    simp only [Act.put, List.setIfInBounds_toArray, List.set_cons_zero, List.set_cons_succ]
    apply dag_val Ext.refl rfl (by intro W hW H; go_simp <;> rfl)
    simp only [Act.put, List.setIfInBounds_toArray, List.set_cons_zero, List.set_cons_succ]
    apply dag_val Ext.refl rfl (by intro W hW H; go_simp <;> rfl)
    simp only [Act.put, List.setIfInBounds_toArray, List.set_cons_zero, List.set_cons_succ]
    refine' dag_val Ext.refl rfl (fun W hW H => run_slice T.sms rfl rfl W i (xs.length + 1) c) _
    rotate_left
    simp only [Act.put, List.setIfInBounds_toArray, List.set_cons_zero, List.set_cons_succ]
    refine dag_end fun W hW H => ?_
    clear H
    obtain ⟨w1, hr1, hc1, hg1⟩ := run_copy_put T.sms 3 (dLen := xs.length + 1 - (i + 1)) (dCap := c - (i + 1)) (o := (i + 1) * 6) (a := ⟨g, i * 6, none⟩) (sLen := xs.length + 1 - i) (sCap := c - i) (cs := css.flatten.drop (i * 6)) ((hW.block g (by have := (Array.getElem?_eq_some_iff.1 HG.out).1; exact this)).trans HG.out)
      (by rw [List.length_drop, HFL.out]; have e : min (xs.length + 1 - i) (xs.length + 1 - (i + 1)) = xs.length - i := by omega
          rw [e]; omega)
      (fun j u hu => by
        rw [List.getElem?_drop] at hu
        rw [add_lit]
        exact hW.cell (cells_cell HG.out (HHO.out _ _ hu)))
      (by rw [List.length_drop, HFL.out, HCL.out]; omega) (fun u hu => HON.out u (List.mem_of_mem_drop hu))
    have hl1 : (putIn C0 ((i + 1) * 6) (css.flatten.drop (i * 6))).length = C0.length := putIn_length (by rw [List.length_drop, HFL.out, HCL.out]; omega)
    have hvb1 : w1.heap[vb]? = some (.cells vs.toArray 64 (0, 0)) := by
      have h1 : vb < w.heap.size := (Array.getElem?_eq_some_iff.1 HVB.out).1
      rw [hg1.block vb (Nat.lt_of_lt_of_le h1 hW.size) (fun e => HVG.out (Option.some.inj e)), hW.block vb h1]
      exact HVB.out
    obtain ⟨w2, hr2, hc2, hg2⟩ := run_copy_put T.sms 3 (dLen := xs.length + 1 - i) (dCap := c - i) (o := i * 6) (a := ⟨vb, 0, none⟩) (sLen := 1) (sCap := 1) (cs := vs) hc1
      (by have e : min 1 (xs.length + 1 - i) = 1 := by omega
          rw [e, HVS.out])
      (fun j u hu => by rw [add_lit, Nat.zero_add]; exact cells_cell hvb1 hu)
      (by rw [hl1, HVS.out, HCL.out]; omega) HV1.out
    have HW := Lib.hid (((hW.grownBy (some g)).trans hg1).trans hg2)
    have HC2 := Lib.hid hc2
    refine wpList_run rfl (run_op_copy rfl (congrArg (Value.slice · (xs.length + 1 - (i + 1)) (c - (i + 1))) ht1) (congrArg (Value.slice · (xs.length + 1 - i) (c - i)) ht2) hr1) ?_
    clear hov hW hr1 hc1 hg1 hc2 hg2 hl1 hvb1
    go_wp2_with (first
      | ((with_reducible show wpList _ _ _ (Oper.mk _ (Op.slice _ _ _ _ _) _ _ _ _ :: _) _ _); refine st_slice T.sms i (xs.length + 1) c ?_; rw [ht2])
      | ((with_reducible show wpList _ _ _ (Oper.mk _ (Op.call { callee := Callee.builtin Builtin.copy, args := _, argTypes := _ }) _ _ _ _ :: _) _ _); refine wpList_run rfl (run_op_copy rfl rfl rfl hr2) ?_))
    go_ret
    refine ⟨_, rfl, ORow.inserted (v' := .slice (some ⟨g, 0, none⟩) (xs.length + 1) c) HCH.out HIT.out hi HVS.out HV1.out HHX.out HW.out (.inl rfl) ⟨?_, .inr ⟨g, c, _, rfl, hBg, HC2.out, hroom, HCP.out, ?_, ?_⟩⟩, HW.out, .inl rfl⟩
    · rw [List.length_append, List.length_append, List.length_take, List.length_drop, HFL.out, HVS.out]; omega
    · rw [List.size_toArray, putIn_length (by rw [putIn_length (by rw [List.length_drop, HFL.out, HCL.out]; omega), HVS.out, HCL.out]; omega), putIn_length (by rw [List.length_drop, HFL.out, HCL.out]; omega), HCL.out]
    · have e1 : (i + 1) * 6 = i * 6 + 6 := by omega
      have e2 : (xs.length + 1) * 6 = css.flatten.length + 6 := by rw [HFL.out]; omega
      rw [List.toList_toArray, e1, e2]
      exact shift_cells (by rw [HFL.out, HCL.out]; omega) (by rw [HFL.out]; omega) HVS.out (by rw [HFL.out]; exact HTK.out)
  case neg =>
    have hcn : c = xs.length := by omega
    subst hcn
    have hw2 : IntKind.i64.wrap ((xs.length : Int) + 1) = (xs.length : Int) + 1 := by rw [IntKind.wrap_i64]; omega
    have hw1 : IntKind.i64.wrap ((i : Int) + 1) = (i : Int) + 1 := by rw [IntKind.wrap_i64]; omega
    have hw3 : IntKind.i64.wrap ((xs.length : Int) + 1 - (i : Int)) = (xs.length : Int) + 1 - (i : Int) := by rw [IntKind.wrap_i64]; omega
    have HW4 : Hid ((xs.length : Int) + 1 - (i : Int) = ((xs.length + 1 - i : Nat) : Int)) := Lib.hid (by omega)
    have hgt : (xs.length : Int) < (xs.length : Int) + 1 := by omega
    have HHO := Lib.hid hold
    have HON := Lib.hid hone
    have HCL := Lib.hid hcl
    have HTK := Lib.hid htk
    have HFL := Lib.hid hfl
    have HCH := Lib.hid hch
    have HG := Lib.hid hg'
    have HVB := Lib.hid hvb
    have HVS := Lib.hid hvs
    have HCP := Lib.hid hcapm
    have HV1 := Lib.hid h1
    have HHX := Lib.hid hx
    have HIT := Lib.hid hit
    have HVG := Lib.hid hvg
    clear hx hit hvg
    have HL := Lib.hid hl
    clear hl
    clear hold hone hcl hfl hch hg' hvb hvs hcapm h1 hcs htk hg hown hne hnc hcm
    obtain ⟨w1, G, R0, hr0, hc0, hR1, hR2, hG1, hG2, hx0⟩ := run_grow_zeros T.sms Try.underlying3 29 (i := i) (c := xs.length) (k := xs.length + 1 - i) (m := xs.length + 1) HG.out HHO.out (by rw [HFL.out]; omega) (by omega) (by omega) (by omega) (by have := HL.out; omega) (by have := HL.out; simp only [maxLen]; omega)
    have ht1 : cutA 6 (some ⟨w.heap.size, 0, none⟩) G (i + 1) = some ⟨w.heap.size, (i + 1) * 6, none⟩ := (cut_in (by omega)).trans (by rw [Nat.zero_add])
    have ht2 : cutA 6 (some ⟨w.heap.size, 0, none⟩) G i = some ⟨w.heap.size, i * 6, none⟩ := (cut_in (by omega)).trans (by rw [Nat.zero_add])
    have ht3 : cutA 6 (some ⟨g, 0, none⟩) xs.length i = some ⟨g, i * 6, none⟩ := (cut_in (by omega)).trans (by rw [Nat.zero_add])
    have hvlt : vb < w.heap.size := (Array.getElem?_eq_some_iff.1 HVB.out).1
    have hglt : g < w.heap.size := (Array.getElem?_eq_some_iff.1 HG.out).1
    obtain ⟨w2, hr2, hc2, hg2⟩ := run_copy_put T.sms 3 (dLen := xs.length + 1 - i) (dCap := G - i) (o := i * 6) (a := ⟨vb, 0, none⟩) (sLen := 1) (sCap := 1) (cs := vs) hc0
      (by have e : min 1 (xs.length + 1 - i) = 1 := by omega
          rw [e, HVS.out])
      (fun j u hu => by rw [add_lit, Nat.zero_add]; exact hx0.cell (cells_cell HVB.out hu))
      (by rw [hR1, HVS.out]; omega) HV1.out
    have HR1 := Lib.hid hR1
    have HR2 := Lib.hid hR2
    have HC2 := Lib.hid hc2
    have HG2 := Lib.hid hg2
    have HX0 := Lib.hid hx0
    have HGM := Lib.hid hG2
    have HLT := Lib.hid hglt
    clear hR1 hR2 hc2 hg2 hx0 hG2 hc0 hvlt hglt
    go_enter Try.func60, Try.ntmps60
    go_wp2_with (first
      | ((with_reducible show wpList _ _ _ (Oper.mk _ (Op.slice _ _ _ _ _) _ _ _ _ :: _) _ _); refine st_slice T.sms i xs.length xs.length ?_)
      | ((with_reducible show wpList _ _ _ (Oper.mk _ (Op.slice _ _ _ _ _) _ _ _ _ :: _) _ _); refine st_sliceTo T.sms i xs.length ?_)
      | (at_builtin; refine Lib.wpList_append_run _ rfl _ _ _ _ rfl _ _ rfl (congrArg (Value.int .i64) HW4.out) _ _ hr0 ?_)
      | ((with_reducible show wpList _ _ _ (Oper.mk _ (Op.slice _ _ _ _ _) _ _ _ _ :: _) _ _); refine st_slice T.sms i (xs.length + 1) G ?_; rw [ht2])
      | ((with_reducible show wpList _ _ _ (Oper.mk _ (Op.call { callee := Callee.builtin Builtin.copy, args := _, argTypes := _ }) _ _ _ _ :: _) _ _); refine wpList_run rfl (run_op_copy rfl rfl rfl hr2) ?_))
    apply wp_region_dag_tail 8 (X := Ext) (by kernel_rfl) (by kernel_rfl) (by kernel_rfl) (by decide) (fun _ _ _ => Ext.trans) (Ext.drew1 _)
    simp only [List.take_succ_cons, List.take_zero, List.drop_succ_cons, List.drop_zero]
    apply dag_val Ext.refl rfl (by intro W hW H; go_simp <;> rfl)
    simp only [Act.put, List.setIfInBounds_toArray, List.set_cons_zero, List.set_cons_succ]
    apply dag_val Ext.refl rfl (by intro W hW H; go_simp <;> rfl)
    simp only [Act.put, List.setIfInBounds_toArray, List.set_cons_zero, List.set_cons_succ]
    apply dag_val Ext.refl rfl (by intro W hW H; go_simp <;> rfl)
    simp only [Act.put, List.setIfInBounds_toArray, List.set_cons_zero, List.set_cons_succ]
    apply dag_val Ext.refl rfl (by intro W hW H; go_simp <;> rfl)
    simp only [Act.put, List.setIfInBounds_toArray, List.set_cons_zero, List.set_cons_succ]
    refine' dag_val Ext.refl rfl (fun W hW H => run_slice T.sms rfl rfl W (i + 1) (xs.length + 1) G) _
    rotate_left
    simp only [Act.put, List.setIfInBounds_toArray, List.set_cons_zero, List.set_cons_succ]
    apply dag_val Ext.refl rfl (by intro W hW H; go_simp <;> rfl)
    simp only [Act.put, List.setIfInBounds_toArray, List.set_cons_zero, List.set_cons_succ]
    apply dag_val Ext.refl rfl (by intro W hW H; go_simp <;> rfl)
    simp only [Act.put, List.setIfInBounds_toArray, List.set_cons_zero, List.set_cons_succ]
    refine' dag_val Ext.refl rfl (fun W hW H => run_slice T.sms rfl rfl W i xs.length xs.length) _
    rotate_left
    simp only [Act.put, List.setIfInBounds_toArray, List.set_cons_zero, List.set_cons_succ]
    refine dag_end fun W hW H => ?_
    clear H hr0 hr2
    have hHG : w2.heap[g]? = some (.cells C0.toArray 64 (0, 0)) := by
      rw [HG2.out.block g (Nat.lt_of_lt_of_le HLT.out HX0.out.size) (fun e => by have := HLT.out; cases e; omega), HX0.out.block g HLT.out]
      exact HG.out
    obtain ⟨w3, hr3, hc3, hg3⟩ := run_copy_put T.sms 3 (dLen := xs.length + 1 - (i + 1)) (dCap := G - (i + 1)) (o := (i + 1) * 6) (a := ⟨g, i * 6, none⟩) (sLen := xs.length - i) (sCap := xs.length - i) (cs := css.flatten.drop (i * 6)) ((hW.block w.heap.size (Array.getElem?_eq_some_iff.1 HC2.out).1).trans HC2.out)
      (by rw [List.length_drop, HFL.out]; have e : min (xs.length - i) (xs.length + 1 - (i + 1)) = xs.length - i := by omega
          rw [e]; omega)
      (fun j u hu => by
        rw [List.getElem?_drop] at hu
        rw [add_lit]
        exact hW.cell (cells_cell hHG (HHO.out _ _ hu)))
      (by rw [putIn_length (by rw [HR1.out, HVS.out]; omega), List.length_drop, HFL.out, HR1.out]; omega) (fun u hu => HON.out u (List.mem_of_mem_drop hu))
    have HX3 := Lib.hid (Below.grown (Below.grown HX0.out HG2.out HX0.out.size (fun k e => by cases e; exact Nat.le_refl _) |>.trans (Ext.below hW (Nat.le_trans HX0.out.size HG2.out.size))) hg3 (Nat.le_trans (Nat.le_trans HX0.out.size HG2.out.size) hW.size) (fun k e => by cases e; exact Nat.le_refl _))
    have HC3 := Lib.hid hc3
    refine wpList_run rfl (run_op_copy rfl (congrArg (Value.slice · (xs.length + 1 - (i + 1)) (G - (i + 1))) ht1) (congrArg (Value.slice · (xs.length - i) (xs.length - i)) ht3) hr3) ?_
    clear hHG hr3 hc3 hg3 hW
    go_wp2_with fail
    go_ret
    have hXW : Ext w w3 := HX3.out
    refine ⟨_, rfl, ORow.inserted (v' := .slice (some ⟨w.heap.size, 0, none⟩) (xs.length + 1) G) HCH.out HIT.out hi HVS.out HV1.out HHX.out (hXW.grownBy _) (.inr ⟨_, rfl, Nat.le_refl _⟩) ⟨?_, .inr ⟨w.heap.size, G, _, rfl, hB, HC3.out, hG1, HGM.out, ?_, ?_⟩⟩, hXW.grownBy _, .inr ⟨_, rfl, Nat.le_refl _⟩⟩
    · rw [List.length_append, List.length_append, List.length_take, List.length_drop, HFL.out, HVS.out]; omega
    · rw [List.size_toArray, putIn_length (by rw [putIn_length (by rw [HR1.out, HVS.out]; omega), List.length_drop, HFL.out, HR1.out]; omega), putIn_length (by rw [HR1.out, HVS.out]; omega), HR1.out]
    · have e1 : (i + 1) * 6 = i * 6 + 6 := by omega
      have e2 : (xs.length + 1) * 6 = css.flatten.length + 6 := by rw [HFL.out]; omega
      rw [List.toList_toArray, e1, e2]
      exact fresh_cells (by rw [HFL.out, HR1.out]; omega) (by rw [HFL.out]; omega) HVS.out HR2.out
set_option maxHeartbeats 400000 in
theorem cloneW_any {α : Type} {R : World → List Value → α → Prop} {S : Nat → Prop} (v : Value) (xs : List α) (w : World) (h : SRow 6 R S w v xs) (hl : xs.length ≤ 100000) :
    Calls Try.prog 35 #[v] w fun e w' => ∃ v', e = .returned v' ∧ ORow 64 6 R S w' w.heap.size v' xs ∧ Ext w w' := by
  obtain ⟨p, c, rfl, hn, hc⟩ := h.slice
  have q22 : ∀ (w : World) (a : Option Addr) (n c n' c' : Nat), (binOp .eql 29 (.slice a n c) (.slice none n' c')).run Try.prog w = .ok (.bool a.isNone) w := fun w a n c n' c' => Lib.run_eql_slice_nil w _ _ a n c n' c' Try.underlying29
  have HL := Lib.hid hl
  clear hl
  cases p with
  | none =>
    have hnil : xs = [] := h.none_nil (by decide)
    subst hnil
    go_enter Try.func35, Try.ntmps35
    go_wp2
    go_ret
    exact ⟨_, rfl, ORow.nil _ _ _, Ext.refl _⟩
  | some ad =>
    have hx0 := Ext.alloc w (.cells #[] 64)
    have h1 : SRow 6 R (fun k => S k ∧ some k ≠ (Value.slice (some ⟨w.heap.size, 0, none⟩) 0 0).ownBlock) (w.alloc (.cells #[] 64)) (.slice (some ad) xs.length c) xs := by
      obtain ⟨css, p, c', k1, k2, k3, k4, k5, k6⟩ := h
      refine ⟨css, p, c', k1, k2, k3, k4, k5.ext hx0, k6.1, fun j cs x hcs hxx w' kk => ?_⟩
      refine k6.2 j cs x hcs hxx w' ⟨Nat.le_trans hx0.size kk.1, fun k hk hS => ?_⟩
      rw [kk.2 k (Nat.lt_of_lt_of_le hk hx0.size) ⟨hS, fun e => by cases e; exact absurd hk (Nat.lt_irrefl _)⟩]
      exact hx0.block k hk
    have hown : ORow 64 6 R S (w.alloc (.cells #[] 64)) w.heap.size (.slice (some ⟨w.heap.size, 0, none⟩) 0 0) ([] : List α) := ORow.lit0 S w (Nat.le_refl _)
    have HX := Lib.hid hx0
    clear hx0 h hn hc
    go_enter Try.func35, Try.ntmps35
    go_wp2_with (at_builtin; refine st_items T.sms hown h1 ?_ (by have := HL.out; simp [maxLen]; omega) (by have := HL.out; simp; omega) HX.out.size; intro v2 w2 ho2 hg2 hw2)
    go_ret
    exact ⟨_, rfl, by simpa using ho2, hown.grown HX.out hg2⟩
end Go.Proofs.Ytpejdompanhieaa
