/- What the document's functions of layer 33 compute: Put, Get. -/
import Derived.Test.YthlhhnkalknidaaBmF
import Derived.Test.YthlhhnkalknidaaDagF
namespace Go.Proofs.Ythlhhnkalknidaa
open Go.RowKit

theorem T.rstInfo : (Try.prog.info? 24).map (·.size) = some 3 := by kernel_rfl
theorem rst_results {fn : Func} {p : Tmp} (h : fn.results = #[.cell p 24]) (tmps : Array Value) (w : World) (g : Nat) (x y z : Value)
    (hp : tmps.getD p undef = .pointer (some ⟨g, 0, none⟩)) (hg : ObjAt w g 24 [x, y, z]) :
    (results fn tmps).run Try.prog w = .ok (.agg #[x, y, z]) w :=
  results_cell_row h tmps w g _ #[x, y, z] (0, 0) _ hp hg Try.underlying24 rfl T.rstInfo
theorem rst_results2 {fn : Func} {p u : Tmp} (h : fn.results = #[.cell p 24, .tmp u]) (tmps : Array Value) (w : World) (g : Nat) (x y z : Value)
    (hp : tmps.getD p undef = .pointer (some ⟨g, 0, none⟩)) (hg : ObjAt w g 24 [x, y, z]) :
    (results fn tmps).run Try.prog w = .ok (.tuple #[.agg #[x, y, z], tmps.getD u undef]) w :=
  results_row_tmp h tmps w g _ #[x, y, z] _ hp hg Try.underlying24 rfl T.rstInfo

set_option maxHeartbeats 2000000 in
theorem rputset_any (v : Value) (l : List UInt8) (each n : Int) (w : World) (h : BV w v l) (hl : l.length ≤ 100000) (hb1 : -9223372036854775808 ≤ each) (hb2 : each ≤ 9223372036854775807) (hb3 : -9223372036854775808 ≤ n) (hb4 : n ≤ 9223372036854775807) :
    Calls Try.prog 27 #[stv v each n] w fun e w' => ∃ v', e = .returned (.tuple #[v', .int .i64 (putS ⟨l, each, n⟩).2]) ∧ FB w' w.heap.size v' (putS ⟨l, each, n⟩).1 ∧ Ext w w' := by
  obtain ⟨p, c, rfl, hn, hc, hs⟩ := id h
  have hx0 := Ext.alloc w (.cells #[Value.slice p l.length c, .int .i64 each, .int .i64 n] 24)
  have ho0 : ObjAt (w.alloc (.cells #[Value.slice p l.length c, .int .i64 each, .int .i64 n] 24)) w.heap.size 24 [.slice p l.length c, .int .i64 each, .int .i64 n] := heap_alloc_new w _
  have C1 := rcheck_any _ l each n _ (h.ext hx0)
  obtain ⟨J, hJ⟩ : ∃ J, putS ⟨l, each, n⟩ = J := ⟨_, rfl⟩
  rw [hJ]
  unfold putS at hJ
  by_cases hg : goodB ⟨l, each, n⟩
  case neg =>
    rw [if_neg hg] at hJ
    subst hJ
    rw [checkB_bad hg] at C1
    clear hg
    go_enter Try.func27, Try.ntmps27
    go_wp2_with (go_at_call 18; refine C1.mono ?_; rintro e w1 ⟨rfl, hx1⟩)
    go_ret2
    exact ⟨_, rfl, FB.nil _ _, hx0.trans hx1⟩
  rw [if_pos hg] at hJ
  subst hJ
  rw [checkB_ok hg] at C1
  have p1 := putV_length each
  have p2 := putV_length n
  have p3 := putV_length (l.length : Int)
  have HLEN : Hid ((putV each ++ putV n).length + (textV l).length ≤ 140737488355328) := by
    show _ ≤ _
    simp only [textV, List.length_append]; omega
  have H1 := Lib.hid hb1
  have H2 := Lib.hid hb2
  have H3 := Lib.hid hb3
  have H4 := Lib.hid hb4
  clear hg hb1 hb2 hb3 hb4
  go_enter Try.func27, Try.ntmps27
  go_wp2_with (go_at_call 18; refine C1.mono ?_; rintro e w1 ⟨rfl, hx1⟩
               obtain ⟨hc0, hc1, hc2⟩ := (ho0.ext hx1).cells3)
  have hxw := hx0.trans hx1
  apply wp_region_dagF 12 (by kernel_rfl) (by kernel_rfl) (by kernel_rfl) (by decide)
  simp only [List.take_succ_cons, List.take_zero, List.drop_succ_cons, List.drop_zero]
  apply dagf_val rfl (by intro W hW H; go_simp <;> rfl)
  simp only [Act.put, List.setIfInBounds_toArray, List.set_cons_zero, List.set_cons_succ]
  apply dagf_val rfl (by intro W hW H; have hq := hW.cell hc1; go_simp <;> rfl)
  simp only [Act.put, List.setIfInBounds_toArray, List.set_cons_zero, List.set_cons_succ]
  refine' dagf_calls (fun v W => FB W w1.heap.size v (putV each)) (FB.res _ _) rfl (by intro W; go_simp <;> rfl) (fun W hW H => (rput_any each H1.out H2.out W).mono (by rintro e w' ⟨v3, rfl, hf3, hx3⟩; exact ⟨v3, rfl, FB.base hf3 hW.size, hf3.fresh, hx3⟩)) (fun v1 => _)
  rotate_left
  simp only [Act.put, List.setIfInBounds_toArray, List.set_cons_zero, List.set_cons_succ]
  apply dagf_val rfl (by intro W hW H; go_simp <;> rfl)
  simp only [Act.put, List.setIfInBounds_toArray, List.set_cons_zero, List.set_cons_succ]
  apply dagf_val rfl (by intro W hW H; have hq := hW.cell hc2; go_simp <;> rfl)
  simp only [Act.put, List.setIfInBounds_toArray, List.set_cons_zero, List.set_cons_succ]
  refine' dagf_calls (fun v W => FB W w1.heap.size v (putV n)) (FB.res _ _) rfl (by intro W; go_simp <;> rfl) (fun W hW H => (rput_any n H3.out H4.out W).mono (by rintro e w' ⟨v3, rfl, hf3, hx3⟩; exact ⟨v3, rfl, FB.base hf3 hW.size, hf3.fresh, hx3⟩)) (fun v2 => _)
  rotate_left
  simp only [Act.put, List.setIfInBounds_toArray, List.set_cons_zero, List.set_cons_succ]
  refine' dagf_app 2 v1 _ (fun v W => FB W w1.heap.size v (putV each ++ putV n)) (FB.res _ _) (by kernel_rfl) (by repeat (first | exact List.mem_cons_self | refine mem_keep ?_ (by decide) | apply List.mem_cons_of_mem)) rfl (fun W hW H => fapp_bytes T.bytes rfl rfl rfl (H (2, v1, _) (by repeat (first | exact List.mem_cons_self | refine mem_keep ?_ (by decide) | apply List.mem_cons_of_mem)) (by kernel_rfl)) (FB.view (H (5, v2, _) (by repeat (first | exact List.mem_cons_self | refine mem_keep ?_ (by decide) | apply List.mem_cons_of_mem)) (by kernel_rfl))) (by omega) hW.size) (fun v3 => _)
  rotate_left
  simp only [Act.put, List.setIfInBounds_toArray, List.set_cons_zero, List.set_cons_succ]
  apply dagf_val rfl (by intro W hW H; go_simp <;> rfl)
  simp only [Act.put, List.setIfInBounds_toArray, List.set_cons_zero, List.set_cons_succ]
  apply dagf_val rfl (by intro W hW H; have hq := hW.cell hc0; go_simp <;> rfl)
  simp only [Act.put, List.setIfInBounds_toArray, List.set_cons_zero, List.set_cons_succ]
  refine' dagf_val rfl (fun W hW H => run_op_bytes_string T.bytes T.u8 T.str rfl rfl (v := .slice p l.length c) (l := l) ((h.ext hxw).ext hW)) _
  rotate_left
  simp only [Act.put, List.setIfInBounds_toArray, List.set_cons_zero, List.set_cons_succ]
  refine' dagf_calls (fun v W => FB W w1.heap.size v (textV l)) (FB.res _ _) rfl (by intro W; go_simp <;> rfl) (fun W hW H => (rtextp_any l (by omega) W).mono (by rintro e w' ⟨v3, rfl, hf3, hx3⟩; exact ⟨v3, rfl, FB.base hf3 hW.size, hf3.fresh, hx3⟩)) (fun v4 => _)
  rotate_left
  simp only [Act.put, List.setIfInBounds_toArray, List.set_cons_zero, List.set_cons_succ]
  refine' dagf_app 6 v3 _ (fun v W => FB W w1.heap.size v (putV each ++ putV n ++ textV l)) (FB.res _ _) (by kernel_rfl) (by repeat (first | exact List.mem_cons_self | refine mem_keep ?_ (by decide) | apply List.mem_cons_of_mem)) rfl (fun W hW H => fapp_bytes T.bytes rfl rfl rfl (H (6, v3, _) (by repeat (first | exact List.mem_cons_self | refine mem_keep ?_ (by decide) | apply List.mem_cons_of_mem)) (by kernel_rfl)) (FB.view (H (10, v4, _) (by repeat (first | exact List.mem_cons_self | refine mem_keep ?_ (by decide) | apply List.mem_cons_of_mem)) (by kernel_rfl))) HLEN.out hW.size) (fun v5 => _)
  rotate_left
  simp only [Act.put, List.setIfInBounds_toArray, List.set_cons_zero, List.set_cons_succ]
  refine dagf_end fun W hW H HA => ?_
  have hf5 : FB W w1.heap.size v5 (putV each ++ putV n ++ textV l) := H (11, v5, _) (by repeat (first | exact List.mem_cons_self | refine mem_keep ?_ (by decide) | apply List.mem_cons_of_mem))
  clear H
  go_wp2_with fail
  go_ret2
  exact ⟨_, rfl, FB.base hf5 hxw.size, hxw.trans hW⟩
end Go.Proofs.Ythlhhnkalknidaa
