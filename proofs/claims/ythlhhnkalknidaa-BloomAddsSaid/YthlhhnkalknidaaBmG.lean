/- What the program's functions of layer 33 compute: New, Put, Get. -/
import Derived.Test.YthlhhnkalknidaaBmJ
namespace Go.Proofs.Ythlhhnkalknidaa
open Go.RowKit

def getRaw (b : List UInt8) : SetB := ⟨textL 4096 (numR (numR ⟨b, 0⟩)), numN ⟨b, 0⟩, numN (numR ⟨b, 0⟩)⟩
def getS (b : List UInt8) : SetB × Int := if (putS (getRaw b)).2 = 0 ∧ (putS (getRaw b)).1 = b then (getRaw b, 0) else (⟨[], 0, 0⟩, 4)

set_option maxHeartbeats 2000000 in
theorem newset_any (size each : Int) (w : World) :
    Calls Try.prog 19 #[.int .i64 size, .int .i64 each] w fun e w' => ∃ v', e = .returned (.tuple #[stv v' (newS size each).1.each (newS size each).1.n, .int .i64 (newS size each).2]) ∧ BV w' v' (newS size each).1.bits ∧ Ext w w' := by
  obtain ⟨N, hN⟩ : ∃ N, newS size each = N := ⟨_, rfl⟩
  rw [hN]
  unfold newS at hN
  have ho0 : ObjAt (w.alloc (.cells #[.slice none 0 0, .int .i64 0, .int .i64 0] 27)) w.heap.size 27 nilS := heap_alloc_new w _
  have hx0 := Ext.alloc w (.cells #[.slice none 0 0, .int .i64 0, .int .i64 0] 27)
  by_cases hr : 0 ≤ size ∧ size ≤ 4096
  case neg =>
    rw [if_neg (fun h => hr ⟨h.1, h.2.1⟩)] at hN
    subst hN
    rcases (by omega : size < 0 ∨ (¬ size < 0 ∧ 4096 < size)) with h1 | ⟨h1, h2⟩
    all_goals
      clear hr
      go_enter Try.func19, Try.ntmps19
      go_wp2_with fail
      refine bodyPost_ret (st_results2 rfl _ _ (w.heap.size) _ _ _ rfl ho0) rfl ?_
      exact ⟨_, rfl, BV.nil _, hx0⟩
  obtain ⟨m, rfl⟩ : ∃ m : Nat, size = (m : Int) := ⟨size.toNat, by omega⟩
  rw [Int.toNat_natCast] at hN
  have h1 : ¬ (m : Int) < 0 := by omega
  have h2 : ¬ 4096 < (m : Int) := by omega
  have hm : m ≤ 4096 := by omega
  have hsz : (w.alloc (.cells #[.slice none 0 0, .int .i64 0, .int .i64 0] 27)).heap.size = w.heap.size + 1 := by simp
  have HSZ := Lib.hid hsz
  clear hsz
  have C1 := fun (w0 : Nat) (w : World) (h : BV w (.slice (some ⟨w0, 0, none⟩) m m) (List.replicate m 0)) => check_any (.slice (some ⟨w0, 0, none⟩) m m) (List.replicate m 0) each 0 w h
  by_cases hg : goodB ⟨List.replicate m 0, each, 0⟩
  · rw [if_pos ⟨hr.1, hr.2, hg⟩] at hN
    subst hN
    rw [checkB_ok hg] at C1
    clear hg hr
    go_enter Try.func19, Try.ntmps19
    go_wp2_with (first
      | ((with_reducible show wpList _ _ _ (Oper.mk _ (Op.makeSlice _ _ _) _ _ _ _ :: _) _ _); refine wpList_make_bytes T.bytes (n := m) rfl rfl rfl rfl (by omega) ?_; intro w1 hf1 hx1
         rw [HSZ.out] at hf1
         have hx2 := hx1.trans (Ext.alloc w1 (.cells #[.slice (some ⟨w.heap.size + 1, 0, none⟩) m m, .int .i64 each, .int .i64 0] 27))
         have hf2 := hf1.keep (Ext.alloc w1 (.cells #[.slice (some ⟨w.heap.size + 1, 0, none⟩) m m, .int .i64 each, .int .i64 0] 27))
         have ho2 : ObjAt (w1.alloc (.cells #[.slice (some ⟨w.heap.size + 1, 0, none⟩) m m, .int .i64 each, .int .i64 0] 27)) w1.heap.size 27 [.slice (some ⟨w.heap.size + 1, 0, none⟩) m m, .int .i64 each, .int .i64 0] := heap_alloc_new w1 _)
      | (go_at_call 17; refine (C1 (w.heap.size + 1) (w1.alloc (.cells #[.slice (some ⟨w.heap.size + 1, 0, none⟩) m m, .int .i64 each, .int .i64 0] 27)) hf2.view).mono ?_; rintro e w2 ⟨rfl, hx3⟩
         obtain ⟨hd0, hd1, hd2⟩ := (ho2.ext hx3).cells3
         obtain ⟨⟨hm0, hk0, hm1, hk1, hm2, hk2⟩, ho6⟩ := ((ho0.ext hx2).ext hx3).stored3 (.slice (some ⟨w.heap.size + 1, 0, none⟩) m m) (.int .i64 each) (.int .i64 0)))
    refine bodyPost_ret (st_results2 rfl _ _ (w.heap.size) _ _ _ rfl ho6) rfl ?_
    have hne : (Value.slice (some ⟨w.heap.size + 1, 0, none⟩) m m).ownBlock ≠ some w.heap.size := fun e => by have e' : w.heap.size + 1 = _ := Option.some.inj e; omega
    exact ⟨_, rfl, ((hf2.keep hx3).far3 hne _ _ _).view, ((hx0.trans hx2).trans hx3).set3 (Nat.le_refl _) _ _ _⟩
  · rw [if_neg (fun h => hg h.2.2)] at hN
    subst hN
    rw [checkB_bad hg] at C1
    clear hg hr
    go_enter Try.func19, Try.ntmps19
    go_wp2_with (first
      | ((with_reducible show wpList _ _ _ (Oper.mk _ (Op.makeSlice _ _ _) _ _ _ _ :: _) _ _); refine wpList_make_bytes T.bytes (n := m) rfl rfl rfl rfl (by omega) ?_; intro w1 hf1 hx1
         rw [HSZ.out] at hf1
         have hx2 := hx1.trans (Ext.alloc w1 (.cells #[.slice (some ⟨w.heap.size + 1, 0, none⟩) m m, .int .i64 each, .int .i64 0] 27))
         have hf2 := hf1.keep (Ext.alloc w1 (.cells #[.slice (some ⟨w.heap.size + 1, 0, none⟩) m m, .int .i64 each, .int .i64 0] 27))
         have ho2 : ObjAt (w1.alloc (.cells #[.slice (some ⟨w.heap.size + 1, 0, none⟩) m m, .int .i64 each, .int .i64 0] 27)) w1.heap.size 27 [.slice (some ⟨w.heap.size + 1, 0, none⟩) m m, .int .i64 each, .int .i64 0] := heap_alloc_new w1 _)
      | (go_at_call 17; refine (C1 (w.heap.size + 1) (w1.alloc (.cells #[.slice (some ⟨w.heap.size + 1, 0, none⟩) m m, .int .i64 each, .int .i64 0] 27)) hf2.view).mono ?_; rintro e w2 ⟨rfl, hx3⟩
         obtain ⟨hd0, hd1, hd2⟩ := (ho2.ext hx3).cells3
         obtain ⟨⟨hm0, hk0, hm1, hk1, hm2, hk2⟩, ho6⟩ := ((ho0.ext hx2).ext hx3).stored3 (.slice none 0 0) (.int .i64 0) (.int .i64 0)))
    refine bodyPost_ret (st_results2 rfl _ _ (w.heap.size) _ _ _ rfl ho6) rfl ?_
    exact ⟨_, rfl, BV.nil _, ((hx0.trans hx2).trans hx3).set3 (Nat.le_refl _) _ _ _⟩

theorem putV_length (n : Int) : (putV n).length ≤ 10 := (vb_length _).2
set_option maxHeartbeats 2000000 in
theorem putset_any (v : Value) (l : List UInt8) (each n : Int) (w : World) (h : BV w v l) (hl : l.length ≤ 100000) (hb1 : -9223372036854775808 ≤ each) (hb2 : each ≤ 9223372036854775807) (hb3 : -9223372036854775808 ≤ n) (hb4 : n ≤ 9223372036854775807) :
    Calls Try.prog 26 #[stv v each n] w fun e w' => ∃ v', e = .returned (.tuple #[v', .int .i64 (putS ⟨l, each, n⟩).2]) ∧ FB w' w.heap.size v' (putS ⟨l, each, n⟩).1 ∧ Ext w w' := by
  obtain ⟨p, c, rfl, hn, hc, hs⟩ := id h
  have hx0 := Ext.alloc w (.cells #[Value.slice p l.length c, .int .i64 each, .int .i64 n] 27)
  have ho0 : ObjAt (w.alloc (.cells #[Value.slice p l.length c, .int .i64 each, .int .i64 n] 27)) w.heap.size 27 [.slice p l.length c, .int .i64 each, .int .i64 n] := heap_alloc_new w _
  have C1 := check_any _ l each n _ (h.ext hx0)
  obtain ⟨J, hJ⟩ : ∃ J, putS ⟨l, each, n⟩ = J := ⟨_, rfl⟩
  rw [hJ]
  unfold putS at hJ
  by_cases hg : goodB ⟨l, each, n⟩
  case neg =>
    rw [if_neg hg] at hJ
    subst hJ
    rw [checkB_bad hg] at C1
    clear hg
    go_enter Try.func26, Try.ntmps26
    go_wp2_with (go_at_call 17; refine C1.mono ?_; rintro e w1 ⟨rfl, hx1⟩)
    go_ret2
    exact ⟨_, rfl, FB.nil _ _, hx0.trans hx1⟩
  rw [if_pos hg] at hJ
  subst hJ
  rw [checkB_ok hg] at C1
  have p1 := putV_length each
  have p2 := putV_length n
  have p3 := putV_length (l.length : Int)
  have HLEN : Hid ((putV each ++ putV n).length + (textV l).length ≤ 140737488355328) := by
    show _ ≤ _
    simp only [textV, List.length_append]; omega
  have H1 := Lib.hid hb1
  have H2 := Lib.hid hb2
  have H3 := Lib.hid hb3
  have H4 := Lib.hid hb4
  clear hg hb1 hb2 hb3 hb4
  have hxs : (w.alloc (.cells #[Value.slice p l.length c, .int .i64 each, .int .i64 n] 27)).heap.size = w.heap.size + 1 := by simp
  have HXS := Lib.hid hxs
  clear hxs
  go_enter Try.func26, Try.ntmps26
  go_wp2_with (go_at_call 17; refine C1.mono ?_; rintro e w1 ⟨rfl, hx1⟩
               obtain ⟨hc0, hc1, hc2⟩ := (ho0.ext hx1).cells3)
  have hs1 := hx1.size
  rw [HXS.out] at hs1
  apply wp_region_dag_tail 6 (X := Ext) (by kernel_rfl) (by kernel_rfl) (by kernel_rfl) (by decide) (fun _ _ _ => Ext.trans) (Ext.drew1 _)
  simp only [List.take_succ_cons, List.take_zero, List.drop_succ_cons, List.drop_zero]
  apply dag_val Ext.refl rfl (by intro W hW H; go_simp <;> rfl)
  simp only [Act.put, List.setIfInBounds_toArray, List.set_cons_zero, List.set_cons_succ]
  apply dag_val Ext.refl rfl (by intro W hW H; have hq := hW.cell hc1; go_simp <;> rfl)
  simp only [Act.put, List.setIfInBounds_toArray, List.set_cons_zero, List.set_cons_succ]
  refine' dag_calls (fun v W => FB W (w.heap.size + 1) v (putV each)) (FB.stable _ _) rfl (by intro W; go_simp <;> rfl) (fun W hW H => (put_any each H1.out H2.out W).mono (by rintro e w' ⟨v3, rfl, hf3, hx3⟩; exact ⟨v3, rfl, FB.base hf3 (Nat.le_trans hs1 hW.size), hx3⟩)) (fun v1 => _)
  rotate_left
  simp only [Act.put, List.setIfInBounds_toArray, List.set_cons_zero, List.set_cons_succ]
  apply dag_val Ext.refl rfl (by intro W hW H; go_simp <;> rfl)
  simp only [Act.put, List.setIfInBounds_toArray, List.set_cons_zero, List.set_cons_succ]
  apply dag_val Ext.refl rfl (by intro W hW H; have hq := hW.cell hc2; go_simp <;> rfl)
  simp only [Act.put, List.setIfInBounds_toArray, List.set_cons_zero, List.set_cons_succ]
  refine' dag_calls (fun v W => FB W (w.heap.size + 1) v (putV n)) (FB.stable _ _) rfl (by intro W; go_simp <;> rfl) (fun W hW H => (put_any n H3.out H4.out W).mono (by rintro e w' ⟨v3, rfl, hf3, hx3⟩; exact ⟨v3, rfl, FB.base hf3 (Nat.le_trans hs1 hW.size), hx3⟩)) (fun v2 => _)
  rotate_left
  simp only [Act.put, List.setIfInBounds_toArray, List.set_cons_zero, List.set_cons_succ]
  refine dag_end fun W hW H => ?_
  have hf1 : FB W (w.heap.size + 1) v1 (putV each) := H 2
  have hf2 : FB W (w.heap.size + 1) v2 (putV n) := H 5
  clear H
  have hxW := (hx0.trans hx1).trans hW
  have hsW := hW.size
  have hoW := (ho0.ext hx1).ext hW
  have hne : some w.heap.size ≠ v1.ownBlock := fun e => by have := (hf1.lt _ e.symm).1; omega
  go_wp2_with (first
    | (at_builtin; have hq := hx5; refine st_append T.bytes (hf4.keep hx5) hf5.view ?_ HLEN.out (by have := hx4.size; have := hx5.size; omega); intro v6 w6 hf6 hg6 hw6)
    | (at_builtin; refine st_append T.bytes hf1 hf2.view ?_ (by omega) (by omega); intro v4 w4 hf4 hg4 hw4
       have hx4 := hxW.append (FB.base hf1 (Nat.le_succ _)) hg4
       have hs4 := hg4.size
       obtain ⟨hd0, hd1, hd2⟩ := (hoW.kept hg4 hne).cells3)
    | ((with_reducible show wpList _ _ _ (Oper.mk _ (Op.convert _ _ _) _ _ _ _ :: _) _ _); refine st_string T.bytes T.u8 T.str (h.ext hx4) ?_)
    | (go_at_call 39; refine (text_any l (by omega) _).mono ?_; rintro e w5 ⟨v5, rfl, hf5, hx5⟩))
  go_ret2
  have hx6 := (hx4.trans hx5).append (FB.base (hf4.keep hx5) (Nat.le_succ _)) hg6
  exact ⟨_, rfl, FB.base hf6 (Nat.le_succ _), hx6⟩
end Go.Proofs.Ythlhhnkalknidaa
