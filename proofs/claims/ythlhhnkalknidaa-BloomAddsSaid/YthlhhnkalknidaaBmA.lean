/- What the program's functions of layer 33 compute: Add. -/
import Derived.Test.YthlhhnkalknidaaBmH
namespace Go.Proofs.Ythlhhnkalknidaa
open Go.RowKit

theorem or_pow8 : ∀ c : Fin 256, ∀ k : Fin 8, bits BinOp.or IntKind.u8 (c.val : Int) (IntKind.u8.wrap (2 ^ k.val)) = ((UInt8.ofNat c.val ||| pow8 k.val).toNat : Int) := by decide +kernel
theorem or_bit (c : UInt8) (r : Nat) (h : r < 8) : bits BinOp.or IntKind.u8 (c.toNat : Int) (IntKind.u8.wrap (2 ^ r)) = ((c ||| pow8 r).toNat : Int) := by
  have := or_pow8 ⟨c.toNat, c.toNat_lt⟩ ⟨r, h⟩
  simpa [ofNat_toNat8] using this
theorem setBits_step (l : List UInt8) (ps : List Nat) {j : Nat} (hj : j < ps.length) : setBits l (ps.take (j + 1)) = setBit (setBits l (ps.take j)) ps[j] := by
  unfold setBits
  rw [List.take_succ_eq_append_getElem hj, List.foldl_append]
  rfl
set_option maxHeartbeats 4000000 in
theorem add_any (v : Value) (l : List UInt8) (each n : Int) (key : List UInt8) (w : World) (h : BV w v l) (hk : key.length ≤ maxLen) (hl0 : l.length ≤ 100000) :
    Calls Try.prog 12 #[stv v each n, .string ⟨key.toArray⟩] w fun e w' => ∃ v', e = .returned (stv v' (addB ⟨l, each, n⟩ key).each (addB ⟨l, each, n⟩ key).n) ∧ BV w' v' (addB ⟨l, each, n⟩ key).bits ∧ Ext w w' := by
  obtain ⟨p, c, rfl, hn, hc, hs⟩ := id h
  have hx0 := (Ext.alloc w (.cells #[Value.slice p l.length c, .int .i64 each, .int .i64 n] 27)).trans (Ext.alloc _ (.cells #[Value.slice none 0 0, .int .i64 0, .int .i64 0] 27))
  have ho1 : ObjAt ((w.alloc (.cells #[Value.slice p l.length c, .int .i64 each, .int .i64 n] 27)).alloc (.cells #[Value.slice none 0 0, .int .i64 0, .int .i64 0] 27)) w.heap.size 27 [.slice p l.length c, .int .i64 each, .int .i64 n] := heap_alloc2_old w _ _
  have ho2 : ObjAt ((w.alloc (.cells #[Value.slice p l.length c, .int .i64 each, .int .i64 n] 27)).alloc (.cells #[Value.slice none 0 0, .int .i64 0, .int .i64 0] 27)) (w.heap.size + 1) 27 [.slice none 0 0, .int .i64 0, .int .i64 0] := heap_alloc2_new w _ _
  have O1 := own_any _ l each n _ (h.ext hx0) (by omega)
  have hsz : ((w.alloc (.cells #[Value.slice p l.length c, .int .i64 each, .int .i64 n] 27)).alloc (.cells #[Value.slice none 0 0, .int .i64 0, .int .i64 0] 27)).heap.size = w.heap.size + 2 := by simp
  rw [hsz] at O1
  have HSZ := Lib.hid hsz
  clear hsz
  by_cases hg : goodB ⟨l, each, n⟩
  case neg =>
    have e1 : addB ⟨l, each, n⟩ key = ⟨l, each, n⟩ := by unfold addB; rw [if_neg hg]
    rw [e1]
    have C1 := fun w h => check_any (.slice p l.length c) l each n w h
    rw [checkB_bad hg] at C1
    clear hg e1
    go_enter Try.func12, Try.ntmps12
    go_wp2_with (first
      | (go_at_call 32; refine O1.mono ?_; rintro e w1 ⟨v1, rfl, hf1, hx1⟩
         obtain ⟨p1, c1, rfl, _, _, _⟩ := hf1.slice
         have hs1 := hx1.size
         rw [HSZ.out] at hs1
         have hx2 := hx1.trans (Ext.alloc w1 (.cells #[.slice p1 l.length c1, .int .i64 each, .int .i64 n] 27))
         have hf2 := hf1.keep (Ext.alloc w1 (.cells #[.slice p1 l.length c1, .int .i64 each, .int .i64 n] 27))
         have ho3 : ObjAt (w1.alloc (.cells #[.slice p1 l.length c1, .int .i64 each, .int .i64 n] 27)) w1.heap.size 27 [.slice p1 l.length c1, .int .i64 each, .int .i64 n] := heap_alloc_new w1 _
         have h1 := ho1.ext hx1
         obtain ⟨hc0, hc1, hc2⟩ := h1.cells3
         obtain ⟨hd0, hd1, hd2⟩ := (ho1.ext hx2).cells3)
      | (go_at_call 17; refine (C1 _ (h.ext (hx0.trans hx2))).mono ?_; rintro e w2 ⟨rfl, hx3⟩
         obtain ⟨he0, he1, he2⟩ := (ho3.ext hx3).cells3
         obtain ⟨⟨hg0, hk0, hg1, hk1, hg2, hk2⟩, ho6⟩ := ((ho2.ext hx2).ext hx3).stored3 (.slice p1 l.length c1) (.int .i64 each) (.int .i64 n)))
    refine bodyPost_ret (st_results rfl _ _ (w.heap.size + 1) _ _ _ rfl ho6) rfl ?_
    have hne : (Value.slice p1 l.length c1).ownBlock ≠ some (w.heap.size + 1) := fun e => by have := (hf1.lt _ e).1; omega
    exact ⟨_, rfl, ((hf2.keep hx3).far3 hne _ _ _).view, ((hx0.trans hx2).trans hx3).set3 (by omega) _ _ _⟩
  have hgl := hg
  unfold goodB at hgl
  simp only at hgl
  have e1 : addB ⟨l, each, n⟩ key = ⟨setBits l (placesB ⟨l, each, n⟩ key), each, min (n + 1) 1099511627776⟩ := by unfold addB; rw [if_pos hg]
  rw [e1]
  have C1 := fun w h => check_any (.slice p l.length c) l each n w h
  rw [checkB_ok hg] at C1
  have P1 := fun w h => places_any (.slice p l.length c) l each n key w h hk
  have hlt := placesB_lt ⟨l, each, n⟩ key
  have hfew := places_few ⟨l, each, n⟩ key
  simp only at hlt
  generalize placesB ⟨l, each, n⟩ key = ps at *
  obtain ⟨M, hM⟩ : ∃ M, min (n + 1) 1099511627776 = M := ⟨_, rfl⟩
  rw [hM]
  have HM := Lib.hid hM
  obtain ⟨g1, g2, g3, g4, g5, g6⟩ := hgl
  have hn0 : n ≤ 9223372036854775000 := by omega
  have hn1 : -9223372036854775000 ≤ n := by omega
  have HLT := Lib.hid hlt
  clear hg e1 hM hlt
  have hnl : (ni ps).length = ps.length := ni_length ps
  have HNL := Lib.hid hnl
  clear hnl
  go_enter Try.func12, Try.ntmps12
  go_wp2_with (first
    | (go_at_call 32; refine O1.mono ?_; rintro e w1 ⟨v1, rfl, hf1, hx1⟩
       obtain ⟨b1, c1, e5, _, _, hb1, _⟩ := hf1.head (by intro e; rw [e] at g1; simp at g1)
       subst e5
       have hs1 := hx1.size
       rw [HSZ.out] at hs1
       have hx2 := hx1.trans (Ext.alloc w1 (.cells #[.slice (some ⟨b1, 0, none⟩) l.length c1, .int .i64 each, .int .i64 n] 27))
       have hf2 := hf1.keep (Ext.alloc w1 (.cells #[.slice (some ⟨b1, 0, none⟩) l.length c1, .int .i64 each, .int .i64 n] 27))
       have ho3 : ObjAt (w1.alloc (.cells #[.slice (some ⟨b1, 0, none⟩) l.length c1, .int .i64 each, .int .i64 n] 27)) w1.heap.size 27 [.slice (some ⟨b1, 0, none⟩) l.length c1, .int .i64 each, .int .i64 n] := heap_alloc_new w1 _
       have h1 := ho1.ext hx1
       obtain ⟨hc0, hc1, hc2⟩ := h1.cells3
       obtain ⟨hd0, hd1, hd2⟩ := (ho1.ext hx2).cells3)
    | (go_at_call 17; refine (C1 _ (h.ext (hx0.trans hx2))).mono ?_; rintro e w2 ⟨rfl, hx3⟩
       obtain ⟨he0, he1, he2⟩ := ((ho1.ext hx2).ext hx3).cells3)
    | (go_at_call 10; refine (P1 _ (h.ext ((hx0.trans hx2).trans hx3))).mono ?_; rintro e w3 ⟨v3, rfl, hr3, hx4⟩
       obtain ⟨p3, c3, e6, hc31, hc32⟩ := (IO.view hr3).slice
       rw [HNL.out] at e6 hc31
       subst e6))
  have hxa : Ext w w3 := ((hx0.trans hx2).trans hx3).trans hx4
  have hfa := (hf2.keep hx3).keep hx4
  have hoa := (ho3.ext hx3).ext hx4
  have hob := ((ho2.ext hx2).ext hx3).ext hx4
  have hs2 := hx3.size
  have hbs := hf1.block.2.1
  have hs3 := hx2.size
  have hw1 : (w1.alloc (.cells #[.slice (some ⟨b1, 0, none⟩) l.length c1, .int .i64 each, .int .i64 n] 27)).heap.size = w1.heap.size + 1 := by simp
  rw [hw1] at hs2
  clear hc0 hc1 hc2 hd0 hd1 hd2 he0 he1 he2 C1 P1 O1 hw1
  unfold maxLen at hc32
  go_loopg [18] (ps.length) (fun k s18 wr => ∃ j : Nat, s18 = .int .i64 j ∧ j ≤ ps.length ∧ k = ps.length - j ∧ FB wr (w.heap.size + 2) (.slice (some ⟨b1, 0, none⟩) l.length c1) (setBits l (ps.take j)) ∧ ObjAt wr w1.heap.size 27 [.slice (some ⟨b1, 0, none⟩) l.length c1, .int .i64 each, .int .i64 n] ∧
    ObjAt wr (w.heap.size + 1) 27 [.slice none 0 0, .int .i64 0, .int .i64 0] ∧ IO wr w2.heap.size (.slice p3 ps.length c3) (ni ps) ∧ Ext w wr)
  case atStart => exact ⟨0, rfl, Nat.zero_le _, rfl, hfa, hoa, hob, hr3, hxa⟩
  case round =>
    obtain ⟨j, rfl, hj, hk, hf, hoA, hoB, hr, hx⟩ := hrel
    by_cases hlt : j < ps.length
    case pos =>
      have hi : (j : Int) < (ps.length : Int) := by omega
      obtain ⟨b3, o3, e9, hcell⟩ := int_at (IO.view hr) (j := j) (by rw [HNL.out]; exact hlt)
      subst e9
      rw [ni_get] at hcell
      have hpl := HLT.out ps[j] (List.getElem_mem hlt)
      have HST := Lib.hid (setBits_step l ps hlt)
      generalize hL1 : setBits l (ps.take j) = L1 at *
      have hlen1 : L1.length = l.length := by rw [← hL1, setBits_length]
      generalize hp : ps[j] = pj at *
      obtain ⟨a, ha⟩ : ∃ a, pj / 8 = a := ⟨_, rfl⟩
      obtain ⟨r, hr8⟩ : ∃ r, pj % 8 = r := ⟨_, rfl⟩
      have hal : a < L1.length := by omega
      have hcb := hf.cell (j := a) hal
      have hfb := hf.free a
      have hc0 := hoA.cell (j := 0) (u := .slice (some ⟨b1, 0, none⟩) l.length c1) rfl
      have hd : (pj : Int) / 8 = (a : Int) := by omega
      have hm : (pj : Int) % 8 = (r : Int) := by omega
      have hia : (a : Int) < (l.length : Int) := by omega
      have hr88 : (r : Int) < 8 := by omega
      have hp0 : 0 ≤ (pj : Int) := by omega
      have HO := Lib.hid (or_bit L1[a] r (by omega))
      have hset : setBit L1 pj = L1.set a (L1[a] ||| pow8 r) := by
        unfold setBit
        rw [ha, hr8]
        simp [List.getD_eq_getElem?_getD, hal]
      have HSET := Lib.hid hset
      have HLEN := Lib.hid hlen1
      have hwa : IntKind.i64.wrap (a : Int) = (a : Int) := by rw [IntKind.wrap_i64]; omega
      have htm : (pj : Int).tmod 8 = (r : Int) := by rw [Int.tmod_eq_emod_of_nonneg hp0]; exact hm
      have hmn : min r 8 = r := by omega
      clear ha hr8 hpl hset hp hL1 hlen1
      go_wp2_with fail
      apply wp_region_dag_tail 11 (X := Ext) (by kernel_rfl) (by kernel_rfl) (by kernel_rfl) (by decide) (fun _ _ _ => Ext.trans) (Ext.drew1 _)
      simp only [List.take_succ_cons, List.take_zero, List.drop_succ_cons, List.drop_zero]
      apply dag_val Ext.refl rfl (by intro W hW H; go_simp <;> rfl)
      simp only [Act.put, List.setIfInBounds_toArray, List.set_cons_zero, List.set_cons_succ]
      apply dag_val Ext.refl rfl (by intro W hW H; have hq := hW.cell hc0; go_simp <;> rfl)
      simp only [Act.put, List.setIfInBounds_toArray, List.set_cons_zero, List.set_cons_succ]
      apply dag_val Ext.refl rfl (by intro W hW H; go_simp <;> rfl)
      simp only [Act.put, List.setIfInBounds_toArray, List.set_cons_zero, List.set_cons_succ]
      apply dag_val Ext.refl rfl (by intro W hW H; go_simp <;> rfl)
      simp only [Act.put, List.setIfInBounds_toArray, List.set_cons_zero, List.set_cons_succ]
      apply dag_val Ext.refl rfl (by intro W hW H; go_simp <;> rfl)
      simp only [Act.put, List.setIfInBounds_toArray, List.set_cons_zero, List.set_cons_succ]
      apply dag_val Ext.refl rfl (by intro W hW H; have hq := hW.cell hcb; go_simp <;> rfl)
      simp only [Act.put, List.setIfInBounds_toArray, List.set_cons_zero, List.set_cons_succ]
      apply dag_val Ext.refl rfl (by intro W hW H; go_simp <;> rfl)
      simp only [Act.put, List.setIfInBounds_toArray, List.set_cons_zero, List.set_cons_succ]
      apply dag_val Ext.refl rfl (by intro W hW H; go_simp <;> rfl)
      simp only [Act.put, List.setIfInBounds_toArray, List.set_cons_zero, List.set_cons_succ]
      apply dag_val Ext.refl rfl (by intro W hW H; go_simp <;> rfl)
      simp only [Act.put, List.setIfInBounds_toArray, List.set_cons_zero, List.set_cons_succ]
      apply dag_val Ext.refl rfl (by intro W hW H; go_simp <;> rfl)
      simp only [Act.put, List.setIfInBounds_toArray, List.set_cons_zero, List.set_cons_succ]
      apply dag_val Ext.refl rfl (by intro W hW H; go_simp <;> rfl)
      simp only [Act.put, List.setIfInBounds_toArray, List.set_cons_zero, List.set_cons_succ]
      refine dag_end fun W hW H => ?_
      clear H
      have hfW := hf.keep hW
      have hcW := hfW.cell (j := a) hal
      have hzW := hfW.free a
      go_wp2_with fail
      have HO2 := HO.out
      rw [IntKind.wrap_u8] at HO2
      rw [HO2]
      have hb1' : w.heap.size + 2 ≤ b1 := hb1
      have hne3 : (Value.slice (some ⟨b3, o3, none⟩) ps.length c3).ownBlock = none ∨ (Value.slice (some ⟨b3, o3, none⟩) ps.length c3).ownBlock ≠ some b1 := .inr fun e => by have := ORow.own hr b1 e; omega
      go_roundg (ps.length - (j + 1))
      case measure => omega
      case rel =>
        refine ⟨j + 1, by go_num, hlt, rfl, ?_, (hoA.ext hW).far (p := ⟨b1, a, none⟩) (by simp; omega) _, (hoB.ext hW).far (p := ⟨b1, a, none⟩) (by simp; omega) _, (ORow.keep hr hW).beside (grown_set _ ⟨b1, a, none⟩ _) hne3 fun _ _ hh => hh.elim, (hx.trans hW).store (p := ⟨b1, a, none⟩) (by simp; omega) _⟩
        rw [HST.out, HSET.out]
        exact hfW.store a _
    case neg =>
      obtain rfl : j = ps.length := by omega
      rw [List.take_length] at hf
      have hc2 := hoA.cell (j := 2) (u := .int .i64 n) rfl
      have hf2 := hoA.free 2
      have hoC := hoA.store 2 (.int .i64 M)
      obtain ⟨hd0, hd1, hd2⟩ := hoC.cells3
      have hoD := hoB.far (p := ⟨w1.heap.size, 2, none⟩) (by simp; omega) (.int .i64 M)
      obtain ⟨⟨hg0, hk0, hg1, hk1, hg2, hk2⟩, ho6⟩ := hoD.stored3 (.slice (some ⟨b1, 0, none⟩) l.length c1) (.int .i64 each) (.int .i64 M)
      go_wp2_with ((with_reducible show wpList _ _ _ (Oper.mk _ (Op.call { callee := Callee.builtin Builtin.min, args := _, argTypes := _ }) _ _ _ _ :: _) _ _); refine wpList_run rfl (run_min rfl rfl rfl _) ?_; rw [HM.out])
      refine bodyPost_ret (st_results rfl _ _ (w.heap.size + 1) _ _ _ rfl ho6) rfl ?_
      have hne : (Value.slice (some ⟨b1, 0, none⟩) l.length c1).ownBlock ≠ some (w.heap.size + 1) := fun e => by have e' : b1 = _ := Option.some.inj e; omega
      have hne2 : (Value.slice (some ⟨b1, 0, none⟩) l.length c1).ownBlock ≠ some (w1.heap.size) := fun e => by have e' : b1 = _ := Option.some.inj e; omega
      exact ⟨_, rfl, ((hf.far (p := ⟨w1.heap.size, 2, none⟩) hne2 _).far3 hne _ _ _).view, (hx.store (p := ⟨w1.heap.size, 2, none⟩) (by simp; omega) _).set3 (by omega) _ _ _⟩
end Go.Proofs.Ythlhhnkalknidaa
