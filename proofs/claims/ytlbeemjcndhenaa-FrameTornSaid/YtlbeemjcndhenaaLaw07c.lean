/- The statements of layer 7: FrameBack: the walk of the law. -/
import Derived.Test.YtlbeemjcndhenaaFrL
namespace Go.Proofs.Ytlbeemjcndhenaa
open Go.RowKit

set_option maxHeartbeats 2000000 in
theorem frameBack_walk (v : Value) (bs : List (List UInt8)) (w : World) (h : LV w v bs) :
    Calls Try.prog 5 #[v] w fun e w' => e = .returned (.bool true) ∧ Ext w w' := by
  obtain ⟨p, cp, rfl, hn, hcp⟩ := h.slice
  by_cases h10 : 10 < bs.length
  · go_enter Try.func5, Try.ntmps5
    go_wp2_with (go_at_call 7; refine (awake_any _).mono ?_; rintro e w1 ⟨rfl, hx1⟩)
    go_ret
    exact ⟨rfl, hx1⟩
  have L1 := laid_any (.slice p bs.length cp) bs w h (by omega)
  by_cases hall : ∀ b ∈ bs, b.length ≤ 300
  case neg =>
    have L1 := L1.mono (R' := fun e w' => Ext w w' ∧ e = .returned (.tuple #[.slice none 0 0, .slice none 0 0, .bool false])) fun e w' hh => ⟨hh.1, hh.2.elim (fun hh => absurd hh.1 hall) fun hh => hh.2⟩
    go_enter Try.func5, Try.ntmps5
    go_wp2_with (first
      | (go_at_call 21; refine L1.mono ?_; rintro e w1 ⟨hx1, rfl⟩)
      | (go_at_call 7; refine (awake_any _).mono ?_; rintro e w2 ⟨rfl, hx2⟩))
    go_ret
    exact ⟨rfl, hx1.trans hx2⟩
  have L1 := L1.mono (R' := fun e w' => Ext w w' ∧ ∃ v1 v2, e = .returned (.tuple #[v1, v2, .bool true]) ∧ LB (fun k => w.heap.size ≤ k ∧ some k ≠ v2.ownBlock) w' w.heap.size v1 (laidB bs) ∧ ORow 3 1 RN (fun _ => False) w' w.heap.size v2 (esB bs bs.length)) fun e w' hh => ⟨hh.1, hh.2.elim (fun hh => hh.2) fun hh => absurd hall hh.1⟩
  have hfew := laidB_few bs hall
  have S1 := fun v w h => fscan_any v (laidB bs) w h (by omega)
  rw [scan_back bs (fun b hb => by have := hall b hb; omega)] at S1
  dsimp only at S1
  have hpl := placeB_length 0 bs
  have hel := esB_length bs bs.length
  have hsteps : ∀ i (hi : i < bs.length), (placeB 0 bs)[i]? = some (((laidB (bs.take i)).length : Int), bs[i]) ∧ (laidB (bs.take (i + 1))).length = (laidB (bs.take i)).length + (layB (frameL bs[i])).length ∧ (laidB (bs.take (i + 1))).length ≤ 60 := by
    intro i hi
    have h1 := placeB_get 0 bs i hi
    rw [Nat.zero_add] at h1
    have h2 : bs.take (i + 1) = bs.take i ++ [bs[i]] := by rw [List.take_add_one, List.getElem?_eq_getElem hi]; rfl
    refine ⟨h1, by rw [h2, laidB_snoc, List.length_append], ?_⟩
    have := laidB_few (bs.take (i + 1)) fun b hb => hall b (List.mem_of_mem_take hb)
    rw [List.length_take] at this
    omega
  have hget := fun j hj => esB_get bs bs.length j hj
  have HS := Lib.hid hsteps; clear hsteps
  generalize placeB 0 bs = pl at *
  generalize esB bs bs.length = es at *
  obtain ⟨ll, hll⟩ : ∃ ll, laidB bs = ll := ⟨_, rfl⟩
  rw [hll] at L1 S1 hfew
  go_enter Try.func5, Try.ntmps5
  have hz1 : ((pl.length : Int) != (bs.length : Int)) = false := by rw [hpl]; simp
  have HP := Lib.hid hpl; clear hpl
  have HE := Lib.hid hel; clear hel
  have HG := Lib.hid hget; clear hget hll
  go_wp2_with (first
    | (go_at_call 21; refine L1.mono ?_; rintro e w1 ⟨hx1, v1, v2, rfl, ho1, he1⟩; obtain ⟨p1, c1, rfl, _, _⟩ := ho1.view.slice; obtain ⟨p2, c2, rfl, _, _⟩ := he1.view.slice)
    | (go_at_call 16; refine (S1 _ _ (ho1.view.mono fun _ _ _ => trivial)).mono ?_; rintro e w2 ⟨v3, rfl, ho2, hx2⟩; obtain ⟨p3, c3, rfl, _, _⟩ := ho2.view.slice))
  have s2 := ho2.view.mono (T := fun _ => True) fun _ _ _ => trivial
  have e2 := (he1.view.mono (T := fun _ => True) fun _ _ _ => trivial).ext hx2
  have h2 := (h.ext hx1).ext hx2
  have hx12 := hx1.trans hx2
  clear ho1 ho2 he1 S1 L1
  go_loopg [8, 9] bs.length (fun k s8 s9 wr => ∃ i at_ : Nat, s9 = .int .i64 i ∧ s8 = .int .i64 at_ ∧ Hid (at_ = (laidB (bs.take i)).length) ∧ i ≤ bs.length ∧ k = bs.length - i ∧ Ext w2 wr)
  case atStart => exact ⟨0, 0, rfl, rfl, by simp [laidB, Hid], by omega, rfl, Ext.refl _⟩
  case round =>
    obtain ⟨i, at_, rfl, rfl, hat, hi, hk, hx⟩ := hrel
    by_cases hlt : i < bs.length
    case neg =>
      have hlt2 : ¬ i < pl.length := by have := HP.out; omega
      go_wp2_with (go_at_call 7; refine (awake_any _).mono ?_; rintro e w3 ⟨rfl, hx3⟩)
      go_ret
      exact ⟨rfl, (hx12.trans hx).trans hx3⟩
    case pos =>
      have hltp : i < pl.length := by have := HP.out; omega
      have hlte : i < es.length := by have := HE.out; omega
      obtain ⟨b3, o3, u3, rfl, q1, q2, hu3⟩ := found_at s2 hltp
      obtain ⟨b4, o4, u4, rfl, q3, hu4⟩ := h2.row hlt
      obtain ⟨b5, o5, rfl, q4⟩ := int_at e2 hlte
      obtain ⟨t1, t2, t3⟩ := HS.out i hlt
      have hpi : pl[i] = ((at_ : Int), bs[i]) := by
        rw [List.getElem?_eq_getElem hltp] at t1
        rw [Option.some.inj t1, hat.out]
      rw [HG.out i hlte] at q4
      rw [hpi] at q1 hu3
      have hneed := need_lay bs[i]
      have hb300 := hall _ (List.getElem_mem hlt)
      have N1 := fun w => fneed_any ((bs[i]).length : Int) w (by omega)
      rw [hneed] at N1
      rw [← hat.out] at t2
      have r3 := hu3.now
      have r4 := hu4.now
      obtain ⟨p6, c6, rfl, _, _, _⟩ := id r4
      clear hu3 hu4 hneed t1 hpi
      obtain ⟨nx, hnx⟩ : ∃ nx, (laidB (bs.take (i + 1))).length = nx := ⟨_, rfl⟩
      rw [hnx] at q4 t2 t3
      generalize bs[i] = z at *
      generalize (layB (frameL z)).length = zn at *
      dsimp only at q1 r3
      have hsub : (nx : Int) - (at_ : Int) = (zn : Int) := by omega
      have hwz : IntKind.i64.wrap (zn : Int) = (zn : Int) := by rw [IntKind.wrap_i64]; omega
      have HN := Lib.hid hnx
      clear t2 hnx
      go_wp2_with fail
      apply wp_region_dag (X := Ext) (by kernel_rfl) (by kernel_rfl) (fun _ _ _ => Ext.trans) (Ext.drew1 _)
      apply dag_val Ext.refl rfl (by intro W hW H; go_simp <;> rfl)
      simp only [Act.put, List.setIfInBounds_toArray, List.set_cons_zero, List.set_cons_succ]
      apply dag_val Ext.refl rfl (by intro W hW H; go_simp <;> rfl)
      simp only [Act.put, List.setIfInBounds_toArray, List.set_cons_zero, List.set_cons_succ]
      apply dag_val Ext.refl rfl (by intro W hW H; have hi : (i : Int) < (pl.length : Int) := (by omega); go_simp <;> rfl)
      simp only [Act.put, List.setIfInBounds_toArray, List.set_cons_zero, List.set_cons_succ]
      apply dag_val Ext.refl rfl (by intro W hW H; go_simp <;> rfl)
      simp only [Act.put, List.setIfInBounds_toArray, List.set_cons_zero, List.set_cons_succ]
      apply dag_val Ext.refl rfl (by intro W hW H; have hq := (hx.trans hW).cell q1; go_simp <;> rfl)
      simp only [Act.put, List.setIfInBounds_toArray, List.set_cons_zero, List.set_cons_succ]
      apply dag_val Ext.refl rfl (by intro W hW H; go_simp <;> rfl)
      simp only [Act.put, List.setIfInBounds_toArray, List.set_cons_zero, List.set_cons_succ]
      apply dag_val Ext.refl rfl (by intro W hW H; go_simp <;> rfl)
      simp only [Act.put, List.setIfInBounds_toArray, List.set_cons_zero, List.set_cons_succ]
      apply dag_val Ext.refl rfl (by intro W hW H; go_simp <;> rfl)
      simp only [Act.put, List.setIfInBounds_toArray, List.set_cons_zero, List.set_cons_succ]
      apply dag_val Ext.refl rfl (by intro W hW H; go_simp <;> rfl)
      simp only [Act.put, List.setIfInBounds_toArray, List.set_cons_zero, List.set_cons_succ]
      apply dag_val Ext.refl rfl (by intro W hW H; go_simp <;> rfl)
      simp only [Act.put, List.setIfInBounds_toArray, List.set_cons_zero, List.set_cons_succ]
      apply dag_val Ext.refl rfl (by intro W hW H; have hi : (i : Int) < (pl.length : Int) := (by omega); go_simp <;> rfl)
      simp only [Act.put, List.setIfInBounds_toArray, List.set_cons_zero, List.set_cons_succ]
      apply dag_val Ext.refl rfl (by intro W hW H; go_simp <;> rfl)
      simp only [Act.put, List.setIfInBounds_toArray, List.set_cons_zero, List.set_cons_succ]
      apply dag_val Ext.refl rfl (by intro W hW H; have hq := (hx.trans hW).cell q2; go_simp <;> rfl)
      simp only [Act.put, List.setIfInBounds_toArray, List.set_cons_zero, List.set_cons_succ]
      refine' dag_val Ext.refl rfl (fun W hW H => run_op_bytes_string T.bytes T.u8 T.str rfl rfl (v := u3) (l := z) (by exact (r3.ext hx).ext hW)) _
      rotate_left
      simp only [Act.put, List.setIfInBounds_toArray, List.set_cons_zero, List.set_cons_succ]
      apply dag_val Ext.refl rfl (by intro W hW H; go_simp <;> rfl)
      simp only [Act.put, List.setIfInBounds_toArray, List.set_cons_zero, List.set_cons_succ]
      apply dag_val Ext.refl rfl (by intro W hW H; go_simp <;> rfl)
      simp only [Act.put, List.setIfInBounds_toArray, List.set_cons_zero, List.set_cons_succ]
      apply dag_val Ext.refl rfl (by intro W hW H; have hi : (i : Int) < (bs.length : Int) := (by omega); go_simp <;> rfl)
      simp only [Act.put, List.setIfInBounds_toArray, List.set_cons_zero, List.set_cons_succ]
      apply dag_val Ext.refl rfl (by intro W hW H; have hq := (hx.trans hW).cell q3; go_simp <;> rfl)
      simp only [Act.put, List.setIfInBounds_toArray, List.set_cons_zero, List.set_cons_succ]
      refine' dag_val Ext.refl rfl (fun W hW H => run_op_bytes_string T.bytes T.u8 T.str rfl rfl (v := .slice p6 z.length c6) (l := z) (by exact (r4.ext hx).ext hW)) _
      rotate_left
      simp only [Act.put, List.setIfInBounds_toArray, List.set_cons_zero, List.set_cons_succ]
      apply dag_val Ext.refl rfl (by intro W hW H; go_simp <;> rfl)
      simp only [Act.put, List.setIfInBounds_toArray, List.set_cons_zero, List.set_cons_succ]
      apply dag_val Ext.refl rfl (by intro W hW H; go_simp <;> rfl)
      simp only [Act.put, List.setIfInBounds_toArray, List.set_cons_zero, List.set_cons_succ]
      apply dag_val Ext.refl rfl (by intro W hW H; go_simp <;> rfl)
      simp only [Act.put, List.setIfInBounds_toArray, List.set_cons_zero, List.set_cons_succ]
      apply dag_val Ext.refl rfl (by intro W hW H; go_simp <;> rfl)
      simp only [Act.put, List.setIfInBounds_toArray, List.set_cons_zero, List.set_cons_succ]
      apply dag_val Ext.refl rfl (by intro W hW H; go_simp <;> rfl)
      simp only [Act.put, List.setIfInBounds_toArray, List.set_cons_zero, List.set_cons_succ]
      apply dag_val Ext.refl rfl (by intro W hW H; have hi : (i : Int) < (es.length : Int) := (by omega); go_simp <;> rfl)
      simp only [Act.put, List.setIfInBounds_toArray, List.set_cons_zero, List.set_cons_succ]
      apply dag_val Ext.refl rfl (by intro W hW H; have hq := (hx.trans hW).cell q4; go_simp <;> rfl)
      simp only [Act.put, List.setIfInBounds_toArray, List.set_cons_zero, List.set_cons_succ]
      apply dag_val Ext.refl rfl (by intro W hW H; go_simp <;> rfl)
      simp only [Act.put, List.setIfInBounds_toArray, List.set_cons_zero, List.set_cons_succ]
      apply dag_val Ext.refl rfl (by intro W hW H; go_simp <;> rfl)
      simp only [Act.put, List.setIfInBounds_toArray, List.set_cons_zero, List.set_cons_succ]
      apply dag_val Ext.refl rfl (by intro W hW H; go_simp <;> rfl)
      simp only [Act.put, List.setIfInBounds_toArray, List.set_cons_zero, List.set_cons_succ]
      apply dag_val Ext.refl rfl (by intro W hW H; go_simp <;> rfl)
      simp only [Act.put, List.setIfInBounds_toArray, List.set_cons_zero, List.set_cons_succ]
      apply dag_val Ext.refl rfl (by intro W hW H; have hi : (i : Int) < (bs.length : Int) := (by omega); go_simp <;> rfl)
      simp only [Act.put, List.setIfInBounds_toArray, List.set_cons_zero, List.set_cons_succ]
      apply dag_val Ext.refl rfl (by intro W hW H; have hq := (hx.trans hW).cell q3; go_simp <;> rfl)
      simp only [Act.put, List.setIfInBounds_toArray, List.set_cons_zero, List.set_cons_succ]
      apply dag_val Ext.refl rfl (by intro W hW H; go_simp <;> rfl)
      simp only [Act.put, List.setIfInBounds_toArray, List.set_cons_zero, List.set_cons_succ]
      refine' dag_call rfl (by intro W; go_simp <;> rfl) (fun W hW H => (N1 W).mono (by rintro e w' ⟨rfl, rfl⟩; exact ⟨rfl, Ext.refl _⟩)) _
      rotate_left
      simp only [Act.put, List.setIfInBounds_toArray, List.set_cons_zero, List.set_cons_succ]
      apply dag_val Ext.refl rfl (by intro W hW H; go_simp <;> rfl)
      simp only [Act.put, List.setIfInBounds_toArray, List.set_cons_zero, List.set_cons_succ]
      apply dag_val Ext.refl rfl (by intro W hW H; go_simp <;> rfl)
      simp only [Act.put, List.setIfInBounds_toArray, List.set_cons_zero, List.set_cons_succ]
      refine dag_end fun W hW H => ?_
      have q5 := (hx.trans hW).cell q4
      go_wp2_with fail
      go_roundg (bs.length - (i + 1))
      case measure => omega
      case rel => exact ⟨i + 1, nx, by go_num, rfl, HN.out.symm, hlt, rfl, hx.trans hW⟩
end Go.Proofs.Ytlbeemjcndhenaa
