/- What the program's functions of layer 1 compute: numbers read. -/
import Derived.Test.YtpejdompanhieaaClone
import Derived.Test.YtpejdompanhieaaVarW
import Derived.Test.YtpejdompanhieaaEq
namespace Go.Proofs.Ytpejdompanhieaa
open Go.RowKit

set_option maxHeartbeats 1000000 in
theorem get_any (v : Value) (l : List UInt8) (w : World) (h : BV w v l) :
    Calls Try.prog 71 #[v] w fun e w' => e = .returned (.tuple #[.int .i64 (getV l).n, .int .i64 ((getV l).k : Nat), .int .i64 (getV l).e]) ∧ Ext w w' := by
  have h0 := h
  obtain ⟨p, c, rfl, hn, hc, hs⟩ := h
  unfold maxLen at hc
  obtain ⟨m, hm, HM⟩ : ∃ m : Nat, min (l.length : Int) 10 = (m : Int) ∧ Hid (m = (l.take 10).length) := ⟨(l.take 10).length, by rw [List.length_take]; omega, rfl⟩
  obtain ⟨G, HG⟩ : ∃ G, Hid (getV l = G) := ⟨_, rfl⟩
  rw [HG.out]
  go_enter Try.func71, Try.ntmps71
  go_wp2_with ((with_reducible show wpList _ _ _ (Oper.mk _ (Op.call { callee := Callee.builtin Builtin.min, args := _, argTypes := _ }) _ _ _ _ :: _) _ _); refine wpList_run rfl (run_min rfl rfl rfl _) ?_; rw [hm])
  go_loopg [5, 10] (m) (fun k s5 s10 wr => ∃ j : Nat, s10 = .int .i64 j ∧ j ≤ m ∧ k = m - j ∧ s5 = .int .u64 ((sevV (l.take j) % 18446744073709551616 : Nat) : Int) ∧ Hid (j ≤ runV (l.take 10)) ∧ wr = w)
  case atStart => exact ⟨0, rfl, Nat.zero_le _, rfl, by simp [sevV], Nat.zero_le _, rfl⟩
  case round =>
    obtain ⟨j, rfl, hj, hk, rfl, HR, rfl⟩ := hrel
    have HN := Lib.hid hm
    clear hm
    by_cases hlt : j < m
    case pos =>
      have hm10 : (l.take 10).length ≤ 10 ∧ (l.take 10).length ≤ l.length := by rw [List.length_take]; omega
      have hj10 : j < 10 ∧ j < l.length := by have := HM.out; omega
      obtain ⟨b, o, rfl, hcell⟩ := hs.at (bs_get l hj10.2)
      have hx10 : (l.take 10)[j]'(by have := HM.out; omega) = l[j]'hj10.2 := List.getElem_take
      have hlo : sevV (l.take j) < 128 ^ j := by have := sevV_lt (l.take j); rw [List.length_take, Nat.min_eq_left (by omega)] at this; exact this
      have hlo2 : sevV (l.take j) < 18446744073709551616 := Nat.lt_of_lt_of_le hlo (Nat.le_trans (Nat.pow_le_pow_right (by omega) (show j ≤ 9 by omega)) (by decide))
      have HE : Hid (bits BinOp.or IntKind.u64 ((sevV (l.take j) : Nat) : Int) (IntKind.u64.wrap (IntKind.u64.wrap (bits BinOp.and IntKind.u8 ((l[j]'hj10.2).toNat : Int) 127) * 2 ^ (7 * j))) = ((sevV (l.take (j + 1)) % 18446744073709551616 : Nat) : Int)) := by
        rw [get_low, show IntKind.u64.wrap (((l[j]'hj10.2).toNat % 128 : Nat) : Int) = (((l[j]'hj10.2).toNat % 128 : Nat) : Int) by rw [IntKind.wrap_u64]; omega, or_digit (sevV (l.take j)) ((l[j]'hj10.2).toNat % 128) j hlo (by omega), ← sevV_take l hj10.2]
        rfl
      have HT := Lib.hid (get_more (l[j]'hj10.2))
      have HX := Lib.hid hx10
      rw [Nat.mod_eq_of_lt hlo2]
      clear hlo hlo2 hx10
      generalize hU : sevV (l.take (j + 1)) % 18446744073709551616 = U at *
      have hU2 : U < 18446744073709551616 := by rw [← hU]; exact Nat.mod_lt _ (by decide)
      have HU := Lib.hid hU
      have HU2 := Lib.hid hU2
      clear hU hU2
      have hj1 : (j : Int) + 1 ≤ (l.length : Int) := by omega
      by_cases hbig : 128 ≤ (l[j]'hj10.2).toNat
      · have ht : (bits BinOp.and IntKind.u8 ((l[j]'hj10.2).toNat : Int) 128 != 0) = true := by rw [HT.out]; exact decide_eq_true hbig
        have HR2 : Hid (j + 1 ≤ runV (l.take 10)) := (runV_step _ j (by have := HM.out; omega) HR.out).2 (by rw [HX.out]; exact hbig)
        clear hbig
        go_wp2_with fail
        rw [HE.out]
        go_roundg (m - (j + 1))
        case measure => omega
        case rel => exact ⟨j + 1, by go_num, hlt, rfl, by rw [HU.out], HR2, rfl⟩
      · have ht : (bits BinOp.and IntKind.u8 ((l[j]'hj10.2).toNat : Int) 128 != 0) = false := by rw [HT.out]; exact decide_eq_false hbig
        have HV := Lib.hid (getV_ok l j (by have := HM.out; omega) HR.out (by rw [HX.out]; omega))
        clear hbig
        by_cases heq : vb U = l.take (j + 1)
        · have hb : (vb U == l.take (j + 1)) = true := by simp [heq]
          obtain rfl : G = ⟨zag U, j + 1, 0⟩ := by rw [← HG.out, HV.out, HU.out, if_pos heq]
          clear heq HV
          go_wp2_with fail
          rw [HE.out]
          apply wp_region_dag (X := Ext) (by kernel_rfl) (by kernel_rfl) (fun _ _ _ => Ext.trans) (Ext.drew1 _)
          apply dag_val Ext.refl rfl (by intro W hW H; go_simp <;> rfl)
          simp only [Act.put, List.setIfInBounds_toArray, List.set_cons_zero, List.set_cons_succ]
          refine' dag_calls (fun v W => BV W v (vb U)) (BV.stable _) rfl (by intro W; go_simp <;> rfl) (fun W hW H => (lay_any U HU2.out W).mono (by rintro e w' ⟨v3, rfl, hf3, hx3⟩; exact ⟨v3, rfl, hf3.view, hx3⟩)) (fun v1 => _)
          rotate_left
          simp only [Act.put, List.setIfInBounds_toArray, List.set_cons_zero, List.set_cons_succ]
          apply dag_val Ext.refl rfl (by intro W hW H; go_simp <;> rfl)
          simp only [Act.put, List.setIfInBounds_toArray, List.set_cons_zero, List.set_cons_succ]
          apply dag_val Ext.refl rfl (by intro W hW H; go_simp <;> rfl)
          simp only [Act.put, List.setIfInBounds_toArray, List.set_cons_zero, List.set_cons_succ]
          apply dag_val Ext.refl rfl (by intro W hW H; go_simp <;> rfl)
          simp only [Act.put, List.setIfInBounds_toArray, List.set_cons_zero, List.set_cons_succ]
          refine' dag_val Ext.refl rfl (fun W hW H => run_sliceTo T.bytes rfl rfl W (j + 1) c (hH := by exact Idx.eq _ _ _ _ (by rw [IntKind.wrap_i64]; omega))) _
          rotate_left
          simp only [Act.put, List.setIfInBounds_toArray, List.set_cons_zero, List.set_cons_succ]
          refine' dag_call rfl (by intro W; go_simp <;> rfl) (fun W hW H => (bequal_any _ (vb U) _ (l.take (j + 1)) W (H 1 (by kernel_rfl)) ((h0.ext hW).take hj10.2 (by omega) (by omega))).mono (by rintro e w' ⟨rfl, rfl⟩; exact ⟨rfl, Ext.refl _⟩)) _
          rotate_left
          simp only [Act.put, List.setIfInBounds_toArray, List.set_cons_zero, List.set_cons_succ]
          apply dag_val Ext.refl rfl (by intro W hW H; go_simp <;> rfl)
          simp only [Act.put, List.setIfInBounds_toArray, List.set_cons_zero, List.set_cons_succ]
          refine dag_end fun W1 hW H => ?_
          clear H
          go_wp2_with (go_at_call 78; refine (zagzig_any U HU2.out _).mono ?_; rintro e w' ⟨rfl, rfl⟩)
          go_ret3
          exact ⟨rfl, hW⟩
        · have hb : (vb U == l.take (j + 1)) = false := by simp [heq]
          obtain rfl : G = ⟨0, 0, 4⟩ := by rw [← HG.out, HV.out, HU.out, if_neg heq]
          clear heq HV
          go_wp2_with fail
          rw [HE.out]
          apply wp_region_dag (X := Ext) (by kernel_rfl) (by kernel_rfl) (fun _ _ _ => Ext.trans) (Ext.drew1 _)
          apply dag_val Ext.refl rfl (by intro W hW H; go_simp <;> rfl)
          simp only [Act.put, List.setIfInBounds_toArray, List.set_cons_zero, List.set_cons_succ]
          refine' dag_calls (fun v W => BV W v (vb U)) (BV.stable _) rfl (by intro W; go_simp <;> rfl) (fun W hW H => (lay_any U HU2.out W).mono (by rintro e w' ⟨v3, rfl, hf3, hx3⟩; exact ⟨v3, rfl, hf3.view, hx3⟩)) (fun v1 => _)
          rotate_left
          simp only [Act.put, List.setIfInBounds_toArray, List.set_cons_zero, List.set_cons_succ]
          apply dag_val Ext.refl rfl (by intro W hW H; go_simp <;> rfl)
          simp only [Act.put, List.setIfInBounds_toArray, List.set_cons_zero, List.set_cons_succ]
          apply dag_val Ext.refl rfl (by intro W hW H; go_simp <;> rfl)
          simp only [Act.put, List.setIfInBounds_toArray, List.set_cons_zero, List.set_cons_succ]
          apply dag_val Ext.refl rfl (by intro W hW H; go_simp <;> rfl)
          simp only [Act.put, List.setIfInBounds_toArray, List.set_cons_zero, List.set_cons_succ]
          refine' dag_val Ext.refl rfl (fun W hW H => run_sliceTo T.bytes rfl rfl W (j + 1) c (hH := by exact Idx.eq _ _ _ _ (by rw [IntKind.wrap_i64]; omega))) _
          rotate_left
          simp only [Act.put, List.setIfInBounds_toArray, List.set_cons_zero, List.set_cons_succ]
          refine' dag_call rfl (by intro W; go_simp <;> rfl) (fun W hW H => (bequal_any _ (vb U) _ (l.take (j + 1)) W (H 1 (by kernel_rfl)) ((h0.ext hW).take hj10.2 (by omega) (by omega))).mono (by rintro e w' ⟨rfl, rfl⟩; exact ⟨rfl, Ext.refl _⟩)) _
          rotate_left
          simp only [Act.put, List.setIfInBounds_toArray, List.set_cons_zero, List.set_cons_succ]
          apply dag_val Ext.refl rfl (by intro W hW H; go_simp <;> rfl)
          simp only [Act.put, List.setIfInBounds_toArray, List.set_cons_zero, List.set_cons_succ]
          refine dag_end fun W1 hW H => ?_
          clear H
          go_wp2_with fail
          go_ret3
          exact ⟨rfl, hW⟩
    case neg =>
      obtain rfl : j = m := by omega
      have hl : j = min 10 l.length := by have := HM.out; rw [List.length_take] at this; exact this
      by_cases h10 : l.length < 10
      · obtain rfl : G = ⟨0, 0, 3⟩ := HG.out.symm.trans (getV_cut l h10 (by have := HR.out; omega))
        have ht : (l.length : Int) < 10 := by omega
        go_wp2_with fail
        go_ret3
        exact ⟨rfl, Ext.refl _⟩
      · obtain rfl : G = ⟨0, 0, 4⟩ := HG.out.symm.trans (getV_form l (by omega) (by have := HR.out; omega))
        have ht : ¬ (l.length : Int) < 10 := by omega
        go_wp2_with fail
        go_ret3
        exact ⟨rfl, Ext.refl _⟩
end Go.Proofs.Ytpejdompanhieaa
