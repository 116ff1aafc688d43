/- What the program's and the document's functions of layer 5 compute when they open a block. -/
import Derived.Test.YtlbeemjcndhenaaBlkW
namespace Go.Proofs.Ytlbeemjcndhenaa
open Go.RowKit

theorem neq90 (x : UInt8) (h : x ≠ 90) : ((x.toNat : Int) != 90) = true := by
  rw [bne_iff_ne]; intro e; exact h (UInt8.toNat_inj.1 (by simp; omega))

set_option maxHeartbeats 1000000 in
theorem bopen_any (v : Value) (l : List UInt8) (w : World) (h : BV w v l) :
    Calls Try.prog 42 #[v] w fun e w' => ∃ v', e = .returned (.tuple #[bv (openB l).kind, v', .int .i64 (openB l).err]) ∧ FB w' w.heap.size v' (openB l).body ∧ Ext w w' := by
  have h0 := h
  obtain ⟨p, c, rfl, hn, hc, hs⟩ := h
  unfold maxLen at hc
  by_cases h64 : l.length = 64
  case neg =>
    rw [open_len l h64]
    have hb : ((l.length : Int) != 64) = true := by rw [bne_iff_ne]; omega
    go_enter Try.func42, Try.ntmps42
    go_wp2_with fail
    go_ret3
    exact ⟨_, rfl, FB.nil _ _, Ext.refl _⟩
  case pos =>
    obtain ⟨b, o, rfl, hcell⟩ := h0.cellsAt (by omega)
    have c63 := hcell 63 (by omega)
    have c1 := hcell 1 (by omega)
    have c0 : w.cell? ⟨b, o, none⟩ = some (bv (l.getD 0 0)) := hcell 0 (by omega)
    obtain ⟨x63, e63⟩ : ∃ x, l.getD 63 0 = x := ⟨_, rfl⟩
    obtain ⟨x1, e1⟩ : ∃ x, l.getD 1 0 = x := ⟨_, rfl⟩
    obtain ⟨x0, e0⟩ : ∃ x, l.getD 0 0 = x := ⟨_, rfl⟩
    rw [e63] at c63
    rw [e1] at c1
    rw [e0] at c0
    by_cases h90 : x63 = 90
    case neg =>
      rw [open_last l (by rw [e63]; exact h90)]
      have hb := neq90 _ h90
      rw [h64]
      clear hcell h64 h0 e63 e1 e0
      go_enter Try.func42, Try.ntmps42
      go_wp2_with fail
      go_ret3
      exact ⟨_, rfl, FB.nil _ _, Ext.refl _⟩
    case pos =>
      subst h90
      have hw : IntKind.i64.wrap (x1.toNat : Int) = x1.toNat := byte_wrap_i64 x1
      by_cases hn61 : x1.toNat ≤ 61
      case neg =>
        rw [open_form l h64 e63 (fun hb => hn61 (by rw [← e1]; exact hb.2.1))]
        rw [h64]
        clear hcell h64 h0 e63 e1 e0
        go_enter Try.func42, Try.ntmps42
        go_wp2_with fail
        go_ret3
        exact ⟨_, rfl, FB.nil _ _, Ext.refl _⟩
      case pos =>
        rcases kind_cases x0 with hk | ⟨hk1, hk2, hk⟩
        case inr =>
          rw [open_form l h64 e63 (fun hb => hk (by rw [← e0]; exact hb.1))]
          rw [h64]
          clear hcell h64 h0 e63 e1 e0 hk
          go_enter Try.func42, Try.ntmps42
          go_wp2_with fail
          go_ret3
          exact ⟨_, rfl, FB.nil _ _, Ext.refl _⟩
        case inl =>
          have hkk : ((x0.toNat : Int) != 1) = true ∧ ((x0.toNat : Int) != 2) = false ∨ ((x0.toNat : Int) != 1) = false := by
            rcases hk with rfl | rfl
            · right; rfl
            · left; exact ⟨rfl, rfl⟩
          have hbh := behind_length l h64 (by rw [e1]; exact hn61)
          have hz0 := isBlock_of_zeros l h64 e63 (by rw [e0]; exact hk) (by rw [e1]; exact hn61)
          have hz1 : ∀ (j : Nat) (hj : j < (behind l).length), (behind l)[j] ≠ 0 → ¬ isBlock l := fun j hj => not_block_of_byte l h64 e63 (by rw [e0]; exact hk) (by rw [e1]; exact hn61) hj
          have hfo := open_form l h64 e63
          have hok := open_ok l h64 e63
          have hbv := h0.mid (L := 2 + x1.toNat) (H := 63) (by omega) (by omega)
          have hpv := h0.mid (L := 2) (H := 2 + x1.toNat) (by omega) (by omega)
          have hbe : (l.drop (2 + x1.toNat)).take (63 - (2 + x1.toNat)) = behind l := by unfold behind; rw [e1]
          have hpe : (l.drop 2).take (2 + x1.toNat - 2) = payload l := by unfold payload; rw [e1]; congr 1; omega
          rw [hbe] at hbv
          rw [hpe] at hpv
          rw [e1] at hbh
          rw [e0] at hok
          rw [h64]
          generalize behind l = z at *
          generalize payload l = y at *
          have Z0 := Lib.hid hz0
          have Z1 := Lib.hid hz1
          have HFO := Lib.hid hfo
          have HOK := Lib.hid hok
          have HZL := Lib.hid hbh
          have hc64 : 64 ≤ c := by omega
          clear hz0 hz1 hfo hok hbh hcell h64 h0 e63 e1 e0 hbe hpe hk
          rcases hkk with ⟨hk1, hk2⟩ | hk1
          all_goals
            go_enter Try.func42, Try.ntmps42
            go_wp2_with ((with_reducible show wpList _ _ _ (Oper.mk _ (Op.slice _ _ _ _ _) _ _ _ _ :: _) _ _); refine st_slice T.bytes (2 + x1.toNat) 63 c ?_)
            go_loop [40] (fun i => ∃ j : Nat, j ≤ z.length ∧ i = .int .i64 j ∧ ∀ m (hm : m < j) (hz : m < z.length), z[m] = 0) (fun i => z.length - (intOf i).toNat)
            case atStart => exact ⟨0, by omega, rfl, fun m hm => by omega⟩
            case round =>
              obtain ⟨j, hj, rfl, hzz⟩ := hrel
              have hzl : z.length = 63 - (2 + x1.toNat) := HZL.out
              have HZZ := Lib.hid hzz; clear hzz
              by_cases hlt : j < z.length
              · obtain ⟨b2, o2, he2, hc2⟩ : ∃ b2 o2, cutA 1 (some ⟨b, o, none⟩) c (2 + x1.toNat) = some ⟨b2, o2, none⟩ ∧ w.cell? ⟨b2, o2 + j, none⟩ = some (bv z[j]) := by
                  obtain ⟨p', c', e, _, _, hs'⟩ := hbv
                  injection e with ep
                  obtain ⟨b2, o2, e2, hc2⟩ := hs'.at (bs_get z hlt)
                  exact ⟨b2, o2, ep.trans e2, hc2⟩
                rw [he2]
                have hlt2 : j < 63 - (2 + x1.toNat) := by omega
                clear he2 hbv hpv
                by_cases hz0 : z[j] = 0
                · have hb : ((z[j].toNat : Int) != 0) = false := by rw [hz0]; rfl
                  have HZ0 := Lib.hid hz0; clear hz0 hzl
                  go_wp2_with fail
                  go_round
                  case rel => exact ⟨j + 1, by omega, by go_num, fun m hm hmz => by
                    by_cases e : m = j
                    · subst e; exact HZ0.out
                    · exact HZZ.out m (by omega) hmz⟩
                  case measure => simp [intOf]; omega
                · have hb : ((z[j].toNat : Int) != 0) = true := by rw [bne_iff_ne]; intro e; exact hz0 (UInt8.toNat_inj.1 (by simp; omega))
                  have HO := Lib.hid (HFO.out (Z1.out j hlt hz0))
                  clear hzl hz0
                  go_wp2_with fail
                  go_ret3
                  rw [HO.out]
                  exact ⟨_, rfl, FB.nil _ _, Ext.refl _⟩
              · obtain rfl : j = z.length := by omega
                have HO := Lib.hid (HOK.out (Z0.out fun m hm => HZZ.out m hm hm))
                have hyl : y.length = x1.toNat := by
                  obtain ⟨_, _, e, _⟩ := hpv
                  injection e with _ e2
                  omega
                go_wp2_with fail
                apply wp_region_dag (X := Ext) (by kernel_rfl) (by kernel_rfl) (fun _ _ _ => Ext.trans) (Ext.drew1 _)
                apply dag_val Ext.refl rfl (by intro W hW H; go_simp <;> rfl)
                simp only [Act.put, List.setIfInBounds_toArray, List.set_cons_zero, List.set_cons_succ]
                apply dag_val Ext.refl rfl (by intro W hW H; go_simp <;> rfl)
                simp only [Act.put, List.setIfInBounds_toArray, List.set_cons_zero, List.set_cons_succ]
                apply dag_val Ext.refl rfl (by intro W hW H; have hq := hW.cell c0; go_simp <;> rfl)
                simp only [Act.put, List.setIfInBounds_toArray, List.set_cons_zero, List.set_cons_succ]
                apply dag_val Ext.refl rfl (by intro W hW H; go_simp <;> rfl)
                simp only [Act.put, List.setIfInBounds_toArray, List.set_cons_zero, List.set_cons_succ]
                apply dag_val Ext.refl rfl (by intro W hW H; go_simp <;> rfl)
                simp only [Act.put, List.setIfInBounds_toArray, List.set_cons_zero, List.set_cons_succ]
                apply dag_val Ext.refl rfl (by intro W hW H; have hq : IntKind.i64.wrap (2 + (x1.toNat : Int)) = 2 + (x1.toNat : Int) := (by rw [IntKind.wrap_i64]; omega); go_simp <;> rfl)
                simp only [Act.put, List.setIfInBounds_toArray, List.set_cons_zero, List.set_cons_succ]
                refine' dag_val Ext.refl rfl (fun W hW H => run_slice T.bytes rfl rfl W 2 (2 + x1.toNat) c (hH := by exact Idx.eq _ _ _ _ (by omega))) _
                rotate_left
                simp only [Act.put, List.setIfInBounds_toArray, List.set_cons_zero, List.set_cons_succ]
                refine' dag_calls (fun v W => FB W w.heap.size v y) (FB.stable _ _) rfl (by intro W; go_simp <;> rfl) (fun W hW H => (clone_any _ _ W (hpv.ext hW) (by omega)).mono (by rintro e w' ⟨v1, rfl, hf1, hx1⟩; exact ⟨v1, rfl, FB.base hf1 hW.size, hx1⟩)) (fun v1 => _)
                rotate_left
                simp only [Act.put, List.setIfInBounds_toArray, List.set_cons_zero, List.set_cons_succ]
                apply dag_val Ext.refl rfl (by intro W hW H; go_simp <;> rfl)
                simp only [Act.put, List.setIfInBounds_toArray, List.set_cons_zero, List.set_cons_succ]
                refine' dag_rel (fun v W => FB W w.heap.size v y) (FB.stable _ _) (fun W hW H => gives_run rfl rfl ⟨Ext.refl _, (by exact H 7 (by kernel_rfl))⟩) (fun v2 => _)
                rotate_left
                simp only [Act.put, List.setIfInBounds_toArray, List.set_cons_zero, List.set_cons_succ]
                apply dag_val Ext.refl rfl (by intro W hW H; go_simp <;> rfl)
                simp only [Act.put, List.setIfInBounds_toArray, List.set_cons_zero, List.set_cons_succ]
                refine dag_end fun W hW H => ?_
                go_wp2_with fail
                go_ret3
                rw [HO.out]
                exact ⟨_, rfl, H 9, hW⟩

set_option maxHeartbeats 1000000 in
theorem rbopen_any (v : Value) (l : List UInt8) (w : World) (h : BV w v l) :
    Calls Try.prog 44 #[v] w fun e w' => ∃ v', e = .returned (.tuple #[bv (openB l).kind, v', .int .i64 (openB l).err]) ∧ FB w' w.heap.size v' (openB l).body ∧ Ext w w' := by
  have h0 := h
  obtain ⟨p, c, rfl, hn, hc, hs⟩ := h
  unfold maxLen at hc
  by_cases h64 : l.length = 64
  case neg =>
    rw [open_len l h64]
    have hb : ((l.length : Int) != 64) = true := by rw [bne_iff_ne]; omega
    go_enter Try.func44, Try.ntmps44
    go_wp2_with fail
    go_ret3
    exact ⟨_, rfl, FB.nil _ _, Ext.refl _⟩
  case pos =>
    obtain ⟨b, o, rfl, hcell⟩ := h0.cellsAt (by omega)
    have c63 := hcell 63 (by omega)
    have c1 := hcell 1 (by omega)
    have c0 : w.cell? ⟨b, o, none⟩ = some (bv (l.getD 0 0)) := hcell 0 (by omega)
    obtain ⟨x63, e63⟩ : ∃ x, l.getD 63 0 = x := ⟨_, rfl⟩
    obtain ⟨x1, e1⟩ : ∃ x, l.getD 1 0 = x := ⟨_, rfl⟩
    obtain ⟨x0, e0⟩ : ∃ x, l.getD 0 0 = x := ⟨_, rfl⟩
    rw [e63] at c63
    rw [e1] at c1
    rw [e0] at c0
    by_cases h90 : x63 = 90
    case neg =>
      rw [open_last l (by rw [e63]; exact h90)]
      have hb := neq90 _ h90
      rw [h64]
      clear hcell h64 h0 e63 e1 e0
      go_enter Try.func44, Try.ntmps44
      go_wp2_with fail
      go_ret3
      exact ⟨_, rfl, FB.nil _ _, Ext.refl _⟩
    case pos =>
      subst h90
      obtain ⟨n, hnn⟩ : ∃ n, n = min x1.toNat 61 := ⟨_, rfl⟩
      have hmin : min (x1.toNat : Int) 61 = (n : Int) := by omega
      have hn61 : n ≤ 61 := by omega
      have hnm : n = min (l.getD 1 0).toNat 61 := by rw [e1]; exact hnn
      have hpv := h0.mid (L := 2) (H := 2 + n) (by omega) (by omega)
      have hpe : (l.drop 2).take (2 + n - 2) = (l.drop 2).take n := by congr 1; omega
      rw [hpe] at hpv
      have hyl : ((l.drop 2).take n).length = n := by rw [List.length_take, List.length_drop]; omega
      have hform := open_form l h64 e63
      have hok := open_ok l h64 e63
      have hse := @isBlock_seal l h64
      have hpl := @payload_seal l
      have hkb : isBlock l → goodKind x0 := fun hb => by rw [← e0]; exact hb.1
      rw [e0] at hse hok
      have hse2 : goodKind x0 → (blockL x0 ((l.drop 2).take n) = l ↔ isBlock l) := fun hk => hse hk hnm
      have hpl2 : isBlock l → (l.drop 2).take n = payload l := fun hb => hpl hb hnm
      clear hse hpl hnm hpe hcell e63 e1 e0 hnn
      generalize (l.drop 2).take n = y at *
      have HW1 : IntKind.i64.wrap (x1.toNat : Int) = x1.toNat := byte_wrap_i64 x1
      have h0' := h0
      rw [h64] at h0
      have hsealed : (sealB x0 y = (blockL x0 y, 0) ∧ goodKind x0) ∨ (sealB x0 y = ([], 22) ∧ ¬ goodKind x0) := by
        by_cases hk : goodKind x0
        · left; unfold sealB; rw [if_neg (by simpa using hk), if_neg (by omega)]; exact ⟨rfl, hk⟩
        · right; unfold sealB; rw [if_pos hk]; exact ⟨rfl, hk⟩
      have HH := Lib.hid (And.intro hform (And.intro hok (And.intro hse2 (And.intro hpl2 hkb))))
      have HY := Lib.hid hyl
      have hc64 : 64 ≤ c := by omega
      clear hform hok hse2 hpl2 hkb
      rw [h64]
      have H64 := Lib.hid h64; clear h64
      clear hyl
      go_enter Try.func44, Try.ntmps44
      go_wp2_with (first
        | ((with_reducible show wpList _ _ _ (Oper.mk _ (Op.call { callee := Callee.builtin Builtin.min, args := _, argTypes := _ }) _ _ _ _ :: _) _ _); refine wpList_run rfl (run_min rfl rfl rfl _) ?_; rw [hmin])
        | ((with_reducible show wpList _ _ _ (Oper.mk _ (Op.slice _ _ _ _ _) _ _ _ _ :: _) _ _); refine st_slice T.bytes 2 (2 + n) c ?_)
        | (at_builtin; refine st_append T.bytes (FB.lit0 w (Nat.le_refl _)) (hpv.ext (Ext.alloc _ _)) ?_ (by rw [HY.out]; simp; omega) (by simp); intro v2 w2 hf2 hg2 _; have hx2 := (Ext.alloc w _).append (FB.lit0 w (Nat.le_refl _)) hg2; have hq := hx2.cell c0; rw [List.nil_append] at hf2))
      refine (rbseal_any x0 v2 y _ hf2.view (by rw [HY.out]; omega)).mono ?_
      rintro e w3 ⟨v3, rfl, hf3, hx3⟩
      rcases hsealed with ⟨hs1, hk⟩ | ⟨hs1, hk⟩
      case inr =>
        rw [hs1]
        have HO := Lib.hid (HH.out.1 (fun hb => hk (HH.out.2.2.2.2 hb)))
        clear hs1 hk
        go_wp2_with fail
        go_ret3
        rw [HO.out]
        exact ⟨_, rfl, FB.nil _ _, hx2.trans hx3⟩
      case inl =>
        rw [hs1] at hf3 ⊢
        have hbl := HH.out.2.2.1 hk
        clear hs1 hk
        generalize blockL x0 y = z at *
        have hq3 := (hx2.trans hx3).cell c0
        have hv3 := hf3.view
        have hvl := h0'.ext (hx2.trans hx3)
        rw [H64.out] at hvl
        by_cases hib : isBlock l
        · have hb : (!(z == l)) = false := by rw [hbl.2 hib]; simp
          have HO := Lib.hid (HH.out.2.1 hib)
          have HP := Lib.hid (HH.out.2.2.2.1 hib)
          clear hbl hib
          go_wp2_with ((with_reducible show wpList _ _ _ (Oper.mk _ (Op.convert _ _ _) _ _ _ _ :: _) _ _); first | refine st_string T.bytes T.u8 T.str hv3 ?_ | refine st_string T.bytes T.u8 T.str hvl ?_)
          go_ret3
          rw [HO.out, ← HP.out]
          exact ⟨_, rfl, hf2.keep hx3, hx2.trans hx3⟩
        · have hb : (!(z == l)) = true := by
            simp only [Bool.not_eq_true', beq_eq_false_iff_ne]
            intro e; exact hib (hbl.1 e)
          have HO := Lib.hid (HH.out.1 hib)
          clear hbl hib
          go_wp2_with ((with_reducible show wpList _ _ _ (Oper.mk _ (Op.convert _ _ _) _ _ _ _ :: _) _ _); first | refine st_string T.bytes T.u8 T.str hv3 ?_ | refine st_string T.bytes T.u8 T.str hvl ?_)
          go_ret3
          rw [HO.out]
          exact ⟨_, rfl, FB.nil _ _, hx2.trans hx3⟩
end Go.Proofs.Ytlbeemjcndhenaa
