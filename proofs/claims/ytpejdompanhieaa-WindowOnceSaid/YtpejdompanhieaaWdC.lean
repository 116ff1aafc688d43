/- What the document's functions of layer 35 compute: put. -/
import Derived.Test.YtpejdompanhieaaWdA
import Derived.Test.YtpejdompanhieaaDagF
import Derived.Test.YtpejdompanhieaaInsF
namespace Go.Proofs.Ytpejdompanhieaa
open Go.RowKit

theorem sm_to {S T : Nat → Prop} {w : World} {v : Value} {xs : List Sm} (h : SRow 6 RSm S w v xs) : SRow 6 RSm T w v xs := by
  obtain ⟨css, p, c, h1, h2, h3, h4, h5, h6, h7⟩ := h
  exact ⟨css, p, c, h1, h2, h3, h4, h5, h6, fun j cs x hc hx w' _ => (h7 j cs x hc hx).now⟩
set_option maxRecDepth 20000 in
set_option maxHeartbeats 8000000 in
theorem rput_sum (v : Value) (t : List Sm) (st : Int) (key : List UInt8) (n : Int) (w : World) (h : SmV w v t) (hl : t.length ≤ 256) (hb : ∀ x ∈ t, 0 ≤ x.count ∧ x.count ≤ 1048576 ∧ -1125899906842624 ≤ x.total ∧ x.total ≤ 1125899906842624) (hn : numW n = true) :
    Calls Try.prog 39 #[v, .int .i64 st, .string ⟨key.toArray⟩, .int .i64 n] w fun e w' => ∃ v', e = .returned (.tuple #[v', .int .i64 (addS t (atS st key) n).2]) ∧ SmV w' v' (addS t (atS st key) n).1 ∧ Ext w w' := by
  obtain ⟨q, c, rfl, hnc, hcm⟩ := h.slice
  obtain ⟨A, hA⟩ : ∃ A, addS t (atS st key) n = A := ⟨_, rfl⟩
  rw [hA]
  rw [addS_def] at hA
  have HAA := Lib.hid hA
  have HV := Lib.hid h
  have HL := Lib.hid hl
  have HB := Lib.hid hb
  have HN : Hid (-1073741824 ≤ n ∧ n ≤ 1073741824) := Lib.hid (by unfold numW inW at hn; simp only [Bool.and_eq_true, decide_eq_true_eq] at hn; exact hn)
  have HC := Lib.hid hcm
  clear hA h hb hn hcm hl
  go_enter Try.func39, Try.ntmps39
  go_wp2_with fail
  go_loopg [10] (t.length) (fun k s10 wr => ∃ j : Nat, s10 = .int .i64 j ∧ j ≤ t.length ∧ k = t.length - j ∧ Hid (∀ i, i < j → ordS (t.getD i sm0) (atS st key) < 0) ∧ Hid (Ext w wr))
  case atStart => exact ⟨0, rfl, Nat.zero_le _, rfl, Lib.hid (fun i hi => by omega), Lib.hid (Ext.refl _)⟩
  case round =>
    obtain ⟨j, rfl, hjl, hk, HO, HXR⟩ := hrel
    by_cases hlt : j < t.length
    case neg =>
      have hje : j = t.length := by omega
      have hP : posS t (atS st key) = j := posS_of hjl HO.out (fun h => absurd h hlt)
      have hA := HAA.out
      rw [hP] at hA
      have hin : ¬ (j < t.length ∧ ordS (t.getD j sm0) (atS st key) = 0) := fun h => hlt h.1
      have hi : ¬ (j : Int) < (t.length : Int) := by omega
      clear hP hlt HAA hje
      rw [if_neg hin] at hA
      by_cases hful : 256 ≤ t.length
      · rw [if_pos hful] at hA
        subst hA
        have hfi : (256 : Int) ≤ (t.length : Int) := by omega
        clear hful hin 
        go_wp2_with fail
        go_ret2
        exact ⟨_, rfl, HV.out.ext HXR.out, HXR.out⟩
      · rw [if_neg hful] at hA
        subst hA
        have hfi : ¬ (256 : Int) ≤ (t.length : Int) := by omega
        clear hful hin 
        go_wp2_with fail
        have HTK : Hid (∀ W', Ext wr W' → SRow 6 RSm (fun k => True ∧ k < wr.heap.size) W' (.slice q j c) (t.take j)) := Lib.hid (fun W' hW' => sm_to ((HV.out.ext (HXR.out.trans hW')).take hjl (by omega) (Nat.le_refl c)))
        have HTD : Hid (∀ W', Ext wr W' → SRow 6 RSm (fun k => True ∧ k < wr.heap.size) W' (.slice (cutA 6 q c j) (t.length - j) (c - j)) (t.drop j)) := Lib.hid (fun W' hW' => sm_to ((HV.out.ext (HXR.out.trans hW')).drop (by omega)))
        obtain ⟨wq, hwq⟩ : ∃ wq, wq = wr := ⟨_, rfl⟩
        subst hwq
        apply wp_region_dagF 17 (by kernel_rfl) (by kernel_rfl) (by kernel_rfl) (by decide)
        simp only [List.take_succ_cons, List.take_zero, List.drop_succ_cons, List.drop_zero]
        apply dagf_val rfl (by intro W hW H; go_simp <;> rfl)
        simp only [Act.put, List.setIfInBounds_toArray, List.set_cons_zero, List.set_cons_succ]
        apply dagf_val rfl (by intro W hW H; go_simp <;> rfl)
        simp only [Act.put, List.setIfInBounds_toArray, List.set_cons_zero, List.set_cons_succ]
        apply dagf_val rfl (by intro W hW H; go_simp <;> rfl)
        simp only [Act.put, List.setIfInBounds_toArray, List.set_cons_zero, List.set_cons_succ]
        refine' dagf_val rfl (fun W hW H => run_sliceTo T.rsms rfl rfl W j c) _
        rotate_left
        simp only [Act.put, List.setIfInBounds_toArray, List.set_cons_zero, List.set_cons_succ]
        refine' dagf_row (fun v W => ORow 69 6 RSm (fun k => True ∧ k < wq.heap.size) W wq.heap.size v (t.take j)) (ORow.resT (fun _ => True) _ _) rfl (fun W hW H => frow_items (vy := .slice q j c) T.rsms rfl rfl rfl (HTK.out W hW) (by rw [List.length_take]; have := HL.out; simp only [maxLen]; omega) (by rw [List.length_take]; have := HL.out; omega) hW.size) (fun u0 => _)
        rotate_left
        simp only [Act.put, List.setIfInBounds_toArray, List.set_cons_zero, List.set_cons_succ]
        apply dagf_val rfl (by intro W hW H; go_simp <;> rfl)
        simp only [Act.put, List.setIfInBounds_toArray, List.set_cons_zero, List.set_cons_succ]
        apply dagf_val rfl (by intro W hW H; go_simp <;> rfl)
        simp only [Act.put, List.setIfInBounds_toArray, List.set_cons_zero, List.set_cons_succ]
        apply dagf_val rfl (by intro W hW H; go_simp <;> rfl)
        simp only [Act.put, List.setIfInBounds_toArray, List.set_cons_zero, List.set_cons_succ]
        apply dagf_val rfl (by intro W hW H; go_simp <;> rfl)
        simp only [Act.put, List.setIfInBounds_toArray, List.set_cons_zero, List.set_cons_succ]
        apply dagf_val rfl (by intro W hW H; go_simp <;> rfl)
        simp only [Act.put, List.setIfInBounds_toArray, List.set_cons_zero, List.set_cons_succ]
        apply dagf_val rfl (by intro W hW H; go_simp <;> rfl)
        simp only [Act.put, List.setIfInBounds_toArray, List.set_cons_zero, List.set_cons_succ]
        refine' dagf_row (fun v W => ORow 69 6 RSm (fun k => True ∧ k < wq.heap.size) W wq.heap.size v [(⟨st, key, 1, n, n, n⟩ : Sm)]) (ORow.resT (fun _ => True) _ _) rfl (fun W hW H => frow_lit1 (cs := smCells (⟨st, key, 1, n, n, n⟩ : Sm)) rfl (sm_one _) (fun _ _ => rfl) hW.size (by go_simp <;> rfl)) (fun u2 => _)
        rotate_left
        simp only [Act.put, List.setIfInBounds_toArray, List.set_cons_zero, List.set_cons_succ]
        refine' dagf_app 4 u0 _ (fun v W => ORow 69 6 RSm (fun k => True ∧ k < wq.heap.size) W wq.heap.size v (t.take j ++ [(⟨st, key, 1, n, n, n⟩ : Sm)])) (ORow.resT (fun _ => True) _ _) (by kernel_rfl) (by repeat (first | exact List.mem_cons_self | refine mem_keep ?_ (by decide) | apply List.mem_cons_of_mem)) rfl (fun W hW H => fapp_items (vx := u0) (vy := u2) T.rsms rfl rfl rfl (H (4, u0, _) (by repeat (first | exact List.mem_cons_self | refine mem_keep ?_ (by decide) | apply List.mem_cons_of_mem)) (by kernel_rfl)) (sm_to (ORow.view (H (11, u2, _) (by repeat (first | exact List.mem_cons_self | refine mem_keep ?_ (by decide) | apply List.mem_cons_of_mem)) (by kernel_rfl)))) (by rw [List.length_take]; have := HL.out; simp [maxLen]; omega) (by rw [List.length_take]; have := HL.out; simp; omega) hW.size) (fun u3 => _)
        rotate_left
        simp only [Act.put, List.setIfInBounds_toArray, List.set_cons_zero, List.set_cons_succ]
        apply dagf_val rfl (by intro W hW H; go_simp <;> rfl)
        simp only [Act.put, List.setIfInBounds_toArray, List.set_cons_zero, List.set_cons_succ]
        apply dagf_val rfl (by intro W hW H; go_simp <;> rfl)
        simp only [Act.put, List.setIfInBounds_toArray, List.set_cons_zero, List.set_cons_succ]
        refine' dagf_val rfl (fun W hW H => run_slice T.rsms rfl rfl W j t.length c) _
        rotate_left
        simp only [Act.put, List.setIfInBounds_toArray, List.set_cons_zero, List.set_cons_succ]
        refine' dagf_app 12 u3 _ (fun v W => ORow 69 6 RSm (fun k => True ∧ k < wq.heap.size) W wq.heap.size v ((t.take j ++ [(⟨st, key, 1, n, n, n⟩ : Sm)]) ++ t.drop j)) (ORow.resT (fun _ => True) _ _) (by kernel_rfl) (by repeat (first | exact List.mem_cons_self | refine mem_keep ?_ (by decide) | apply List.mem_cons_of_mem)) rfl (fun W hW H => fapp_items (vx := u3) (vy := .slice (cutA 6 q c j) (t.length - j) (c - j)) T.rsms rfl rfl rfl (H (12, u3, _) (by repeat (first | exact List.mem_cons_self | refine mem_keep ?_ (by decide) | apply List.mem_cons_of_mem)) (by kernel_rfl)) (HTD.out W hW) (by rw [List.length_append, List.length_take, List.length_drop]; have := HL.out; simp [maxLen]; omega) (by rw [List.length_append, List.length_take, List.length_drop]; have := HL.out; simp; omega) hW.size) (fun u4 => _)
        rotate_left
        simp only [Act.put, List.setIfInBounds_toArray, List.set_cons_zero, List.set_cons_succ]
        refine dagf_end fun W2 hW2 H HA => ?_
        have ho9 : ORow 69 6 RSm (fun k => True ∧ k < wq.heap.size) W2 wq.heap.size u4 ((t.take j ++ [(⟨st, key, 1, n, n, n⟩ : Sm)]) ++ t.drop j) := H (16, u4, _) (by repeat (first | exact List.mem_cons_self | refine mem_keep ?_ (by decide) | apply List.mem_cons_of_mem))
        clear H HA
        go_wp2_with fail
        go_ret2
        refine ⟨_, rfl, ?_, HXR.out.trans hW2⟩
        have h9 := sm_to (T := fun _ => True) (ORow.view ho9)
        rw [List.append_assoc] at h9
        exact h9
    have hi : (j : Int) < (t.length : Int) := by omega
    obtain ⟨b, oo, rfl, ⟨m0, m1, m2, m3, m4, m5⟩⟩ := sm_at (HV.out.ext HXR.out) hlt
    have O1 := fun W => rahead_any t[j] (atS st key) W
    have hget := getD_sm hlt
    have hbx := HB.out _ (List.getElem_mem hlt)
    generalize t[j] = x at *
    have W1 := fun k1 k2 W => rwith_any x n k1 k2 W
    have HG := Lib.hid hget
    cases ha : aheadS x (atS st key) with
    | true =>
      have HO2 : Hid (∀ i, i < j + 1 → ordS (t.getD i sm0) (atS st key) < 0) := Lib.hid fun i hi => by
        by_cases he : i = j
        · subst he
          rw [HG.out]
          unfold aheadS at ha
          exact of_decide_eq_true ha
        · exact HO.out i (by omega)
      rw [ha] at O1
      have HQ : Hid (wrap64 ((j : Int) + 1) = ((j + 1 : Nat) : Int)) := Lib.hid (by have := HL.out; unfold wrap64; omega)
      clear ha hget hbx HO W1
      obtain ⟨x0, x1, x2, x3, x4, x5⟩ := x
      simp only at m0 m1 m2 m3 m4 m5
      go_wp2_with (go_at_call 46; refine (O1 _).mono ?_; rintro e w1 ⟨rfl, hx1⟩
                   have HX1 := Lib.hid (HXR.out.trans hx1)
                   clear hx1)
      go_roundg (t.length - (j + 1))
      case measure => omega
      case rel => exact ⟨j + 1, congrArg (Value.int .i64) HQ.out, hlt, rfl, HO2, HX1⟩
    | false =>
      rw [ha] at O1
      have hP : posS t (atS st key) = j := posS_of hjl HO.out (fun h => by rw [HG.out]; unfold aheadS at ha; exact of_decide_eq_false ha)
      have hA := HAA.out
      rw [hP, hget] at hA
      have hz : ordS x (atS st key) = 0 ↔ x.start = st ∧ x.key = key := ordS_zero
      clear hP HAA ha hget
      obtain ⟨x0, x1, x2, x3, x4, x5⟩ := x
      simp only at m0 m1 m2 m3 m4 m5 hz hbx
      by_cases hs : x0 = st
      case neg =>
        have hb1 : (x0 == st) = false := by rw [beq_eq_false_iff_ne]; exact hs
        have hin : ¬ (j < t.length ∧ ordS (⟨x0, x1, x2, x3, x4, x5⟩ : Sm) (atS st key) = 0) := fun h => hs (hz.1 h.2).1
        clear hs
        rw [if_neg hin] at hA
        by_cases hful : 256 ≤ t.length
        · rw [if_pos hful] at hA
          subst hA
          have hfi : (256 : Int) ≤ (t.length : Int) := by omega
          clear hful hin hz hbx W1
          go_wp2_with (go_at_call 46; refine (O1 _).mono ?_; rintro e w1 ⟨rfl, hx1⟩
                       have HX1 := Lib.hid (HXR.out.trans hx1)
                       have n0 := hx1.cell m0
                       have n1 := hx1.cell m1
                       have n2 := hx1.cell m2
                       have n3 := hx1.cell m3
                       have n4 := hx1.cell m4
                       have n5 := hx1.cell m5
                       clear hx1 m0 m1 m2 m3 m4 m5)
          go_ret2
          exact ⟨_, rfl, HV.out.ext HX1.out, HX1.out⟩
        · rw [if_neg hful] at hA
          subst hA
          have hfi : ¬ (256 : Int) ≤ (t.length : Int) := by omega
          clear hful hin hz hbx W1
          go_wp2_with (go_at_call 46; refine (O1 _).mono ?_; rintro e w1 ⟨rfl, hx1⟩
                       have HX1 := Lib.hid (HXR.out.trans hx1)
                       have n0 := hx1.cell m0
                       have n1 := hx1.cell m1
                       have n2 := hx1.cell m2
                       have n3 := hx1.cell m3
                       have n4 := hx1.cell m4
                       have n5 := hx1.cell m5
                       clear hx1 m0 m1 m2 m3 m4 m5)
          have HTK : Hid (∀ W', Ext w1 W' → SRow 6 RSm (fun k => True ∧ k < w1.heap.size) W' (.slice (some ⟨b, oo, none⟩) j c) (t.take j)) := Lib.hid (fun W' hW' => sm_to ((HV.out.ext (HX1.out.trans hW')).take hjl (by omega) (Nat.le_refl c)))
          have HTD : Hid (∀ W', Ext w1 W' → SRow 6 RSm (fun k => True ∧ k < w1.heap.size) W' (.slice (cutA 6 (some ⟨b, oo, none⟩) c j) (t.length - j) (c - j)) (t.drop j)) := Lib.hid (fun W' hW' => sm_to ((HV.out.ext (HX1.out.trans hW')).drop (by omega)))
          obtain ⟨wq, hwq⟩ : ∃ wq, wq = w1 := ⟨_, rfl⟩
          subst hwq
          apply wp_region_dagF 17 (by kernel_rfl) (by kernel_rfl) (by kernel_rfl) (by decide)
          simp only [List.take_succ_cons, List.take_zero, List.drop_succ_cons, List.drop_zero]
          apply dagf_val rfl (by intro W hW H; go_simp <;> rfl)
          simp only [Act.put, List.setIfInBounds_toArray, List.set_cons_zero, List.set_cons_succ]
          apply dagf_val rfl (by intro W hW H; go_simp <;> rfl)
          simp only [Act.put, List.setIfInBounds_toArray, List.set_cons_zero, List.set_cons_succ]
          apply dagf_val rfl (by intro W hW H; go_simp <;> rfl)
          simp only [Act.put, List.setIfInBounds_toArray, List.set_cons_zero, List.set_cons_succ]
          refine' dagf_val rfl (fun W hW H => run_sliceTo T.rsms rfl rfl W j c) _
          rotate_left
          simp only [Act.put, List.setIfInBounds_toArray, List.set_cons_zero, List.set_cons_succ]
          refine' dagf_row (fun v W => ORow 69 6 RSm (fun k => True ∧ k < wq.heap.size) W wq.heap.size v (t.take j)) (ORow.resT (fun _ => True) _ _) rfl (fun W hW H => frow_items (vy := .slice (some ⟨b, oo, none⟩) j c) T.rsms rfl rfl rfl (HTK.out W hW) (by rw [List.length_take]; have := HL.out; simp only [maxLen]; omega) (by rw [List.length_take]; have := HL.out; omega) hW.size) (fun u0 => _)
          rotate_left
          simp only [Act.put, List.setIfInBounds_toArray, List.set_cons_zero, List.set_cons_succ]
          apply dagf_val rfl (by intro W hW H; go_simp <;> rfl)
          simp only [Act.put, List.setIfInBounds_toArray, List.set_cons_zero, List.set_cons_succ]
          apply dagf_val rfl (by intro W hW H; go_simp <;> rfl)
          simp only [Act.put, List.setIfInBounds_toArray, List.set_cons_zero, List.set_cons_succ]
          apply dagf_val rfl (by intro W hW H; go_simp <;> rfl)
          simp only [Act.put, List.setIfInBounds_toArray, List.set_cons_zero, List.set_cons_succ]
          apply dagf_val rfl (by intro W hW H; go_simp <;> rfl)
          simp only [Act.put, List.setIfInBounds_toArray, List.set_cons_zero, List.set_cons_succ]
          apply dagf_val rfl (by intro W hW H; go_simp <;> rfl)
          simp only [Act.put, List.setIfInBounds_toArray, List.set_cons_zero, List.set_cons_succ]
          apply dagf_val rfl (by intro W hW H; go_simp <;> rfl)
          simp only [Act.put, List.setIfInBounds_toArray, List.set_cons_zero, List.set_cons_succ]
          refine' dagf_row (fun v W => ORow 69 6 RSm (fun k => True ∧ k < wq.heap.size) W wq.heap.size v [(⟨st, key, 1, n, n, n⟩ : Sm)]) (ORow.resT (fun _ => True) _ _) rfl (fun W hW H => frow_lit1 (cs := smCells (⟨st, key, 1, n, n, n⟩ : Sm)) rfl (sm_one _) (fun _ _ => rfl) hW.size (by go_simp <;> rfl)) (fun u2 => _)
          rotate_left
          simp only [Act.put, List.setIfInBounds_toArray, List.set_cons_zero, List.set_cons_succ]
          refine' dagf_app 4 u0 _ (fun v W => ORow 69 6 RSm (fun k => True ∧ k < wq.heap.size) W wq.heap.size v (t.take j ++ [(⟨st, key, 1, n, n, n⟩ : Sm)])) (ORow.resT (fun _ => True) _ _) (by kernel_rfl) (by repeat (first | exact List.mem_cons_self | refine mem_keep ?_ (by decide) | apply List.mem_cons_of_mem)) rfl (fun W hW H => fapp_items (vx := u0) (vy := u2) T.rsms rfl rfl rfl (H (4, u0, _) (by repeat (first | exact List.mem_cons_self | refine mem_keep ?_ (by decide) | apply List.mem_cons_of_mem)) (by kernel_rfl)) (sm_to (ORow.view (H (11, u2, _) (by repeat (first | exact List.mem_cons_self | refine mem_keep ?_ (by decide) | apply List.mem_cons_of_mem)) (by kernel_rfl)))) (by rw [List.length_take]; have := HL.out; simp [maxLen]; omega) (by rw [List.length_take]; have := HL.out; simp; omega) hW.size) (fun u3 => _)
          rotate_left
          simp only [Act.put, List.setIfInBounds_toArray, List.set_cons_zero, List.set_cons_succ]
          apply dagf_val rfl (by intro W hW H; go_simp <;> rfl)
          simp only [Act.put, List.setIfInBounds_toArray, List.set_cons_zero, List.set_cons_succ]
          apply dagf_val rfl (by intro W hW H; go_simp <;> rfl)
          simp only [Act.put, List.setIfInBounds_toArray, List.set_cons_zero, List.set_cons_succ]
          refine' dagf_val rfl (fun W hW H => run_slice T.rsms rfl rfl W j t.length c) _
          rotate_left
          simp only [Act.put, List.setIfInBounds_toArray, List.set_cons_zero, List.set_cons_succ]
          refine' dagf_app 12 u3 _ (fun v W => ORow 69 6 RSm (fun k => True ∧ k < wq.heap.size) W wq.heap.size v ((t.take j ++ [(⟨st, key, 1, n, n, n⟩ : Sm)]) ++ t.drop j)) (ORow.resT (fun _ => True) _ _) (by kernel_rfl) (by repeat (first | exact List.mem_cons_self | refine mem_keep ?_ (by decide) | apply List.mem_cons_of_mem)) rfl (fun W hW H => fapp_items (vx := u3) (vy := .slice (cutA 6 (some ⟨b, oo, none⟩) c j) (t.length - j) (c - j)) T.rsms rfl rfl rfl (H (12, u3, _) (by repeat (first | exact List.mem_cons_self | refine mem_keep ?_ (by decide) | apply List.mem_cons_of_mem)) (by kernel_rfl)) (HTD.out W hW) (by rw [List.length_append, List.length_take, List.length_drop]; have := HL.out; simp [maxLen]; omega) (by rw [List.length_append, List.length_take, List.length_drop]; have := HL.out; simp; omega) hW.size) (fun u4 => _)
          rotate_left
          simp only [Act.put, List.setIfInBounds_toArray, List.set_cons_zero, List.set_cons_succ]
          refine dagf_end fun W2 hW2 H HA => ?_
          have ho9 : ORow 69 6 RSm (fun k => True ∧ k < wq.heap.size) W2 wq.heap.size u4 ((t.take j ++ [(⟨st, key, 1, n, n, n⟩ : Sm)]) ++ t.drop j) := H (16, u4, _) (by repeat (first | exact List.mem_cons_self | refine mem_keep ?_ (by decide) | apply List.mem_cons_of_mem))
          clear H HA
          go_wp2_with fail
          go_ret2
          refine ⟨_, rfl, ?_, HX1.out.trans hW2⟩
          have h9 := sm_to (T := fun _ => True) (ORow.view ho9)
          rw [List.append_assoc] at h9
          exact h9
      have hb1 : (x0 == st) = true := by rw [beq_iff_eq]; exact hs
      by_cases hky : x1 = key
      case neg =>
        have hb2 : (x1 == key) = false := by rw [beq_eq_false_iff_ne]; exact hky
        have hin : ¬ (j < t.length ∧ ordS (⟨x0, x1, x2, x3, x4, x5⟩ : Sm) (atS st key) = 0) := fun h => hky (hz.1 h.2).2
        clear hs hky
        rw [if_neg hin] at hA
        by_cases hful : 256 ≤ t.length
        · rw [if_pos hful] at hA
          subst hA
          have hfi : (256 : Int) ≤ (t.length : Int) := by omega
          clear hful hin hz hbx W1
          go_wp2_with (go_at_call 46; refine (O1 _).mono ?_; rintro e w1 ⟨rfl, hx1⟩
                       have HX1 := Lib.hid (HXR.out.trans hx1)
                       have n0 := hx1.cell m0
                       have n1 := hx1.cell m1
                       have n2 := hx1.cell m2
                       have n3 := hx1.cell m3
                       have n4 := hx1.cell m4
                       have n5 := hx1.cell m5
                       clear hx1 m0 m1 m2 m3 m4 m5)
          go_ret2
          exact ⟨_, rfl, HV.out.ext HX1.out, HX1.out⟩
        · rw [if_neg hful] at hA
          subst hA
          have hfi : ¬ (256 : Int) ≤ (t.length : Int) := by omega
          clear hful hin hz hbx W1
          go_wp2_with (go_at_call 46; refine (O1 _).mono ?_; rintro e w1 ⟨rfl, hx1⟩
                       have HX1 := Lib.hid (HXR.out.trans hx1)
                       have n0 := hx1.cell m0
                       have n1 := hx1.cell m1
                       have n2 := hx1.cell m2
                       have n3 := hx1.cell m3
                       have n4 := hx1.cell m4
                       have n5 := hx1.cell m5
                       clear hx1 m0 m1 m2 m3 m4 m5)
          have HTK : Hid (∀ W', Ext w1 W' → SRow 6 RSm (fun k => True ∧ k < w1.heap.size) W' (.slice (some ⟨b, oo, none⟩) j c) (t.take j)) := Lib.hid (fun W' hW' => sm_to ((HV.out.ext (HX1.out.trans hW')).take hjl (by omega) (Nat.le_refl c)))
          have HTD : Hid (∀ W', Ext w1 W' → SRow 6 RSm (fun k => True ∧ k < w1.heap.size) W' (.slice (cutA 6 (some ⟨b, oo, none⟩) c j) (t.length - j) (c - j)) (t.drop j)) := Lib.hid (fun W' hW' => sm_to ((HV.out.ext (HX1.out.trans hW')).drop (by omega)))
          obtain ⟨wq, hwq⟩ : ∃ wq, wq = w1 := ⟨_, rfl⟩
          subst hwq
          apply wp_region_dagF 17 (by kernel_rfl) (by kernel_rfl) (by kernel_rfl) (by decide)
          simp only [List.take_succ_cons, List.take_zero, List.drop_succ_cons, List.drop_zero]
          apply dagf_val rfl (by intro W hW H; go_simp <;> rfl)
          simp only [Act.put, List.setIfInBounds_toArray, List.set_cons_zero, List.set_cons_succ]
          apply dagf_val rfl (by intro W hW H; go_simp <;> rfl)
          simp only [Act.put, List.setIfInBounds_toArray, List.set_cons_zero, List.set_cons_succ]
          apply dagf_val rfl (by intro W hW H; go_simp <;> rfl)
          simp only [Act.put, List.setIfInBounds_toArray, List.set_cons_zero, List.set_cons_succ]
          refine' dagf_val rfl (fun W hW H => run_sliceTo T.rsms rfl rfl W j c) _
          rotate_left
          simp only [Act.put, List.setIfInBounds_toArray, List.set_cons_zero, List.set_cons_succ]
          refine' dagf_row (fun v W => ORow 69 6 RSm (fun k => True ∧ k < wq.heap.size) W wq.heap.size v (t.take j)) (ORow.resT (fun _ => True) _ _) rfl (fun W hW H => frow_items (vy := .slice (some ⟨b, oo, none⟩) j c) T.rsms rfl rfl rfl (HTK.out W hW) (by rw [List.length_take]; have := HL.out; simp only [maxLen]; omega) (by rw [List.length_take]; have := HL.out; omega) hW.size) (fun u0 => _)
          rotate_left
          simp only [Act.put, List.setIfInBounds_toArray, List.set_cons_zero, List.set_cons_succ]
          apply dagf_val rfl (by intro W hW H; go_simp <;> rfl)
          simp only [Act.put, List.setIfInBounds_toArray, List.set_cons_zero, List.set_cons_succ]
          apply dagf_val rfl (by intro W hW H; go_simp <;> rfl)
          simp only [Act.put, List.setIfInBounds_toArray, List.set_cons_zero, List.set_cons_succ]
          apply dagf_val rfl (by intro W hW H; go_simp <;> rfl)
          simp only [Act.put, List.setIfInBounds_toArray, List.set_cons_zero, List.set_cons_succ]
          apply dagf_val rfl (by intro W hW H; go_simp <;> rfl)
          simp only [Act.put, List.setIfInBounds_toArray, List.set_cons_zero, List.set_cons_succ]
          apply dagf_val rfl (by intro W hW H; go_simp <;> rfl)
          simp only [Act.put, List.setIfInBounds_toArray, List.set_cons_zero, List.set_cons_succ]
          apply dagf_val rfl (by intro W hW H; go_simp <;> rfl)
          simp only [Act.put, List.setIfInBounds_toArray, List.set_cons_zero, List.set_cons_succ]
          refine' dagf_row (fun v W => ORow 69 6 RSm (fun k => True ∧ k < wq.heap.size) W wq.heap.size v [(⟨st, key, 1, n, n, n⟩ : Sm)]) (ORow.resT (fun _ => True) _ _) rfl (fun W hW H => frow_lit1 (cs := smCells (⟨st, key, 1, n, n, n⟩ : Sm)) rfl (sm_one _) (fun _ _ => rfl) hW.size (by go_simp <;> rfl)) (fun u2 => _)
          rotate_left
          simp only [Act.put, List.setIfInBounds_toArray, List.set_cons_zero, List.set_cons_succ]
          refine' dagf_app 4 u0 _ (fun v W => ORow 69 6 RSm (fun k => True ∧ k < wq.heap.size) W wq.heap.size v (t.take j ++ [(⟨st, key, 1, n, n, n⟩ : Sm)])) (ORow.resT (fun _ => True) _ _) (by kernel_rfl) (by repeat (first | exact List.mem_cons_self | refine mem_keep ?_ (by decide) | apply List.mem_cons_of_mem)) rfl (fun W hW H => fapp_items (vx := u0) (vy := u2) T.rsms rfl rfl rfl (H (4, u0, _) (by repeat (first | exact List.mem_cons_self | refine mem_keep ?_ (by decide) | apply List.mem_cons_of_mem)) (by kernel_rfl)) (sm_to (ORow.view (H (11, u2, _) (by repeat (first | exact List.mem_cons_self | refine mem_keep ?_ (by decide) | apply List.mem_cons_of_mem)) (by kernel_rfl)))) (by rw [List.length_take]; have := HL.out; simp [maxLen]; omega) (by rw [List.length_take]; have := HL.out; simp; omega) hW.size) (fun u3 => _)
          rotate_left
          simp only [Act.put, List.setIfInBounds_toArray, List.set_cons_zero, List.set_cons_succ]
          apply dagf_val rfl (by intro W hW H; go_simp <;> rfl)
          simp only [Act.put, List.setIfInBounds_toArray, List.set_cons_zero, List.set_cons_succ]
          apply dagf_val rfl (by intro W hW H; go_simp <;> rfl)
          simp only [Act.put, List.setIfInBounds_toArray, List.set_cons_zero, List.set_cons_succ]
          refine' dagf_val rfl (fun W hW H => run_slice T.rsms rfl rfl W j t.length c) _
          rotate_left
          simp only [Act.put, List.setIfInBounds_toArray, List.set_cons_zero, List.set_cons_succ]
          refine' dagf_app 12 u3 _ (fun v W => ORow 69 6 RSm (fun k => True ∧ k < wq.heap.size) W wq.heap.size v ((t.take j ++ [(⟨st, key, 1, n, n, n⟩ : Sm)]) ++ t.drop j)) (ORow.resT (fun _ => True) _ _) (by kernel_rfl) (by repeat (first | exact List.mem_cons_self | refine mem_keep ?_ (by decide) | apply List.mem_cons_of_mem)) rfl (fun W hW H => fapp_items (vx := u3) (vy := .slice (cutA 6 (some ⟨b, oo, none⟩) c j) (t.length - j) (c - j)) T.rsms rfl rfl rfl (H (12, u3, _) (by repeat (first | exact List.mem_cons_self | refine mem_keep ?_ (by decide) | apply List.mem_cons_of_mem)) (by kernel_rfl)) (HTD.out W hW) (by rw [List.length_append, List.length_take, List.length_drop]; have := HL.out; simp [maxLen]; omega) (by rw [List.length_append, List.length_take, List.length_drop]; have := HL.out; simp; omega) hW.size) (fun u4 => _)
          rotate_left
          simp only [Act.put, List.setIfInBounds_toArray, List.set_cons_zero, List.set_cons_succ]
          refine dagf_end fun W2 hW2 H HA => ?_
          have ho9 : ORow 69 6 RSm (fun k => True ∧ k < wq.heap.size) W2 wq.heap.size u4 ((t.take j ++ [(⟨st, key, 1, n, n, n⟩ : Sm)]) ++ t.drop j) := H (16, u4, _) (by repeat (first | exact List.mem_cons_self | refine mem_keep ?_ (by decide) | apply List.mem_cons_of_mem))
          clear H HA
          go_wp2_with fail
          go_ret2
          refine ⟨_, rfl, ?_, HX1.out.trans hW2⟩
          have h9 := sm_to (T := fun _ => True) (ORow.view ho9)
          rw [List.append_assoc] at h9
          exact h9
      have hb2 : (x1 == key) = true := by rw [beq_iff_eq]; exact hky
      have hin : j < t.length ∧ ordS (⟨x0, x1, x2, x3, x4, x5⟩ : Sm) (atS st key) = 0 := ⟨hlt, hz.2 ⟨hs, hky⟩⟩
      rw [if_pos hin] at hA
      clear hs hky hz hin
      by_cases hful : 1048576 ≤ x2
      case pos =>
        rw [if_pos hful] at hA
        subst hA
        clear hbx W1
        go_wp2_with (go_at_call 46; refine (O1 _).mono ?_; rintro e w1 ⟨rfl, hx1⟩
                     have HX1 := Lib.hid (HXR.out.trans hx1)
                     have n0 := hx1.cell m0
                     have n1 := hx1.cell m1
                     have n2 := hx1.cell m2
                     have n3 := hx1.cell m3
                     have n4 := hx1.cell m4
                     have n5 := hx1.cell m5
                     clear hx1 m0 m1 m2 m3 m4 m5)
        go_ret2
        exact ⟨_, rfl, HV.out.ext HX1.out, HX1.out⟩
      rw [if_neg hful] at hA
      subst hA
      have W2 := W1 (by have := HN.out; show -9223372036854775808 ≤ x2 + 1 ∧ x2 + 1 ≤ 9223372036854775807; omega) (by have := HN.out; show -9223372036854775808 ≤ x3 + n ∧ x3 + n ≤ 9223372036854775807; omega)
      have hwi : IntKind.i64.wrap ((j : Int) + 1) = (j : Int) + 1 := by have := HL.out; rw [IntKind.wrap_i64]; omega
      have hfu : ¬ (1048576 : Int) ≤ x2 := hful
      clear hful hbx W1
      go_wp2_with (go_at_call 46; refine (O1 _).mono ?_; rintro e w1 ⟨rfl, hx1⟩
                   have HX1 := Lib.hid (HXR.out.trans hx1)
                   have n0 := hx1.cell m0
                   have n1 := hx1.cell m1
                   have n2 := hx1.cell m2
                   have n3 := hx1.cell m3
                   have n4 := hx1.cell m4
                   have n5 := hx1.cell m5
                   clear hx1 m0 m1 m2 m3 m4 m5)
      have HTK : Hid (∀ W', Ext w1 W' → SRow 6 RSm (fun k => True ∧ k < w1.heap.size) W' (.slice (some ⟨b, oo, none⟩) j c) (t.take j)) := Lib.hid (fun W' hW' => sm_to ((HV.out.ext (HX1.out.trans hW')).take hjl (by omega) (Nat.le_refl c)))
      have HTD : Hid (∀ W', Ext w1 W' → SRow 6 RSm (fun k => True ∧ k < w1.heap.size) W' (.slice (cutA 6 (some ⟨b, oo, none⟩) c (j + 1)) (t.length - (j + 1)) (c - (j + 1))) (t.drop (j + 1))) := Lib.hid (fun W' hW' => sm_to ((HV.out.ext (HX1.out.trans hW')).drop (by omega)))
      obtain ⟨wq, hwq⟩ : ∃ wq, wq = w1 := ⟨_, rfl⟩
      subst hwq
      apply wp_region_dagF 18 (by kernel_rfl) (by kernel_rfl) (by kernel_rfl) (by decide)
      simp only [List.take_succ_cons, List.take_zero, List.drop_succ_cons, List.drop_zero]
      apply dagf_val rfl (by intro W hW H; go_simp <;> rfl)
      simp only [Act.put, List.setIfInBounds_toArray, List.set_cons_zero, List.set_cons_succ]
      apply dagf_val rfl (by intro W hW H; go_simp <;> rfl)
      simp only [Act.put, List.setIfInBounds_toArray, List.set_cons_zero, List.set_cons_succ]
      apply dagf_val rfl (by intro W hW H; go_simp <;> rfl)
      simp only [Act.put, List.setIfInBounds_toArray, List.set_cons_zero, List.set_cons_succ]
      refine' dagf_val rfl (fun W hW H => run_sliceTo T.rsms rfl rfl W j c) _
      rotate_left
      simp only [Act.put, List.setIfInBounds_toArray, List.set_cons_zero, List.set_cons_succ]
      refine' dagf_row (fun v W => ORow 69 6 RSm (fun k => True ∧ k < wq.heap.size) W wq.heap.size v (t.take j)) (ORow.resT (fun _ => True) _ _) rfl (fun W hW H => frow_items (vy := .slice (some ⟨b, oo, none⟩) j c) T.rsms rfl rfl rfl (HTK.out W hW) (by rw [List.length_take]; have := HL.out; simp only [maxLen]; omega) (by rw [List.length_take]; have := HL.out; omega) hW.size) (fun u0 => _)
      rotate_left
      simp only [Act.put, List.setIfInBounds_toArray, List.set_cons_zero, List.set_cons_succ]
      apply dagf_val rfl (by intro W hW H; go_simp <;> rfl)
      simp only [Act.put, List.setIfInBounds_toArray, List.set_cons_zero, List.set_cons_succ]
      apply dagf_val rfl (by intro W hW H; go_simp <;> rfl)
      simp only [Act.put, List.setIfInBounds_toArray, List.set_cons_zero, List.set_cons_succ]
      apply dagf_val rfl (by intro W hW H; go_simp <;> rfl)
      simp only [Act.put, List.setIfInBounds_toArray, List.set_cons_zero, List.set_cons_succ]
      apply dagf_val rfl (by intro W hW H; have q0 := hW.cell n0; have q1 := hW.cell n1; have q2 := hW.cell n2; have q3 := hW.cell n3; have q4 := hW.cell n4; have q5 := hW.cell n5; go_simp <;> rfl)
      simp only [Act.put, List.setIfInBounds_toArray, List.set_cons_zero, List.set_cons_succ]
      apply dagf_val rfl (by intro W hW H; go_simp <;> rfl)
      simp only [Act.put, List.setIfInBounds_toArray, List.set_cons_zero, List.set_cons_succ]
      refine' dagf_call rfl (by intro W; go_simp <;> rfl) (fun W hW H => W2 W) _
      rotate_left
      simp only [Act.put, List.setIfInBounds_toArray, List.set_cons_zero, List.set_cons_succ]
      refine' dagf_row (fun v W => ORow 69 6 RSm (fun k => True ∧ k < wq.heap.size) W wq.heap.size v [(withS ⟨x0, x1, x2, x3, x4, x5⟩ n)]) (ORow.resT (fun _ => True) _ _) rfl (fun W hW H => frow_lit1 (cs := smCells (withS ⟨x0, x1, x2, x3, x4, x5⟩ n)) rfl (sm_one _) (fun _ _ => rfl) hW.size (by go_simp <;> rfl)) (fun u2 => _)
      rotate_left
      simp only [Act.put, List.setIfInBounds_toArray, List.set_cons_zero, List.set_cons_succ]
      refine' dagf_app 4 u0 _ (fun v W => ORow 69 6 RSm (fun k => True ∧ k < wq.heap.size) W wq.heap.size v (t.take j ++ [(withS ⟨x0, x1, x2, x3, x4, x5⟩ n)])) (ORow.resT (fun _ => True) _ _) (by kernel_rfl) (by repeat (first | exact List.mem_cons_self | refine mem_keep ?_ (by decide) | apply List.mem_cons_of_mem)) rfl (fun W hW H => fapp_items (vx := u0) (vy := u2) T.rsms rfl rfl rfl (H (4, u0, _) (by repeat (first | exact List.mem_cons_self | refine mem_keep ?_ (by decide) | apply List.mem_cons_of_mem)) (by kernel_rfl)) (sm_to (ORow.view (H (11, u2, _) (by repeat (first | exact List.mem_cons_self | refine mem_keep ?_ (by decide) | apply List.mem_cons_of_mem)) (by kernel_rfl)))) (by rw [List.length_take]; have := HL.out; simp [maxLen]; omega) (by rw [List.length_take]; have := HL.out; simp; omega) hW.size) (fun u3 => _)
      rotate_left
      simp only [Act.put, List.setIfInBounds_toArray, List.set_cons_zero, List.set_cons_succ]
      apply dagf_val rfl (by intro W hW H; go_simp <;> rfl)
      simp only [Act.put, List.setIfInBounds_toArray, List.set_cons_zero, List.set_cons_succ]
      apply dagf_val rfl (by intro W hW H; go_simp <;> rfl)
      simp only [Act.put, List.setIfInBounds_toArray, List.set_cons_zero, List.set_cons_succ]
      apply dagf_val rfl (by intro W hW H; go_simp <;> rfl)
      simp only [Act.put, List.setIfInBounds_toArray, List.set_cons_zero, List.set_cons_succ]
      refine' dagf_val rfl (fun W hW H => run_slice T.rsms rfl rfl W (j + 1) t.length c) _
      rotate_left
      simp only [Act.put, List.setIfInBounds_toArray, List.set_cons_zero, List.set_cons_succ]
      refine' dagf_app 12 u3 _ (fun v W => ORow 69 6 RSm (fun k => True ∧ k < wq.heap.size) W wq.heap.size v ((t.take j ++ [(withS ⟨x0, x1, x2, x3, x4, x5⟩ n)]) ++ t.drop (j + 1))) (ORow.resT (fun _ => True) _ _) (by kernel_rfl) (by repeat (first | exact List.mem_cons_self | refine mem_keep ?_ (by decide) | apply List.mem_cons_of_mem)) rfl (fun W hW H => fapp_items (vx := u3) (vy := .slice (cutA 6 (some ⟨b, oo, none⟩) c (j + 1)) (t.length - (j + 1)) (c - (j + 1))) T.rsms rfl rfl rfl (H (12, u3, _) (by repeat (first | exact List.mem_cons_self | refine mem_keep ?_ (by decide) | apply List.mem_cons_of_mem)) (by kernel_rfl)) (HTD.out W hW) (by rw [List.length_append, List.length_take, List.length_drop]; have := HL.out; simp [maxLen]; omega) (by rw [List.length_append, List.length_take, List.length_drop]; have := HL.out; simp; omega) hW.size) (fun u4 => _)
      rotate_left
      simp only [Act.put, List.setIfInBounds_toArray, List.set_cons_zero, List.set_cons_succ]
      refine dagf_end fun W2 hW2 H HA => ?_
      have ho9 : ORow 69 6 RSm (fun k => True ∧ k < wq.heap.size) W2 wq.heap.size u4 ((t.take j ++ [(withS ⟨x0, x1, x2, x3, x4, x5⟩ n)]) ++ t.drop (j + 1)) := H (17, u4, _) (by repeat (first | exact List.mem_cons_self | refine mem_keep ?_ (by decide) | apply List.mem_cons_of_mem))
      clear H HA
      go_wp2_with fail
      go_ret2
      refine ⟨_, rfl, ?_, HX1.out.trans hW2⟩
      have h9 := sm_to (T := fun _ => True) (ORow.view ho9)
      rw [List.append_assoc] at h9
      show SmV _ _ (t.set j _)
      rw [List.set_eq_take_append_cons_drop, if_pos hlt]
      exact h9
end Go.Proofs.Ytpejdompanhieaa
