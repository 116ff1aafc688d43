/- One byte off a reader: the document's. What the document's small functions of layer 21 compute: Check, the records. -/
import Derived.Test.YtdklpenpmeplfaaVarF
import Derived.Test.YtdklpenpmeplfaaCmG
namespace Go.Proofs.Ytdklpenpmeplfaa
open Go.RowKit

set_option maxHeartbeats 2000000 in
theorem rfix1_any (v : Value) (r : RdV) (wv w : World) (hv : BV wv v r.b) (hvx : Ext wv w) :
    Calls Try.prog 39 #[rdv v r.e, .int .i64 1] w fun e w' => ∃ v', e = .returned (.tuple #[rdv v' (fixR r).e, .int .u64 (fixN r)]) ∧ BV wv v' (fixR r).b ∧ Ext w w' := by
  have h := hv.ext hvx
  obtain ⟨p, c, rfl, hn, hc, hs⟩ := id h
  have hx0 := (Ext.alloc w (.cells #[Value.slice p r.b.length c, Value.int IntKind.i64 r.e] 76)).trans (Ext.alloc _ (.cells #[Value.slice none 0 0, Value.int IntKind.i64 0] 76))
  by_cases he : r.e = 0
  case neg =>
    have hz : (r.e != 0) = true := by rw [bne_iff_ne]; exact he
    have e1 : fixN r = 0 := by unfold fixN; rw [if_neg he]
    have e2 : fixR r = r := by unfold fixR; rw [if_neg he]
    rw [e1, e2]
    clear he e1 e2
    obtain ⟨rb, re⟩ := r
    simp only at *
    go_enter Try.func39, Try.ntmps39
    go_wp2_with fail
    refine bodyPost_ret (rd_results rfl _ _ (w.heap.size + 1) _ _ rfl (heap_alloc2_new w _ _)) rfl ?_
    have hx2 := (Ext.alloc w (.cells #[Value.slice p rb.length c, Value.int IntKind.i64 re] 76)).trans (Ext.alloc _ (.cells #[Value.slice p rb.length c, Value.int IntKind.i64 re] 76))
    exact ⟨_, rfl, hv, hx2⟩
  obtain ⟨e1, e2⟩ := fix_take r he
  rw [← e1, ← e2]
  obtain ⟨rb, re⟩ := r
  simp only at *
  subst he
  clear e1 e2
  by_cases hlt : rb.length < 1
  · have hlt2 : (rb.length : Int) < 1 := by omega
    have et : takeL ⟨rb, 0⟩ 1 = [] := by unfold takeL; rw [if_pos hlt]
    have er : takeR ⟨rb, 0⟩ 1 = ⟨rb, 3⟩ := by unfold takeR; rw [if_pos hlt]
    rw [et, er, unfixed_none]
    clear et er
    go_enter Try.func39, Try.ntmps39
    go_wp2_with fail
    refine bodyPost_ret (rd_results rfl _ _ (w.heap.size + 1) _ _ rfl (heap_alloc2_new w _ _)) rfl ?_
    have hx2 := (Ext.alloc w (.cells #[Value.slice p rb.length c, Value.int IntKind.i64 0] 76)).trans (Ext.alloc _ (.cells #[Value.slice p rb.length c, Value.int IntKind.i64 3] 76))
    exact ⟨_, rfl, hv, hx2⟩
  · have hlt2 : ¬ (rb.length : Int) < 1 := by omega
    have et : takeL ⟨rb, 0⟩ 1 = rb.take 1 := by unfold takeL; rw [if_neg hlt]
    have er : takeR ⟨rb, 0⟩ 1 = ⟨rb.drop 1, 0⟩ := by unfold takeR; rw [if_neg hlt]
    rw [et, er]
    clear et er
    have ho1 : ObjAt ((w.alloc (.cells #[Value.slice p rb.length c, Value.int IntKind.i64 0] 76)).alloc (.cells #[Value.slice none 0 0, Value.int IntKind.i64 0] 76)) w.heap.size 76 [.slice p rb.length c, .int .i64 0] := heap_alloc2_old w _ _
    have ho2 : ObjAt ((w.alloc (.cells #[Value.slice p rb.length c, Value.int IntKind.i64 0] 76)).alloc (.cells #[Value.slice none 0 0, Value.int IntKind.i64 0] 76)) (w.heap.size + 1) 76 [.slice none 0 0, .int .i64 0] := heap_alloc2_new w _ _
    have hd0 := ho1.cell (j := 0) (u := .slice p rb.length c) rfl
    have ht1 : BV wv (.slice p 1 c) (rb.take 1) := hv.take (by omega) (by omega) (Nat.le_refl _)
    have hd3 := hv.drop (k := 1) (by omega)
    go_enter Try.func39, Try.ntmps39
    go_wp2_with fail
    obtain ⟨w0, hw0⟩ : ∃ w0, w0 = (w.alloc (.cells #[Value.slice p rb.length c, Value.int IntKind.i64 0] 76)).alloc (.cells #[Value.slice none 0 0, Value.int IntKind.i64 0] 76) := ⟨_, rfl⟩
    rw [← hw0] at hx0 ho1 ho2 hd0 ⊢
    clear hw0
    have gc : ∀ W, w0.grownBy W (some (w.heap.size + 1)) → W.cell? ⟨w.heap.size, 0, none⟩ = some (.slice p rb.length c) ∧ Ext wv W := fun W hg =>
      ⟨(grown_keeps hg).cell (by simp) hd0, (hvx.trans hx0).grown hg (by have := hvx.size; omega)⟩
    apply wp_region_dagY 10 11 (fun a b => a.grownBy b (some (w.heap.size + 1))) (fun a b => a.grownBy b (some (w.heap.size + 1))) (X := Ext) (by kernel_rfl) (by kernel_rfl) (by kernel_rfl) (by decide) (by decide) (fun _ _ _ => Ext.trans) (fun _ _ _ => World.grownBy.trans) (fun _ _ h => h.grownBy _) (fun _ _ h => h) (Ext.drew1 _)
    simp only [List.take_succ_cons, List.take_zero, List.drop_succ_cons, List.drop_zero]
    apply dagy_val Ext.refl rfl (by intro W hW H; go_simp <;> rfl)
    simp only [Act.put, List.setIfInBounds_toArray, List.set_cons_zero, List.set_cons_succ]
    apply dagy_val Ext.refl rfl (by intro W hW H; have hq := (gc W hW.1).1; go_simp <;> rfl)
    simp only [Act.put, List.setIfInBounds_toArray, List.set_cons_zero, List.set_cons_succ]
    apply dagy_val Ext.refl rfl (by intro W hW H; go_simp <;> rfl)
    simp only [Act.put, List.setIfInBounds_toArray, List.set_cons_zero, List.set_cons_succ]
    refine' dagy_val Ext.refl rfl (fun W hW H => run_slice T.bytes rfl rfl W 1 rb.length c) _
    rotate_left
    simp only [Act.put, List.setIfInBounds_toArray, List.set_cons_zero, List.set_cons_succ]
    apply dagy_val Ext.refl rfl (by intro W hW H; go_simp <;> rfl)
    simp only [Act.put, List.setIfInBounds_toArray, List.set_cons_zero, List.set_cons_succ]
    apply dagy_val Ext.refl rfl (by intro W hW H; go_simp <;> rfl)
    simp only [Act.put, List.setIfInBounds_toArray, List.set_cons_zero, List.set_cons_succ]
    apply dagy_val Ext.refl rfl (by intro W hW H; have hq := (gc W hW.1).1; go_simp <;> rfl)
    simp only [Act.put, List.setIfInBounds_toArray, List.set_cons_zero, List.set_cons_succ]
    apply dagy_val Ext.refl rfl (by intro W hW H; go_simp <;> rfl)
    simp only [Act.put, List.setIfInBounds_toArray, List.set_cons_zero, List.set_cons_succ]
    refine' dagy_val Ext.refl rfl (fun W hW H => run_sliceTo T.bytes rfl rfl W 1 c) _
    rotate_left
    simp only [Act.put, List.setIfInBounds_toArray, List.set_cons_zero, List.set_cons_succ]
    refine' dagy_call rfl (by intro W; go_simp <;> rfl) (fun W hW H => (runfixed_any (.slice p 1 c) (rb.take 1) W (ht1.ext (gc W hW.1).2) (by rw [List.length_take]; omega)).mono (by rintro e w' ⟨rfl, rfl⟩; exact ⟨rfl, Ext.refl _⟩)) _
    rotate_left
    simp only [Act.put, List.setIfInBounds_toArray, List.set_cons_zero, List.set_cons_succ]
    refine' dagy_store (fun W => ObjAt W (w.heap.size + 1) 76 [.slice (cutA 1 p c 1) (rb.length - 1) (c - 1), .int .i64 0] ∧ Ext w W) (fun W W' hs hh => hs.elim (fun hx => ⟨hh.1.ext hx, hh.2.trans hx⟩) fun hz => absurd rfl hz.1) rfl (fun W hW H => by have hX := hW.2 (by kernel_rfl); obtain ⟨⟨hg0, hk0, hg1, hk1⟩, ho5⟩ := (ho2.ext hX).stored2 (.slice (cutA 1 p c 1) (rb.length - 1) (c - 1)) (.int .i64 0); exact ⟨_, (by go_simp <;> rfl), (by unfold StepY; rw [if_pos rfl]; exact (grown_set _ ⟨w.heap.size + 1, 0, none⟩ _).trans (grown_set _ ⟨w.heap.size + 1, 1, none⟩ _)), ho5, ((hx0.trans hX).store (p := ⟨w.heap.size + 1, 0, none⟩) (by simp) _).store (p := ⟨w.heap.size + 1, 1, none⟩) (by simp) _⟩) (fun u => _)
    rotate_left
    simp only [Act.put]
    refine dagy_end fun W3 H => ?_
    obtain ⟨ho5, hx3⟩ : ObjAt W3 (w.heap.size + 1) 76 [.slice (cutA 1 p c 1) (rb.length - 1) (c - 1), .int .i64 0] ∧ Ext w W3 := H 10
    clear H gc
    go_wp2_with fail
    refine bodyPost_ret (rd_results rfl _ _ (w.heap.size + 1) _ _ rfl ho5) rfl ?_
    exact ⟨_, rfl, hd3, hx3⟩
set_option maxHeartbeats 1000000 in
theorem rcheck_any (c : Cm) (w : World) :
    Calls Try.prog 18 #[cmv c] w fun e w' => e = .returned (.int .i64 (checkC c)) ∧ Ext w w' := by
  unfold checkC
  obtain ⟨g, t, i, o⟩ := c
  have hx0 := Ext.alloc w (.cells #[.string ⟨g.toArray⟩, .string ⟨t.toArray⟩, .int .i64 i, .int .i64 o] 23)
  have hs1 : (ByteArray.mk g.toArray).size = g.length := text_size _
  have hs2 : (ByteArray.mk t.toArray).size = t.length := text_size _
  simp only
  by_cases h0 : (g.length : Int) < 1
  · rw [if_pos (by omega)]
    go_enter Try.func18, Try.ntmps18
    go_wp2_with fail
    go_ret
    exact ⟨rfl, hx0⟩
  by_cases h1 : 20 < (g.length : Int)
  · rw [if_pos (by omega)]
    go_enter Try.func18, Try.ntmps18
    go_wp2_with fail
    go_ret
    exact ⟨rfl, hx0⟩
  by_cases h2 : (t.length : Int) < 1
  · rw [if_pos (by omega)]
    go_enter Try.func18, Try.ntmps18
    go_wp2_with fail
    go_ret
    exact ⟨rfl, hx0⟩
  by_cases h3 : 32 < (t.length : Int)
  · rw [if_pos (by omega)]
    go_enter Try.func18, Try.ntmps18
    go_wp2_with fail
    go_ret
    exact ⟨rfl, hx0⟩
  by_cases h4 : i < 0
  · rw [if_neg (by omega), if_pos (by omega)]
    go_enter Try.func18, Try.ntmps18
    go_wp2_with fail
    go_ret
    exact ⟨rfl, hx0⟩
  by_cases h5 : 7 < i
  · rw [if_neg (by omega), if_pos (by omega)]
    go_enter Try.func18, Try.ntmps18
    go_wp2_with fail
    go_ret
    exact ⟨rfl, hx0⟩
  by_cases h6 : o < 0
  · rw [if_neg (by omega), if_pos (by omega)]
    go_enter Try.func18, Try.ntmps18
    go_wp2_with fail
    go_ret
    exact ⟨rfl, hx0⟩
  by_cases h7 : 4611686018427387903 < o
  · rw [if_neg (by omega), if_pos (by omega)]
    go_enter Try.func18, Try.ntmps18
    go_wp2_with fail
    go_ret
    exact ⟨rfl, hx0⟩
  rw [if_neg (by omega), if_neg (by omega)]
  go_enter Try.func18, Try.ntmps18
  go_wp2_with fail
  go_ret
  exact ⟨rfl, hx0⟩
theorem layC_under {c : Cm} {time : Int} {dead : Bool} (h : checkC c = 0) (h2 : time < 0) : layC c time dead = (rec0, 11) := by
  unfold layC; rw [if_neg (by simp [h]), if_pos (.inl h2)]
theorem layC_over {c : Cm} {time : Int} {dead : Bool} (h : checkC c = 0) (h2 : 1099511627776 < time) : layC c time dead = (rec0, 11) := by
  unfold layC; rw [if_neg (by simp [h]), if_pos (.inr h2)]
theorem layC_fine {c : Cm} {time : Int} {dead : Bool} (h : checkC c = 0) (h2 : ¬ time < 0) (h3 : ¬ 1099511627776 < time) : layC c time dead = (⟨0, time, true, keyC c, dead, if dead then [] else putV c.offset⟩, 0) := by
  unfold layC; rw [if_neg (by simp [h]), if_neg (fun hh => hh.elim h2 h3)]
set_option maxRecDepth 20000 in
set_option maxHeartbeats 1000000 in
theorem rlay_any (c : Cm) (time : Int) (dead : Bool) (w : World) :
    Calls Try.prog 31 #[cmv c, .int .i64 time, .bool dead] w fun e w' => e = .returned (.tuple #[recv (layC c time dead).1, .int .i64 (layC c time dead).2]) ∧ Ext w w' := by
  have C1 := fun W => rcheck_any c W
  by_cases h1 : checkC c = 0
  case neg =>
    rw [layC_bad h1]
    have hb : (checkC c != 0) = true := by rw [bne_iff_ne]; exact h1
    generalize checkC c = k at *
    obtain ⟨g, t, i, o⟩ := c
    obtain ⟨oa, ob, hx0, hsz⟩ := objs2 w 23 25 [.string ⟨g.toArray⟩, .string ⟨t.toArray⟩, .int .i64 i, .int .i64 o] (recCells rec0)
    have HSZ := Lib.hid hsz
    clear hsz
    clear h1
    go_enter Try.func31, Try.ntmps31
    go_wp2_with (first
      | (go_at_call 18; refine (C1 _).mono ?_; rintro e w1 ⟨rfl, hx1⟩
         have o2 := ob.ext hx1)
      | ((with_reducible show wpList _ _ _ (Oper.mk _ (Op.store _ _ _) _ _ _ _ :: _) _ _); refine st_put (vs := recCells rec0) o2 T.recSize rfl (rec_one _) ?_; intro w2 o3 hg2))
    refine bodyPost_ret (rec_results2 rfl _ _ (w.heap.size + 1) rec0 rfl o3) rfl ?_
    exact ⟨rfl, (hx0.trans hx1).grown hg2 (Nat.le_succ _)⟩
  rw [h1] at C1
  by_cases h2 : time < 0
  · rw [layC_under h1 h2]
    clear h1
    obtain ⟨g, t, i, o⟩ := c
    obtain ⟨oa, ob, hx0, hsz⟩ := objs2 w 23 25 [.string ⟨g.toArray⟩, .string ⟨t.toArray⟩, .int .i64 i, .int .i64 o] (recCells rec0)
    have HSZ := Lib.hid hsz
    clear hsz
    go_enter Try.func31, Try.ntmps31
    go_wp2_with (first
      | (go_at_call 18; refine (C1 _).mono ?_; rintro e w1 ⟨rfl, hx1⟩
         have o2 := ob.ext hx1)
      | ((with_reducible show wpList _ _ _ (Oper.mk _ (Op.store _ _ _) _ _ _ _ :: _) _ _); refine st_put (vs := recCells rec0) o2 T.recSize rfl (rec_one _) ?_; intro w2 o3 hg2))
    refine bodyPost_ret (rec_results2 rfl _ _ (w.heap.size + 1) rec0 rfl o3) rfl ?_
    exact ⟨rfl, (hx0.trans hx1).grown hg2 (Nat.le_succ _)⟩
  by_cases h3 : 1099511627776 < time
  · rw [layC_over h1 h3]
    clear h1
    obtain ⟨g, t, i, o⟩ := c
    obtain ⟨oa, ob, hx0, hsz⟩ := objs2 w 23 25 [.string ⟨g.toArray⟩, .string ⟨t.toArray⟩, .int .i64 i, .int .i64 o] (recCells rec0)
    have HSZ := Lib.hid hsz
    clear hsz
    go_enter Try.func31, Try.ntmps31
    go_wp2_with (first
      | (go_at_call 18; refine (C1 _).mono ?_; rintro e w1 ⟨rfl, hx1⟩
         have o2 := ob.ext hx1)
      | ((with_reducible show wpList _ _ _ (Oper.mk _ (Op.store _ _ _) _ _ _ _ :: _) _ _); refine st_put (vs := recCells rec0) o2 T.recSize rfl (rec_one _) ?_; intro w2 o3 hg2))
    refine bodyPost_ret (rec_results2 rfl _ _ (w.heap.size + 1) rec0 rfl o3) rfl ?_
    exact ⟨rfl, (hx0.trans hx1).grown hg2 (Nat.le_succ _)⟩
  rw [layC_fine h1 h2 h3]
  obtain ⟨l1, l2, l3, l4, l5, l6, l7, l8⟩ := checkC_ok h1
  clear h1
  unfold keyC
  obtain ⟨g, t, i, o⟩ := c
  simp only at *
  obtain ⟨oa, ob, hx0, hsz⟩ := objs2 w 23 25 [.string ⟨g.toArray⟩, .string ⟨t.toArray⟩, .int .i64 i, .int .i64 o] (recCells rec0)
  have HSZ := Lib.hid hsz
  clear hsz
  have a0 := oa.cell (j := 0) rfl
  have a1 := oa.cell (j := 1) rfl
  have a2 := oa.cell (j := 2) rfl
  have a3 := oa.cell (j := 3) rfl
  have p1 := (vb_length (zig (g.length : Int))).2
  have p2 := (vb_length (zig (t.length : Int))).2
  have HLEN : Hid ((textV g).length + (textV t).length ≤ 1000) := by
    show _ ≤ _
    simp only [textV, putV, List.length_append]; omega
  have HG : Hid (g.length ≤ 1000) := Lib.hid (by omega)
  have HT : Hid (t.length ≤ 1000) := Lib.hid (by omega)
  have HO1 : Hid (-9223372036854775808 ≤ o) := Lib.hid (by omega)
  have HO2 : Hid (o ≤ 9223372036854775807) := Lib.hid (by omega)
  obtain ⟨n, rfl⟩ : ∃ n : Nat, i = (n : Int) := ⟨i.toNat, by omega⟩
  have hwi : IntKind.u8.wrap (n : Int) = ((UInt8.ofNat n).toNat : Int) := by
    rw [IntKind.wrap_u8, UInt8.toNat_ofNat']; omega
  rw [Int.toNat_natCast]
  clear p1 p2 l1 l2 l3 l4 l5 l6 l7 l8 oa
  generalize UInt8.ofNat n = x at *
  cases dead
  case true =>
    simp only [if_true]
    go_enter Try.func31, Try.ntmps31
    go_wp2_with (go_at_call 18; refine (C1 _).mono ?_; rintro e w1 ⟨rfl, hx1⟩
                 have b0 := hx1.cell a0
                 have b1 := hx1.cell a1
                 have b2 := hx1.cell a2
                 have b3 := hx1.cell a3
                 have ob1 := ob.ext hx1)
    have HX1 := Lib.hid (hx0.trans hx1)
    apply wp_region_dagF 6 (by kernel_rfl) (by kernel_rfl) (by kernel_rfl) (by decide)
    simp only [List.take_succ_cons, List.take_zero, List.drop_succ_cons, List.drop_zero]
    apply dagf_val rfl (by intro W hW H; go_simp <;> rfl)
    simp only [Act.put, List.setIfInBounds_toArray, List.set_cons_zero, List.set_cons_succ]
    apply dagf_val rfl (by intro W hW H; have hq := hW.cell b0; go_simp <;> rfl)
    simp only [Act.put, List.setIfInBounds_toArray, List.set_cons_zero, List.set_cons_succ]
    refine' dagf_calls (fun v W => FB W w1.heap.size v (textV g)) (FB.res _ _) rfl (by intro W; go_simp <;> rfl) (fun W hW H => (rtextp_any g (by have := HG.out; omega) W).mono (by rintro e w' ⟨v3, rfl, hf3, hx3⟩; exact ⟨v3, rfl, FB.base hf3 hW.size, hf3.fresh, hx3⟩)) (fun v1 => _)
    rotate_left
    simp only [Act.put, List.setIfInBounds_toArray, List.set_cons_zero, List.set_cons_succ]
    apply dagf_val rfl (by intro W hW H; go_simp <;> rfl)
    simp only [Act.put, List.setIfInBounds_toArray, List.set_cons_zero, List.set_cons_succ]
    apply dagf_val rfl (by intro W hW H; have hq := hW.cell b1; go_simp <;> rfl)
    simp only [Act.put, List.setIfInBounds_toArray, List.set_cons_zero, List.set_cons_succ]
    refine' dagf_calls (fun v W => FB W w1.heap.size v (textV t)) (FB.res _ _) rfl (by intro W; go_simp <;> rfl) (fun W hW H => (rtextp_any t (by have := HT.out; omega) W).mono (by rintro e w' ⟨v3, rfl, hf3, hx3⟩; exact ⟨v3, rfl, FB.base hf3 hW.size, hf3.fresh, hx3⟩)) (fun v2 => _)
    rotate_left
    simp only [Act.put, List.setIfInBounds_toArray, List.set_cons_zero, List.set_cons_succ]
    refine dagf_end fun W hW H HA => ?_
    have hf1 : FB W w1.heap.size v1 (textV g) := H (2, v1, _) (by repeat (first | exact List.mem_cons_self | refine mem_keep ?_ (by decide) | apply List.mem_cons_of_mem))
    have hf2 : FB W w1.heap.size v2 (textV t) := H (5, v2, _) (by repeat (first | exact List.mem_cons_self | refine mem_keep ?_ (by decide) | apply List.mem_cons_of_mem))
    clear H HA
    have HWS := Lib.hid hW.size
    have k2 := hW.cell b2
    go_wp2_with (first
      | (at_builtin; refine st_append T.bytes hf1 hf2.view ?_ (by have := HLEN.out; omega) HWS.out; intro v3 w3 hf3 hg3 _
         have hx3 := hW.append hf1 hg3
         have k3 := hx3.cell b2
         have hf4 := hf3.keep (Ext.alloc w3 (.cells #[bv x] 5))
         have hl := FB.lit1 (B := 0) w3 (Nat.zero_le _) x
         have HX4 := Lib.hid (hx3.trans (Ext.alloc w3 (.cells #[bv x] 5))))
      | (at_builtin; refine st_append T.bytes hf4 hl.view ?_ (by have := HLEN.out; simp only [List.length_append, List.length_singleton]; omega) HX4.out.size; intro v5 w5 hf5 hg5 _
         have HX5 := Lib.hid (HX4.out.append hf4 hg5)
         have hxn := Ext.alloc w5 (.cells #[.int .i64 0, .int .i64 time, .bool true, .string ⟨(textV g ++ textV t ++ [x]).toArray⟩, .bool true, .string ⟨#[]⟩] 25)
         have on : ObjAt (w5.alloc (.cells #[.int .i64 0, .int .i64 time, .bool true, .string ⟨(textV g ++ textV t ++ [x]).toArray⟩, .bool true, .string ⟨#[]⟩] 25)) w5.heap.size 25 (recCells ⟨0, time, true, textV g ++ textV t ++ [x], true, []⟩) := heap_alloc_new w5 _
         have ob2 := (ob1.ext HX5.out).ext hxn
         simp only [List.append_assoc] at hxn on ob2
         have d0 := on.cell (j := 0) rfl
         have d1 := on.cell (j := 1) rfl
         have d2 := on.cell (j := 2) rfl
         have d3 := on.cell (j := 3) rfl
         have d4 := on.cell (j := 4) rfl
         have d5 := on.cell (j := 5) rfl
         have HXN := Lib.hid ((HX1.out.trans HX5.out).trans hxn))
      | ((with_reducible show wpList _ _ _ (Oper.mk _ (Op.convert _ _ _) _ _ _ _ :: _) _ _); refine st_string T.bytes T.u8 T.str hf5.view ?_)
      | ((with_reducible show wpList _ _ _ (Oper.mk _ (Op.store _ _ _) _ _ _ _ :: _) _ _); refine st_put (vs := recCells ⟨0, time, true, textV g ++ (textV t ++ [x]), true, []⟩) ob2 T.recSize rfl (rec_one _) ?_; intro w6 o6 hg6))

    refine bodyPost_ret (rec_results2 rfl _ _ (w.heap.size + 1) ⟨0, time, true, textV g ++ (textV t ++ [x]), true, []⟩ rfl o6) rfl ?_
    exact ⟨rfl, HXN.out.grown hg6 (Nat.le_succ _)⟩
  case false =>
    simp only [Bool.false_eq_true, if_false]
    go_enter Try.func31, Try.ntmps31
    go_wp2_with (go_at_call 18; refine (C1 _).mono ?_; rintro e w1 ⟨rfl, hx1⟩
                 have b0 := hx1.cell a0
                 have b1 := hx1.cell a1
                 have b2 := hx1.cell a2
                 have b3 := hx1.cell a3
                 have ob1 := ob.ext hx1)
    have HX1 := Lib.hid (hx0.trans hx1)
    apply wp_region_dagF 6 (by kernel_rfl) (by kernel_rfl) (by kernel_rfl) (by decide)
    simp only [List.take_succ_cons, List.take_zero, List.drop_succ_cons, List.drop_zero]
    apply dagf_val rfl (by intro W hW H; go_simp <;> rfl)
    simp only [Act.put, List.setIfInBounds_toArray, List.set_cons_zero, List.set_cons_succ]
    apply dagf_val rfl (by intro W hW H; have hq := hW.cell b0; go_simp <;> rfl)
    simp only [Act.put, List.setIfInBounds_toArray, List.set_cons_zero, List.set_cons_succ]
    refine' dagf_calls (fun v W => FB W w1.heap.size v (textV g)) (FB.res _ _) rfl (by intro W; go_simp <;> rfl) (fun W hW H => (rtextp_any g (by have := HG.out; omega) W).mono (by rintro e w' ⟨v3, rfl, hf3, hx3⟩; exact ⟨v3, rfl, FB.base hf3 hW.size, hf3.fresh, hx3⟩)) (fun v1 => _)
    rotate_left
    simp only [Act.put, List.setIfInBounds_toArray, List.set_cons_zero, List.set_cons_succ]
    apply dagf_val rfl (by intro W hW H; go_simp <;> rfl)
    simp only [Act.put, List.setIfInBounds_toArray, List.set_cons_zero, List.set_cons_succ]
    apply dagf_val rfl (by intro W hW H; have hq := hW.cell b1; go_simp <;> rfl)
    simp only [Act.put, List.setIfInBounds_toArray, List.set_cons_zero, List.set_cons_succ]
    refine' dagf_calls (fun v W => FB W w1.heap.size v (textV t)) (FB.res _ _) rfl (by intro W; go_simp <;> rfl) (fun W hW H => (rtextp_any t (by have := HT.out; omega) W).mono (by rintro e w' ⟨v3, rfl, hf3, hx3⟩; exact ⟨v3, rfl, FB.base hf3 hW.size, hf3.fresh, hx3⟩)) (fun v2 => _)
    rotate_left
    simp only [Act.put, List.setIfInBounds_toArray, List.set_cons_zero, List.set_cons_succ]
    refine dagf_end fun W hW H HA => ?_
    have hf1 : FB W w1.heap.size v1 (textV g) := H (2, v1, _) (by repeat (first | exact List.mem_cons_self | refine mem_keep ?_ (by decide) | apply List.mem_cons_of_mem))
    have hf2 : FB W w1.heap.size v2 (textV t) := H (5, v2, _) (by repeat (first | exact List.mem_cons_self | refine mem_keep ?_ (by decide) | apply List.mem_cons_of_mem))
    clear H HA
    have HWS := Lib.hid hW.size
    have k2 := hW.cell b2
    go_wp2_with (first
      | (at_builtin; refine st_append T.bytes hf1 hf2.view ?_ (by have := HLEN.out; omega) HWS.out; intro v3 w3 hf3 hg3 _
         have hx3 := hW.append hf1 hg3
         have k3 := hx3.cell b2
         have hf4 := hf3.keep (Ext.alloc w3 (.cells #[bv x] 5))
         have hl := FB.lit1 (B := 0) w3 (Nat.zero_le _) x
         have HX4 := Lib.hid (hx3.trans (Ext.alloc w3 (.cells #[bv x] 5))))
      | (at_builtin; refine st_append T.bytes hf4 hl.view ?_ (by have := HLEN.out; simp only [List.length_append, List.length_singleton]; omega) HX4.out.size; intro v5 w5 hf5 hg5 _
         have HX5 := Lib.hid (HX4.out.append hf4 hg5)
         have hxn := Ext.alloc w5 (.cells #[.int .i64 0, .int .i64 time, .bool true, .string ⟨(textV g ++ textV t ++ [x]).toArray⟩, .bool false, .string ⟨#[]⟩] 25)
         have on : ObjAt (w5.alloc (.cells #[.int .i64 0, .int .i64 time, .bool true, .string ⟨(textV g ++ textV t ++ [x]).toArray⟩, .bool false, .string ⟨#[]⟩] 25)) w5.heap.size 25 (recCells ⟨0, time, true, textV g ++ textV t ++ [x], false, []⟩) := heap_alloc_new w5 _
         have ob2 := (ob1.ext HX5.out).ext hxn
         simp only [List.append_assoc] at hxn on ob2
         have d0 := on.cell (j := 0) rfl
         have d1 := on.cell (j := 1) rfl
         have d2 := on.cell (j := 2) rfl
         have d3 := on.cell (j := 3) rfl
         have d4 := on.cell (j := 4) rfl
         have d5 := on.cell (j := 5) rfl
         have b4 := hxn.cell (HX5.out.cell b3)
         have HOB := Lib.hid (And.intro on ob2)
         have HXN := Lib.hid ((HX1.out.trans HX5.out).trans hxn))
      | ((with_reducible show wpList _ _ _ (Oper.mk _ (Op.convert _ _ _) _ _ _ _ :: _) _ _); refine st_string T.bytes T.u8 T.str hf5.view ?_)
      | (go_at_call 59; refine (rput_any o HO1.out HO2.out _).mono ?_; rintro e w6 ⟨v6, rfl, hf6, hx6⟩
         have on6 := HOB.out.1.ext hx6
         have f6 := on6.free 5
         have e5 := on6.cell (j := 5) rfl
         have on7 := on6.store 5 (.string ⟨(putV o).toArray⟩)
         have c0 := on7.cell (j := 0) rfl
         have c1 := on7.cell (j := 1) rfl
         have c2 := on7.cell (j := 2) rfl
         have c3 := on7.cell (j := 3) rfl
         have c4 := on7.cell (j := 4) rfl
         have c5 := on7.cell (j := 5) rfl
         have hlt := Nat.lt_of_lt_of_le ob1.lt HX5.out.size
         have ob7 := (HOB.out.2.ext hx6).far (p := ⟨w5.heap.size, 5, none⟩) (Nat.ne_of_lt hlt) (.string ⟨(putV o).toArray⟩)
         have HX7 := Lib.hid ((HXN.out.trans hx6).grown (grown_set w6 ⟨w5.heap.size, 5, none⟩ (.string ⟨(putV o).toArray⟩)) (Nat.le_trans (Nat.le_succ _) (Nat.le_of_lt hlt)))
         clear hlt)
      | ((with_reducible show wpList _ _ _ (Oper.mk _ (Op.convert _ _ _) _ _ _ _ :: _) _ _); have hq := hf6; refine st_string T.bytes T.u8 T.str hf6.view ?_)
      | ((with_reducible show wpList _ _ _ (Oper.mk _ (Op.store _ _ _) _ _ _ _ :: _) _ _); refine st_put (vs := recCells ⟨0, time, true, textV g ++ (textV t ++ [x]), false, putV o⟩) ob7 T.recSize rfl (rec_one _) ?_; intro w8 o8 hg8))

    refine bodyPost_ret (rec_results2 rfl _ _ (w.heap.size + 1) ⟨0, time, true, textV g ++ (textV t ++ [x]), false, putV o⟩ rfl o8) rfl ?_
    rw [List.append_assoc]
    exact ⟨rfl, HX7.out.grown hg8 (Nat.le_succ _)⟩
set_option maxHeartbeats 1000000 in
theorem rput21_any (c : Cm) (time : Int) (w : World) :
    Calls Try.prog 11 #[cmv c, .int .i64 time] w fun e w' => e = .returned (.tuple #[recv (layC c time false).1, .int .i64 (layC c time false).2]) ∧ Ext w w' := by
  have L1 := fun W => rlay_any c time false W
  generalize (layC c time false).1 = Y at *
  generalize (layC c time false).2 = E at *
  obtain ⟨g, t, i, o⟩ := c
  obtain ⟨oa, ob, hx0, hsz⟩ := objs2 w 23 25 [.string ⟨g.toArray⟩, .string ⟨t.toArray⟩, .int .i64 i, .int .i64 o] (recCells rec0)
  have HSZ := Lib.hid hsz
  clear hsz
  go_enter Try.func11, Try.ntmps11
  go_wp2_with (first
    | (go_at_call 31; refine (L1 _).mono ?_; rintro e w1 ⟨rfl, hx1⟩
       have o2 := ob.ext hx1)
    | ((with_reducible show wpList _ _ _ (Oper.mk _ (Op.store _ _ _) _ _ _ _ :: _) _ _); refine st_put (vs := recCells Y) o2 T.recSize rfl (rec_one _) ?_; intro w2 o3 hg2))
  refine bodyPost_ret (rec_results2 rfl _ _ (w.heap.size + 1) Y rfl o3) rfl ?_
  exact ⟨rfl, (hx0.trans hx1).grown hg2 (Nat.le_succ _)⟩
set_option maxHeartbeats 1000000 in
theorem rgone_any (c : Cm) (time : Int) (w : World) :
    Calls Try.prog 13 #[cmv c, .int .i64 time] w fun e w' => e = .returned (.tuple #[recv (layC c time true).1, .int .i64 (layC c time true).2]) ∧ Ext w w' := by
  have L1 := fun W => rlay_any c time true W
  generalize (layC c time true).1 = Y at *
  generalize (layC c time true).2 = E at *
  obtain ⟨g, t, i, o⟩ := c
  obtain ⟨oa, ob, hx0, hsz⟩ := objs2 w 23 25 [.string ⟨g.toArray⟩, .string ⟨t.toArray⟩, .int .i64 i, .int .i64 o] (recCells rec0)
  have HSZ := Lib.hid hsz
  clear hsz
  go_enter Try.func13, Try.ntmps13
  go_wp2_with (first
    | (go_at_call 31; refine (L1 _).mono ?_; rintro e w1 ⟨rfl, hx1⟩
       have o2 := ob.ext hx1)
    | ((with_reducible show wpList _ _ _ (Oper.mk _ (Op.store _ _ _) _ _ _ _ :: _) _ _); refine st_put (vs := recCells Y) o2 T.recSize rfl (rec_one _) ?_; intro w2 o3 hg2))
  refine bodyPost_ret (rec_results2 rfl _ _ (w.heap.size + 1) Y rfl o3) rfl ?_
  exact ⟨rfl, (hx0.trans hx1).grown hg2 (Nat.le_succ _)⟩
end Go.Proofs.Ytdklpenpmeplfaa
