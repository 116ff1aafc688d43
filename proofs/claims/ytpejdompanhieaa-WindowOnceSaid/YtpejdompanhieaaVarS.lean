/- What the document's functions of layer 1 compute: numbers and texts read off. -/
import Derived.Test.YtpejdompanhieaaClone
import Derived.Test.YtpejdompanhieaaVarR
import Derived.Test.YtpejdompanhieaaObj3
import Derived.Test.YtpejdompanhieaaDagY
namespace Go.Proofs.Ytpejdompanhieaa
open Go.RowKit

theorem down_step (S d : Nat) : IntKind.u64.wrap (IntKind.u64.wrap (128 * ((S % 18446744073709551616 : Nat) : Int)) + (d : Int)) = (((d + 128 * S) % 18446744073709551616 : Nat) : Int) := by
  rw [IntKind.wrap_u64, IntKind.wrap_u64]; omega
theorem sevV_drop (l : List UInt8) {a : Nat} (ha : a < l.length) : sevV (l.drop a) = l[a].toNat % 128 + 128 * sevV (l.drop (a + 1)) := by
  rw [List.drop_eq_getElem_cons ha]; rfl

set_option maxHeartbeats 1000000 in
theorem rget_any (v : Value) (l : List UInt8) (w : World) (h : BV w v l) :
    Calls Try.prog 73 #[v] w fun e w' => e = .returned (.tuple #[.int .i64 (getV l).n, .int .i64 ((getV l).k : Nat), .int .i64 (getV l).e]) ∧ Ext w w' := by
  have h0 := h
  obtain ⟨p, c, rfl, hn, hc, hs⟩ := h
  unfold maxLen at hc
  obtain ⟨G, HG⟩ : ∃ G, Hid (getV l = G) := ⟨_, rfl⟩
  rw [HG.out]
  have ht10 : (l.take 10).length = min 10 l.length := List.length_take
  have H10 := Lib.hid ht10
  clear ht10
  go_enter Try.func73, Try.ntmps73
  go_wp2_with fail
  go_loopg [5] (l.length) (fun k s5 wr => ∃ j : Nat, s5 = .int .i64 j ∧ j ≤ l.length ∧ j ≤ 10 ∧ k = l.length - j ∧ Hid (j ≤ runV (l.take 10)) ∧ wr = w)
  case atStart => exact ⟨0, rfl, Nat.zero_le _, Nat.zero_le _, rfl, Nat.zero_le _, rfl⟩
  case round =>
    obtain ⟨j, rfl, hjl, hj10, hk, HR, rfl⟩ := hrel
    by_cases hl : j < l.length
    case neg =>
      have hll : ¬ (j : Int) < (l.length : Int) := by omega
      by_cases h10 : j = 10
      · have hz : ((j : Int) == 10) = true := by rw [beq_iff_eq]; omega
        obtain rfl : G = ⟨0, 0, 4⟩ := HG.out.symm.trans (getV_form l (by omega) (by have := HR.out; omega))
        clear h10
        go_wp2_with fail
        go_ret3
        exact ⟨rfl, Ext.refl _⟩
      · have hz : ((j : Int) == 10) = false := by rw [beq_eq_false_iff_ne]; omega
        have hz2 : ((j : Int) == (l.length : Int)) = true := by rw [beq_iff_eq]; omega
        obtain rfl : G = ⟨0, 0, 3⟩ := HG.out.symm.trans (getV_cut l (by omega) (by have := HR.out; omega))
        clear h10
        go_wp2_with fail
        go_ret3
        exact ⟨rfl, Ext.refl _⟩
    case pos =>
      have hll : (j : Int) < (l.length : Int) := by omega
      by_cases h10 : j < 10
      case neg =>
        have hl10 : ¬ (j : Int) < 10 := by omega
        have hz : ((j : Int) == 10) = true := by rw [beq_iff_eq]; omega
        obtain rfl : G = ⟨0, 0, 4⟩ := HG.out.symm.trans (getV_form l (by omega) (by have := HR.out; omega))
        go_wp2_with fail
        go_ret3
        exact ⟨rfl, Ext.refl _⟩
      have hl10 : (j : Int) < 10 := by omega
      obtain ⟨b, o, rfl, hcell⟩ := hs.at (bs_get l hl)
      have hx10 : (l.take 10)[j]'(by have := H10.out; omega) = l[j]'hl := List.getElem_take
      have HX := Lib.hid hx10
      clear hx10
      by_cases hbig : 128 ≤ l[j].toNat
      · have hb2 : (128 : Int) ≤ (l[j].toNat : Int) := by omega
        have HR2 : Hid (j + 1 ≤ runV (l.take 10)) := (runV_step _ j (by have := H10.out; omega) HR.out).2 (by rw [HX.out]; exact hbig)
        go_wp2_with fail
        go_roundg (l.length - (j + 1))
        case measure => omega
        case rel => exact ⟨j + 1, by go_num, hl, h10, rfl, HR2, rfl⟩
      have hb2 : ¬ (128 : Int) ≤ (l[j].toNat : Int) := by omega
      have hz : ((j : Int) == 10) = false := by rw [beq_eq_false_iff_ne]; omega
      have hz2 : ((j : Int) == (l.length : Int)) = false := by rw [beq_eq_false_iff_ne]; omega
      have HV := Lib.hid (getV_ok l j (by have := H10.out; omega) HR.out (by rw [HX.out]; omega))
      have hlen : (l.take (j + 1)).length = j + 1 := by rw [List.length_take]; omega
      have HLEN := Lib.hid hlen
      clear hbig hlen
      go_wp2_with fail
      go_loopg [6, 7] (j + 1) (fun k s6 s7 wr2 => ∃ a : Nat, a ≤ j + 1 ∧ k = a ∧ s7 = .int .i64 ((a : Int) - 1) ∧ s6 = .int .u64 ((sevV ((l.take (j + 1)).drop a) % 18446744073709551616 : Nat) : Int) ∧ wr2 = wr)
      case atStart => 
        refine ⟨j + 1, Nat.le_refl _, rfl, by go_num, ?_, rfl⟩
        rw [List.drop_eq_nil_of_le (by rw [HLEN.out]; exact Nat.le_refl _)]; rfl
      case round =>
        obtain ⟨a, ha, hka, rfl, rfl, rfl⟩ := hrel
        cases a with
        | zero =>
          have hd0 : (l.take (j + 1)).drop 0 = l.take (j + 1) := rfl
          rw [hd0]
          generalize hU : sevV (l.take (j + 1)) % 18446744073709551616 = U at *
          have hU2 : U < 18446744073709551616 := by rw [← hU]; exact Nat.mod_lt _ (by decide)
          have HU := Lib.hid hU
          have HU2 := Lib.hid hU2
          have hj1 : (j : Int) + 1 ≤ (l.length : Int) := by omega
          have hneg : (((0 : Nat) : Int) - 1) = -1 := rfl
          rw [hneg]
          clear hU hU2 hd0 hneg
          have ht0 : BV wr (.slice (some ⟨b, o, none⟩) (j + 1) c) (l.take (j + 1)) := h0.take (k := j + 1) hl (by omega) (Nat.le_refl _)
          by_cases heq : vb U = l.take (j + 1)
          · have hb : (vb U == l.take (j + 1)) = true := by simp [heq]
            obtain rfl : G = ⟨zag U, j + 1, 0⟩ := by rw [← HG.out, HV.out, if_pos heq]
            clear heq HV
            go_wp2_with fail
            apply wp_region_dag (X := Ext) (by kernel_rfl) (by kernel_rfl) (fun _ _ _ => Ext.trans) (Ext.drew1 _)
            apply dag_val Ext.refl rfl (by intro W hW H; go_simp <;> rfl)
            simp only [Act.put, List.setIfInBounds_toArray, List.set_cons_zero, List.set_cons_succ]
            refine' dag_calls (fun v W => BV W v (vb U)) (BV.stable _) rfl (by intro W; go_simp <;> rfl) (fun W hW H => (rbytes_any U HU2.out W).mono (by rintro e w' ⟨v3, rfl, hf3, hx3⟩; exact ⟨v3, rfl, hf3.view, hx3⟩)) (fun v1 => _)
            rotate_left
            simp only [Act.put, List.setIfInBounds_toArray, List.set_cons_zero, List.set_cons_succ]
            refine' dag_val Ext.refl rfl (fun W hW H => run_op_bytes_string T.bytes T.u8 T.str rfl rfl (v := v1) (l := vb U) (H 1 (by kernel_rfl))) _
            rotate_left
            simp only [Act.put, List.setIfInBounds_toArray, List.set_cons_zero, List.set_cons_succ]
            apply dag_val Ext.refl rfl (by intro W hW H; go_simp <;> rfl)
            simp only [Act.put, List.setIfInBounds_toArray, List.set_cons_zero, List.set_cons_succ]
            apply dag_val Ext.refl rfl (by intro W hW H; go_simp <;> rfl)
            simp only [Act.put, List.setIfInBounds_toArray, List.set_cons_zero, List.set_cons_succ]
            apply dag_val Ext.refl rfl (by intro W hW H; go_simp <;> rfl)
            simp only [Act.put, List.setIfInBounds_toArray, List.set_cons_zero, List.set_cons_succ]
            refine' dag_val Ext.refl rfl (fun W hW H => run_sliceTo T.bytes rfl rfl W (j + 1) c (hH := by exact Idx.eq _ _ _ _ (by rw [IntKind.wrap_i64]; omega))) _
            rotate_left
            simp only [Act.put, List.setIfInBounds_toArray, List.set_cons_zero, List.set_cons_succ]
            refine' dag_val Ext.refl rfl (fun W hW H => run_op_bytes_string T.bytes T.u8 T.str rfl rfl (v := .slice (some ⟨b, o, none⟩) (j + 1) c) (l := l.take (j + 1)) (ht0.ext hW)) _
            rotate_left
            simp only [Act.put, List.setIfInBounds_toArray, List.set_cons_zero, List.set_cons_succ]
            apply dag_val Ext.refl rfl (by intro W hW H; go_simp <;> rfl)
            simp only [Act.put, List.setIfInBounds_toArray, List.set_cons_zero, List.set_cons_succ]
            refine dag_end fun W1 hW H => ?_
            clear H
            go_wp2_with (go_at_call 79; refine (rzagzig_any U HU2.out _).mono ?_; rintro e w' ⟨rfl, rfl⟩)
            go_ret3
            exact ⟨rfl, hW⟩
          · have hb : (vb U == l.take (j + 1)) = false := by simp [heq]
            obtain rfl : G = ⟨0, 0, 4⟩ := by rw [← HG.out, HV.out, if_neg heq]
            clear heq HV
            go_wp2_with fail
            apply wp_region_dag (X := Ext) (by kernel_rfl) (by kernel_rfl) (fun _ _ _ => Ext.trans) (Ext.drew1 _)
            apply dag_val Ext.refl rfl (by intro W hW H; go_simp <;> rfl)
            simp only [Act.put, List.setIfInBounds_toArray, List.set_cons_zero, List.set_cons_succ]
            refine' dag_calls (fun v W => BV W v (vb U)) (BV.stable _) rfl (by intro W; go_simp <;> rfl) (fun W hW H => (rbytes_any U HU2.out W).mono (by rintro e w' ⟨v3, rfl, hf3, hx3⟩; exact ⟨v3, rfl, hf3.view, hx3⟩)) (fun v1 => _)
            rotate_left
            simp only [Act.put, List.setIfInBounds_toArray, List.set_cons_zero, List.set_cons_succ]
            refine' dag_val Ext.refl rfl (fun W hW H => run_op_bytes_string T.bytes T.u8 T.str rfl rfl (v := v1) (l := vb U) (H 1 (by kernel_rfl))) _
            rotate_left
            simp only [Act.put, List.setIfInBounds_toArray, List.set_cons_zero, List.set_cons_succ]
            apply dag_val Ext.refl rfl (by intro W hW H; go_simp <;> rfl)
            simp only [Act.put, List.setIfInBounds_toArray, List.set_cons_zero, List.set_cons_succ]
            apply dag_val Ext.refl rfl (by intro W hW H; go_simp <;> rfl)
            simp only [Act.put, List.setIfInBounds_toArray, List.set_cons_zero, List.set_cons_succ]
            apply dag_val Ext.refl rfl (by intro W hW H; go_simp <;> rfl)
            simp only [Act.put, List.setIfInBounds_toArray, List.set_cons_zero, List.set_cons_succ]
            refine' dag_val Ext.refl rfl (fun W hW H => run_sliceTo T.bytes rfl rfl W (j + 1) c (hH := by exact Idx.eq _ _ _ _ (by rw [IntKind.wrap_i64]; omega))) _
            rotate_left
            simp only [Act.put, List.setIfInBounds_toArray, List.set_cons_zero, List.set_cons_succ]
            refine' dag_val Ext.refl rfl (fun W hW H => run_op_bytes_string T.bytes T.u8 T.str rfl rfl (v := .slice (some ⟨b, o, none⟩) (j + 1) c) (l := l.take (j + 1)) (ht0.ext hW)) _
            rotate_left
            simp only [Act.put, List.setIfInBounds_toArray, List.set_cons_zero, List.set_cons_succ]
            apply dag_val Ext.refl rfl (by intro W hW H; go_simp <;> rfl)
            simp only [Act.put, List.setIfInBounds_toArray, List.set_cons_zero, List.set_cons_succ]
            refine dag_end fun W1 hW H => ?_
            clear H
            go_wp2_with fail
            go_ret3
            exact ⟨rfl, hW⟩
        | succ a =>
          have ha1 : (0 : Int) ≤ (a : Int) := by omega
          have ha2 : (a : Int) < (l.length : Int) := by omega
          have hal : a < l.length := by omega
          obtain ⟨_, _, e9, hcell2⟩ := hs.at (bs_get l hal)
          cases e9
          have he : ((a + 1 : Nat) : Int) - 1 = (a : Int) := by omega
          rw [he]
          have HD : Hid (sevV ((l.take (j + 1)).drop a) = l[a].toNat % 128 + 128 * sevV ((l.take (j + 1)).drop (a + 1))) := by
            have h1 := sevV_drop (l.take (j + 1)) (a := a) (by rw [HLEN.out]; omega)
            rw [List.getElem_take] at h1
            exact h1
          generalize sevV ((l.take (j + 1)).drop (a + 1)) = S at *
          have HS := Lib.hid (down_step S (l[a].toNat % 128))
          go_wp2_with fail
          go_roundg (a)
          case measure => omega
          case rel =>
            refine ⟨a, by omega, rfl, rfl, ?_, rfl⟩
            rw [HD.out, ← HS.out]
            rfl

/-! ### The document's readers -/
abbrev rdv (v : Value) (e : Int) : Value := .agg #[v, .int .i64 e]
theorem T.rdInfo : (Try.prog.info? 99).map (·.size) = some 2 := by kernel_rfl
theorem rd_results {fn : Func} {p u : Tmp} (h : fn.results = #[.cell p 99, .tmp u]) (tmps : Array Value) (w : World) (g : Nat) (v x : Value)
    (hp : tmps.getD p undef = .pointer (some ⟨g, 0, none⟩)) (hg : ObjAt w g 99 [v, x]) :
    (results fn tmps).run Try.prog w = .ok (.tuple #[.agg #[v, x], tmps.getD u undef]) w := by
  exact results_row_tmp h tmps w g _ #[v, x] _ hp hg Try.underlying99 rfl T.rdInfo
set_option maxHeartbeats 1000000 in
theorem rnum_any (v : Value) (r : RdV) (wv w : World) (hv : BV wv v r.b) (hvx : Ext wv w) :
    Calls Try.prog 56 #[rdv v r.e] w fun e w' => ∃ v', e = .returned (.tuple #[rdv v' (numR r).e, .int .i64 (numN r)]) ∧ BV wv v' (numR r).b ∧ Ext w w' := by
  have h := hv.ext hvx
  have h0 := h
  obtain ⟨p, c, rfl, hn, hc, hs⟩ := id h
  obtain ⟨rb, re⟩ := r
  simp only at *
  by_cases he : re = 0
  case neg =>
    have hz : (re != 0) = true := by rw [bne_iff_ne]; exact he
    have e1 : numN ⟨rb, re⟩ = 0 := by unfold numN; rw [if_neg he]
    have e2 : numR ⟨rb, re⟩ = ⟨rb, re⟩ := by unfold numR; rw [if_neg he]
    rw [e1, e2]
    clear he e1 e2
    go_enter Try.func56, Try.ntmps56
    go_wp2_with fail
    refine bodyPost_ret (rd_results rfl _ _ (w.heap.size + 1) _ _ rfl (heap_alloc2_new w _ _)) rfl ?_
    have hx2 := (Ext.alloc w (.cells #[Value.slice p rb.length c, Value.int IntKind.i64 re] 99)).trans (Ext.alloc _ (.cells #[Value.slice p rb.length c, Value.int IntKind.i64 re] 99))
    exact ⟨_, rfl, hv, hx2⟩
  subst he
  have hk := getV_bounds rb
  have e1 : numN ⟨rb, 0⟩ = (getV rb).n := rfl
  have e2 : numR ⟨rb, 0⟩ = ⟨rb.drop (getV rb).k, (getV rb).e⟩ := rfl
  have G1 := fun w h => rget_any (.slice p rb.length c) rb w h
  rw [e1, e2]
  have hk1 := hk.1
  have hke := hk.2.2.2.2.2
  have HK := Lib.hid hk
  clear e1 e2 hk
  generalize getV rb = G at *
  obtain ⟨n, k, er⟩ := G
  simp only at *
  have hx0 := (Ext.alloc w (.cells #[Value.slice p rb.length c, Value.int IntKind.i64 0] 99)).trans (Ext.alloc _ (.cells #[Value.slice none 0 0, Value.int IntKind.i64 0] 99))
  have arm : ∀ w1, Ext ((w.alloc (.cells #[Value.slice p rb.length c, Value.int IntKind.i64 0] 99)).alloc (.cells #[Value.slice none 0 0, Value.int IntKind.i64 0] 99)) w1 →
      ObjAt w1 w.heap.size 99 [.slice p rb.length c, .int .i64 0] ∧ ObjAt w1 (w.heap.size + 1) 99 [.slice none 0 0, .int .i64 0] := fun w1 hx1 =>
    ⟨ObjAt.ext (heap_alloc2_old w _ _) hx1, ObjAt.ext (heap_alloc2_new w _ _) hx1⟩
  by_cases her : er = 0
  case neg =>
    have hz : (er != 0) = true := by rw [bne_iff_ne]; exact her
    obtain ⟨rfl, rfl⟩ := hke her
    clear her hke
    go_enter Try.func56, Try.ntmps56
    go_wp2_with (go_at_call 73; refine (G1 _ (h0.ext hx0)).mono ?_; rintro e w1 ⟨rfl, hx1⟩
                 obtain ⟨ho1, ho2⟩ := arm w1 hx1
                 have hc0 := ho1.cell (j := 0) (u := .slice p rb.length c) rfl
                 have hd0 := ho2.cell (j := 0) (u := .slice none 0 0) rfl
                 have hf0 := ho2.free 0
                 have ho3 := ho2.store 0 (.slice p rb.length c)
                 have hd1 := ho3.cell (j := 1) (u := .int .i64 0) rfl
                 have hf1 := ho3.free 1)
    have ho4 := ho3.store 1 (.int .i64 er)
    refine bodyPost_ret (rd_results rfl _ _ (w.heap.size + 1) _ _ rfl ho4) rfl ?_
    have hx2 := ((hx0.trans hx1).store (p := ⟨w.heap.size + 1, 0, none⟩) (by simp) (.slice p rb.length c)).store (p := ⟨w.heap.size + 1, 1, none⟩) (by simp) (.int .i64 er)
    exact ⟨_, rfl, hv, hx2⟩
  · subst her
    clear hke
    go_enter Try.func56, Try.ntmps56
    go_wp2_with (first
      | (go_at_call 73; refine (G1 _ (h0.ext hx0)).mono ?_; rintro e w1 ⟨rfl, hx1⟩
         obtain ⟨ho1, ho2⟩ := arm w1 hx1
         have hc0 := ho1.cell (j := 0) (u := .slice p rb.length c) rfl
         have hd0 := ho2.cell (j := 0) (u := .slice none 0 0) rfl
         have hf0 := ho2.free 0
         have ho3 := ho2.store 0 (.slice (cutA 1 p c k) (rb.length - k) (c - k))
         have hd1 := ho3.cell (j := 1) (u := .int .i64 0) rfl
         have hf1 := ho3.free 1)
      | ((with_reducible show wpList _ _ _ (Oper.mk _ (Op.slice _ _ _ _ _) _ _ _ _ :: _) _ _); refine st_slice T.bytes k rb.length c ?_))
    have ho4 := ho3.store 1 (.int .i64 0)
    refine bodyPost_ret (rd_results rfl _ _ (w.heap.size + 1) _ _ rfl ho4) rfl ?_
    have hx2 := ((hx0.trans hx1).store (p := ⟨w.heap.size + 1, 0, none⟩) (by simp) (.slice (cutA 1 p c k) (rb.length - k) (c - k))).store (p := ⟨w.heap.size + 1, 1, none⟩) (by simp) (.int .i64 0)
    exact ⟨_, rfl, hv.drop hk1, hx2⟩

/-- What a walk wants to know of a store of two cells. -/
structure Stored2 (w : World) (g : Nat) (x y u : Value) : Prop where
  c0 : w.cell? ⟨g, 0, none⟩ = some x
  f0 : w.frozen? ⟨g, 0, none⟩ = false
  c1 : (w.setCell ⟨g, 0, none⟩ u).cell? ⟨g, 1, none⟩ = some y
  f1 : (w.setCell ⟨g, 0, none⟩ u).frozen? ⟨g, 1, none⟩ = false
theorem ObjAt.stored2 {w : World} {g : Nat} {t : TypeId} {x y : Value} (h : ObjAt w g t [x, y]) (u u' : Value) : Stored2 w g x y u ∧ ObjAt ((w.setCell ⟨g, 0, none⟩ u).setCell ⟨g, 1, none⟩ u') g t [u, u'] :=
  ⟨⟨h.cell (j := 0) rfl, h.free 0, (h.store 0 u).cell (j := 1) rfl, (h.store 0 u).free 1⟩, (h.store 0 u).store 1 u'⟩

set_option maxHeartbeats 2000000 in
theorem rtextr_any (v : Value) (r : RdV) (most : Int) (wv w : World) (hv : BV wv v r.b) (hvx : Ext wv w) :
    Calls Try.prog 57 #[rdv v r.e, .int .i64 most] w fun e w' => ∃ v', e = .returned (.tuple #[rdv v' (textR most r).e, .string ⟨(textL most r).toArray⟩]) ∧ BV wv v' (textR most r).b ∧ Ext w w' := by
  have h := hv.ext hvx
  have h0 := h
  obtain ⟨p, c, rfl, hn, hc, hs⟩ := id h
  obtain ⟨E, HE⟩ : ∃ E, Hid (textL most r = E) := ⟨_, rfl⟩
  obtain ⟨F, HF⟩ : ∃ F, Hid (textR most r = F) := ⟨_, rfl⟩
  have N1 := fun w h => rnum_any (.slice p r.b.length c) r wv w hv h
  rw [HE.out, HF.out]
  have HE1 := HE.out
  have HF1 := HF.out
  unfold textL at HE1
  unfold textR at HF1
  clear HE HF
  have hnb := numN_bounds r
  obtain ⟨rb, re⟩ := r
  simp only at *
  generalize numN ⟨rb, re⟩ = n at *
  generalize numR ⟨rb, re⟩ = q at *
  have hx0 := (Ext.alloc w (.cells #[Value.slice p rb.length c, Value.int IntKind.i64 re] 99)).trans (Ext.alloc _ (.cells #[Value.slice none 0 0, Value.int IntKind.i64 0] 99))
  have arm : ∀ w1, Ext ((w.alloc (.cells #[Value.slice p rb.length c, Value.int IntKind.i64 re] 99)).alloc (.cells #[Value.slice none 0 0, Value.int IntKind.i64 0] 99)) w1 →
      ObjAt w1 w.heap.size 99 [.slice p rb.length c, .int .i64 re] ∧ ObjAt w1 (w.heap.size + 1) 99 [.slice none 0 0, .int .i64 0] := fun w1 hx1 =>
    ⟨ObjAt.ext (heap_alloc2_old w _ _) hx1, ObjAt.ext (heap_alloc2_new w _ _) hx1⟩
  have fin : ∀ w1 x1 y1 x2 y2, Ext ((w.alloc (.cells #[Value.slice p rb.length c, Value.int IntKind.i64 re] 99)).alloc (.cells #[Value.slice none 0 0, Value.int IntKind.i64 0] 99)) w1 →
      Ext w ((((w1.setCell ⟨w.heap.size, 0, none⟩ x1).setCell ⟨w.heap.size, 1, none⟩ y1).setCell ⟨w.heap.size + 1, 0, none⟩ x2).setCell ⟨w.heap.size + 1, 1, none⟩ y2) := fun w1 x1 y1 x2 y2 hx1 =>
    ((((hx0.trans hx1).store (p := ⟨w.heap.size, 0, none⟩) (Nat.le_refl _) x1).store (p := ⟨w.heap.size, 1, none⟩) (Nat.le_refl _) y1).store (p := ⟨w.heap.size + 1, 0, none⟩) (by simp) x2).store (p := ⟨w.heap.size + 1, 1, none⟩) (by simp) y2
  by_cases he : q.e = 0
  case neg =>
    have hz : (q.e != 0) = true := by rw [bne_iff_ne]; exact he
    rw [if_pos he] at HE1 HF1
    subst HE1; subst HF1
    clear he
    go_enter Try.func57, Try.ntmps57
    go_wp2_with (go_at_call 56; refine (N1 _ (hvx.trans hx0)).mono ?_; rintro e w1 ⟨v1, rfl, hb1, hx1⟩
                 obtain ⟨p1, c1, rfl, hn1, hc1, _⟩ := id hb1
                 obtain ⟨ho1, ho2⟩ := arm w1 hx1
                 obtain ⟨⟨hc0, hf0, hc1, hf1⟩, ho3⟩ := ho1.stored2 (.slice p1 q.b.length c1) (.int .i64 q.e)
                 have hd0 := ho3.cell (j := 0) (u := .slice p1 q.b.length c1) rfl
                 have hd1 := ho3.cell (j := 1) (u := .int .i64 q.e) rfl
                 have ho4 := (ho2.far (p := ⟨w.heap.size, 0, none⟩) (by simp) (.slice p1 q.b.length c1)).far (p := ⟨w.heap.size, 1, none⟩) (by simp) (.int .i64 q.e)
                 obtain ⟨⟨hg0, hk0, hg1, hk1⟩, ho5⟩ := ho4.stored2 (.slice p1 q.b.length c1) (.int .i64 q.e))
    refine bodyPost_ret (rd_results rfl _ _ (w.heap.size + 1) _ _ rfl ho5) rfl ?_
    exact ⟨_, rfl, hb1, fin w1 _ _ _ _ hx1⟩
  have hz : (q.e != 0) = false := by rw [he]; rfl
  rw [if_neg (by simp [he])] at HE1 HF1
  by_cases hbad : n < 0 ∨ max 0 most < n
  · rw [if_pos hbad] at HE1 HF1
    subst HE1; subst HF1
    clear he
    rcases (by omega : n < 0 ∨ (0 < n ∧ most < n)) with h0n | ⟨hm1, hm2⟩
    · clear hbad
      go_enter Try.func57, Try.ntmps57
      go_wp2_with (go_at_call 56; refine (N1 _ (hvx.trans hx0)).mono ?_; rintro e w1 ⟨v1, rfl, hb1, hx1⟩
                   obtain ⟨p1, c1, rfl, hn1, hc1, _⟩ := id hb1
                   obtain ⟨ho1, ho2⟩ := arm w1 hx1
                   obtain ⟨⟨hc0, hf0, hc1, hf1⟩, ho3⟩ := ho1.stored2 (.slice p1 q.b.length c1) (.int .i64 q.e)
                   have hd0 := ho3.cell (j := 0) (u := .slice p1 q.b.length c1) rfl
                   have hd1 := ho3.cell (j := 1) (u := .int .i64 q.e) rfl
                   have ho4 := (ho2.far (p := ⟨w.heap.size, 0, none⟩) (by simp) (.slice p1 q.b.length c1)).far (p := ⟨w.heap.size, 1, none⟩) (by simp) (.int .i64 q.e)
                   obtain ⟨⟨hg0, hk0, hg1, hk1⟩, ho5⟩ := ho4.stored2 (.slice p1 q.b.length c1) (.int .i64 5))
      refine bodyPost_ret (rd_results rfl _ _ (w.heap.size + 1) _ _ rfl ho5) rfl ?_
      exact ⟨_, rfl, hb1, fin w1 _ _ _ _ hx1⟩
    · clear hbad
      go_enter Try.func57, Try.ntmps57
      go_wp2_with (go_at_call 56; refine (N1 _ (hvx.trans hx0)).mono ?_; rintro e w1 ⟨v1, rfl, hb1, hx1⟩
                   obtain ⟨p1, c1, rfl, hn1, hc1, _⟩ := id hb1
                   obtain ⟨ho1, ho2⟩ := arm w1 hx1
                   obtain ⟨⟨hc0, hf0, hc1, hf1⟩, ho3⟩ := ho1.stored2 (.slice p1 q.b.length c1) (.int .i64 q.e)
                   have hd0 := ho3.cell (j := 0) (u := .slice p1 q.b.length c1) rfl
                   have hd1 := ho3.cell (j := 1) (u := .int .i64 q.e) rfl
                   have ho4 := (ho2.far (p := ⟨w.heap.size, 0, none⟩) (by simp) (.slice p1 q.b.length c1)).far (p := ⟨w.heap.size, 1, none⟩) (by simp) (.int .i64 q.e)
                   obtain ⟨⟨hg0, hk0, hg1, hk1⟩, ho5⟩ := ho4.stored2 (.slice p1 q.b.length c1) (.int .i64 5))
      all_goals
        refine bodyPost_ret (rd_results rfl _ _ (w.heap.size + 1) _ _ rfl ho5) rfl ?_
        exact ⟨_, rfl, hb1, fin w1 _ _ _ _ hx1⟩
  rw [if_neg hbad] at HE1 HF1
  obtain ⟨k, rfl⟩ : ∃ k : Nat, n = (k : Int) := ⟨n.toNat, by omega⟩
  rw [Int.toNat_natCast] at HE1 HF1
  have hmx : most ≤ 0 ∧ (k : Int) ≤ 0 ∨ 0 < most ∧ (k : Int) ≤ most := by omega
  clear hbad
  by_cases hlt : q.b.length < k
  · have hlt2 : (q.b.length : Int) < (k : Int) := by omega
    unfold takeL at HE1
    unfold takeR at HF1
    rw [if_pos hlt] at HE1 HF1
    subst HE1; subst HF1
    clear he
    obtain ⟨hm1, hm2⟩ : 0 < most ∧ (k : Int) ≤ most := by omega
    clear hmx
    all_goals
      go_enter Try.func57, Try.ntmps57
      go_wp2_with (go_at_call 56; refine (N1 _ (hvx.trans hx0)).mono ?_; rintro e w1 ⟨v1, rfl, hb1, hx1⟩
                   obtain ⟨p1, c1, rfl, hn1, hc1, _⟩ := id hb1
                   obtain ⟨ho1, ho2⟩ := arm w1 hx1
                   obtain ⟨⟨hc0, hf0, hc1, hf1⟩, ho3⟩ := ho1.stored2 (.slice p1 q.b.length c1) (.int .i64 q.e)
                   have hd0 := ho3.cell (j := 0) (u := .slice p1 q.b.length c1) rfl
                   have hd1 := ho3.cell (j := 1) (u := .int .i64 q.e) rfl
                   have ho4 := (ho2.far (p := ⟨w.heap.size, 0, none⟩) (by simp) (.slice p1 q.b.length c1)).far (p := ⟨w.heap.size, 1, none⟩) (by simp) (.int .i64 q.e)
                   obtain ⟨⟨hg0, hk0, hg1, hk1⟩, ho5⟩ := ho4.stored2 (.slice p1 q.b.length c1) (.int .i64 3))
      refine bodyPost_ret (rd_results rfl _ _ (w.heap.size + 1) _ _ rfl ho5) rfl ?_
      exact ⟨_, rfl, hb1, fin w1 _ _ _ _ hx1⟩
  · have hlt2 : ¬ (q.b.length : Int) < (k : Int) := by omega
    unfold takeL at HE1
    unfold takeR at HF1
    rw [if_neg hlt] at HE1 HF1
    rw [he] at HF1
    subst HE1; subst HF1
    clear he
    rcases hmx with ⟨hm1, hm2⟩ | ⟨hm1, hm2⟩
    all_goals
      go_enter Try.func57, Try.ntmps57
      go_wp2_with (go_at_call 56; refine (N1 _ (hvx.trans hx0)).mono ?_; rintro e w1 ⟨v1, rfl, hb1, hx1⟩
                   obtain ⟨p1, c1, rfl, hn1, hc1, _⟩ := id hb1
                   obtain ⟨ho1, ho2⟩ := arm w1 hx1
                   obtain ⟨⟨hc0, hf0, hc1, hf1⟩, ho3⟩ := ho1.stored2 (.slice p1 q.b.length c1) (.int .i64 q.e)
                   have hd0 := ho3.cell (j := 0) (u := .slice p1 q.b.length c1) rfl
                   have hd1 := ho3.cell (j := 1) (u := .int .i64 q.e) rfl
                   have ho4 := (ho2.far (p := ⟨w.heap.size, 0, none⟩) (by simp) (.slice p1 q.b.length c1)).far (p := ⟨w.heap.size, 1, none⟩) (by simp) (.int .i64 q.e)
                   obtain ⟨⟨hg0, hk0, hg1, hk1⟩, ho5⟩ := ho4.stored2 (.slice (cutA 1 p1 c1 k) (q.b.length - k) (c1 - k)) (.int .i64 0))
      have hkl : k ≤ q.b.length := by omega
      have hq2 := ((hx0.trans hx1).store (p := ⟨w.heap.size, 0, none⟩) (Nat.le_refl _) (.slice p1 q.b.length c1)).store (p := ⟨w.heap.size, 1, none⟩) (Nat.le_refl _) (.int .i64 q.e)
      have ht1 : BV wv (.slice p1 k c1) (q.b.take k) := hb1.take hkl (by omega) (Nat.le_refl _)
      have hd3 := hb1.drop hkl
      clear ho5 hg0 hk0 hg1 hk1
      have gc : ∀ W, ((w1.setCell ⟨w.heap.size, 0, none⟩ (.slice p1 q.b.length c1)).setCell ⟨w.heap.size, 1, none⟩ (.int .i64 q.e)).grownBy W (some (w.heap.size + 1)) → W.cell? ⟨w.heap.size, 0, none⟩ = some (.slice p1 q.b.length c1) ∧ Ext wv W := fun W hg =>
        ⟨(grown_keeps hg).cell (by simp) hd0, (hvx.trans hq2).grown hg (by have := hvx.size; omega)⟩
      apply wp_region_dagY 10 11 (fun a b => a.grownBy b (some (w.heap.size + 1))) (fun a b => a.grownBy b (some (w.heap.size + 1))) (X := Ext) (by kernel_rfl) (by kernel_rfl) (by kernel_rfl) (by decide) (by decide) (fun _ _ _ => Ext.trans) (fun _ _ _ => World.grownBy.trans) (fun _ _ h => h.grownBy _) (fun _ _ h => h) (Ext.drew1 _)
      simp only [List.take_succ_cons, List.take_zero, List.drop_succ_cons, List.drop_zero]
      apply dagy_val Ext.refl rfl (by intro W hW H; go_simp <;> rfl)
      simp only [Act.put, List.setIfInBounds_toArray, List.set_cons_zero, List.set_cons_succ]
      apply dagy_val Ext.refl rfl (by intro W hW H; have hq := (gc W hW.1).1; go_simp <;> rfl)
      simp only [Act.put, List.setIfInBounds_toArray, List.set_cons_zero, List.set_cons_succ]
      apply dagy_val Ext.refl rfl (by intro W hW H; go_simp <;> rfl)
      simp only [Act.put, List.setIfInBounds_toArray, List.set_cons_zero, List.set_cons_succ]
      refine' dagy_val Ext.refl rfl (fun W hW H => run_slice T.bytes rfl rfl W k q.b.length c1) _
      rotate_left
      simp only [Act.put, List.setIfInBounds_toArray, List.set_cons_zero, List.set_cons_succ]
      apply dagy_val Ext.refl rfl (by intro W hW H; go_simp <;> rfl)
      simp only [Act.put, List.setIfInBounds_toArray, List.set_cons_zero, List.set_cons_succ]
      apply dagy_val Ext.refl rfl (by intro W hW H; go_simp <;> rfl)
      simp only [Act.put, List.setIfInBounds_toArray, List.set_cons_zero, List.set_cons_succ]
      apply dagy_val Ext.refl rfl (by intro W hW H; have hq := (gc W hW.1).1; go_simp <;> rfl)
      simp only [Act.put, List.setIfInBounds_toArray, List.set_cons_zero, List.set_cons_succ]
      apply dagy_val Ext.refl rfl (by intro W hW H; go_simp <;> rfl)
      simp only [Act.put, List.setIfInBounds_toArray, List.set_cons_zero, List.set_cons_succ]
      refine' dagy_val Ext.refl rfl (fun W hW H => run_sliceTo T.bytes rfl rfl W k c1) _
      rotate_left
      simp only [Act.put, List.setIfInBounds_toArray, List.set_cons_zero, List.set_cons_succ]
      refine' dagy_val Ext.refl rfl (fun W hW H => run_op_bytes_string T.bytes T.u8 T.str rfl rfl (v := .slice p1 k c1) (l := q.b.take k) (ht1.ext (gc W hW.1).2)) _
      rotate_left
      simp only [Act.put, List.setIfInBounds_toArray, List.set_cons_zero, List.set_cons_succ]
      refine' dagy_store (fun W => ObjAt W (w.heap.size + 1) 99 [.slice (cutA 1 p1 c1 k) (q.b.length - k) (c1 - k), .int .i64 0] ∧ Ext w W) (fun W W' hs hh => hs.elim (fun hx => ⟨hh.1.ext hx, hh.2.trans hx⟩) fun hz => absurd rfl hz.1) rfl (fun W hW H => by have hX := hW.2 (by kernel_rfl); obtain ⟨⟨hg0, hk0, hg1, hk1⟩, ho5⟩ := (ho4.ext hX).stored2 (.slice (cutA 1 p1 c1 k) (q.b.length - k) (c1 - k)) (.int .i64 0); exact ⟨_, (by go_simp <;> rfl), (by unfold StepY; rw [if_pos rfl]; exact (grown_set _ ⟨w.heap.size + 1, 0, none⟩ _).trans (grown_set _ ⟨w.heap.size + 1, 1, none⟩ _)), ho5, ((hq2.trans hX).store (p := ⟨w.heap.size + 1, 0, none⟩) (by simp) _).store (p := ⟨w.heap.size + 1, 1, none⟩) (by simp) _⟩) (fun u => _)
      rotate_left
      simp only [Act.put]
      refine dagy_end fun W3 H => ?_
      obtain ⟨ho5, hx3⟩ : ObjAt W3 (w.heap.size + 1) 99 [.slice (cutA 1 p1 c1 k) (q.b.length - k) (c1 - k), .int .i64 0] ∧ Ext w W3 := H 10
      clear H
      go_wp2_with fail
      refine bodyPost_ret (rd_results rfl _ _ (w.heap.size + 1) _ _ rfl ho5) rfl ?_
      exact ⟨_, rfl, hd3, hx3⟩
end Go.Proofs.Ytpejdompanhieaa
