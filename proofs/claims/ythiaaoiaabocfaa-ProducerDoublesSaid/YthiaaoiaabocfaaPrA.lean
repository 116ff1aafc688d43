/- What the program's functions of layer 13 compute: behind, Find, Ask. -/
import Derived.Test.YthiaaoiaabocfaaPrF
namespace Go.Proofs.Ythiaaoiaabocfaa
open Go.RowKit

/-- The sequence behind a batch. -/
def behS (s : Sn) : Int := (s.seq + s.count) % 2147483648
theorem and_mask31 (x : Int) : bits .and .i64 x 2147483647 = x % 2147483648 := by
  show IntKind.i64.wrap ((BitVec.ofInt 64 x &&& BitVec.ofInt 64 2147483647).toNat : Int) = _
  have e : (BitVec.ofInt 64 x &&& BitVec.ofInt 64 2147483647).toNat = (x % 18446744073709551616).toNat % 2147483648 := by
    rw [BitVec.toNat_and]
    have h1 : (BitVec.ofInt 64 2147483647).toNat = 2 ^ 31 - 1 := by decide
    rw [h1, Nat.and_two_pow_sub_one_eq_mod, BitVec.toNat_ofInt]
    rfl
  rw [e, IntKind.wrap_i64]
  omega
set_option maxHeartbeats 400000 in
theorem behind_any (s : Sn) (w : World) : Calls Try.prog 29 #[snv s] w fun e w' => e = .returned (.int .i64 (behS s)) ∧ Ext w w' := by
  obtain ⟨a, b, c⟩ := s
  have hx0 := Ext.alloc w (.cells #[.int .i64 a, .int .i64 b, .int .i64 c] 73)
  go_enter Try.func29, Try.ntmps29
  go_wp2_with fail
  go_ret
  refine ⟨?_, hx0⟩
  show Ending.returned (Value.int IntKind.i64 (bits BinOp.and IntKind.i64 (wrap64 (IntKind.u64.wrap (IntKind.u64.wrap a + IntKind.u64.wrap b))) 2147483647)) = _
  rw [and_mask31]
  have e : wrap64 (IntKind.u64.wrap (IntKind.u64.wrap a + IntKind.u64.wrap b)) % 2147483648 = (a + b) % 2147483648 := by
    simp only [IntKind.wrap_u64, wrap64]
    omega
  rw [e]
  rfl
theorem T.entSize : (Try.prog.info? 43).map (·.size) = some 3 := by kernel_rfl
theorem ent_results2 {fn : Func} {p u : Tmp} (h : fn.results = #[.cell p 43, .tmp u]) (tmps : Array Value) (w : World) (g : Nat) (x y z : Value)
    (hp : tmps.getD p undef = .pointer (some ⟨g, 0, none⟩)) (hg : ObjAt w g 43 [x, y, z]) :
    (results fn tmps).run Try.prog w = .ok (.tuple #[.agg #[x, y, z], tmps.getD u undef]) w :=
  results_row_tmp h tmps w g _ #[x, y, z] _ hp hg Try.underlying43 rfl T.entSize
theorem findE_some {t : List Ent} {id : Int} {j : Nat} (h : t.findIdx? (isId id) = some j) : ∃ hj : j < t.length, findE t id = (t[j], true) ∧ placeF (isId id) t = (j : Int) := by
  obtain ⟨hj, _⟩ := find_some h
  refine ⟨hj, ?_, ?_⟩
  · unfold findE; rw [h]; simp [List.getD_eq_getElem?_getD, hj]
  · unfold placeF; rw [h]
theorem findE_none {t : List Ent} {id : Int} (h : t.findIdx? (isId id) = none) : findE t id = (ent0, false) ∧ placeF (isId id) t = -1 := by
  refine ⟨?_, ?_⟩
  · unfold findE; rw [h]
  · unfold placeF; rw [h]
set_option maxHeartbeats 1000000 in
theorem find_any (v : Value) (t : List Ent) (id : Int) (w : World) (h : TabV w v t) (hl : t.length ≤ 1000) :
    Calls Try.prog 14 #[.agg #[v], .int .i64 id] w fun e w' => ∃ v', e = .returned (.tuple #[entv (findE t id).1 v', .bool (findE t id).2]) ∧ SnV w' v' (findE t id).1.last ∧ Ext w w' := by
  obtain ⟨q, c, rfl, hn, hc⟩ := h.slice
  obtain ⟨o1, o2, hx0, hsz⟩ := objs2 w 33 43 [.slice q t.length c] [.int .i64 0, .int .i64 0, .slice none 0 0]
  have A1 := at_any _ t id _ (h.ext hx0) hl
  have c1 := o1.cell (j := 0) rfl
  have HSZ := Lib.hid hsz
  unfold maxLen at hc
  clear hsz
  cases hf : t.findIdx? (isId id) with
  | none =>
    obtain ⟨e1, e2⟩ := findE_none hf
    rw [e1]
    rw [e2] at A1
    clear hf e1 e2
    go_enter Try.func14, Try.ntmps14
    go_wp2_with (go_at_call 32; refine A1.mono ?_; rintro e w1 ⟨rfl, hx1⟩
                 have hx01 := hx0.trans hx1
                 obtain ⟨⟨he0, hf0, he1, hf1, he2, hf2⟩, ho6⟩ := (o2.ext hx1).stored3 (.int .i64 0) (.int .i64 0) (.slice none 0 0))
    refine bodyPost_ret (ent_results2 rfl _ _ (w.heap.size + 1) _ _ _ rfl ho6) rfl ?_
    exact ⟨_, rfl, SRow.nil _ _, hx01.set3 (by omega) _ _ _⟩
  | some j =>
    obtain ⟨hj, e1, e2⟩ := findE_some hf
    rw [e1]
    rw [e2] at A1
    clear hf e1 e2
    have hji : (j : Int) < (t.length : Int) := by omega
    obtain ⟨b, o, q2, d, rfl, ⟨m0, m1, m2⟩, hsn, _, hdm⟩ := ent_at h hj
    go_enter Try.func14, Try.ntmps14
    go_wp2_with (go_at_call 32; refine A1.mono ?_; rintro e w1 ⟨rfl, hx1⟩
                 have hx01 := hx0.trans hx1
                 have c1' := hx1.cell c1
                 have m0 := hx01.cell m0
                 have m1 := hx01.cell m1
                 have m2 := hx01.cell m2
                 obtain ⟨⟨he0, hf0, he1, hf1, he2, hf2⟩, ho6⟩ := (o2.ext hx1).stored3 (.int .i64 t[j].id) (.int .i64 t[j].epoch) (.slice q2 t[j].last.length d))
    refine bodyPost_ret (ent_results2 rfl _ _ (w.heap.size + 1) _ _ _ rfl ho6) rfl ?_
    exact ⟨_, rfl, hsn.ext (hx01.set3 (by omega) _ _ _), hx01.set3 (by omega) _ _ _⟩

theorem askB_fenced {f : Sn → Int} {e : Ent} {b : Bat} (h : b.epoch < e.epoch) : askB f e true b = (0, false, 17) := by
  unfold askB; rw [if_pos (by simp [h])]
theorem askB_new {f : Sn → Int} {e : Ent} {is : Bool} {b : Bat} (h : (is && decide (b.epoch < e.epoch)) = false) (h2 : (is && b.epoch == e.epoch && decide (0 < e.last.length)) = false) : askB f e is b = if b.seq = 0 then (0, false, 0) else (0, false, 16) := by
  unfold askB; rw [if_neg (by rw [h]; simp), if_neg (by rw [h2]; simp)]
theorem askB_old {f : Sn → Int} {e : Ent} {b : Bat} (h1 : b.epoch = e.epoch) (h2 : 0 < e.last.length) : askB f e true b = match e.last.findIdx? (isSn b.seq b.count) with
    | some i => ((e.last.getD i sn0).base, true, 0)
    | none => if b.seq = f (e.last.getD (e.last.length - 1) sn0) then (0, false, 0) else (0, false, 16) := by
  unfold askB; rw [if_neg (by simp [h1]), if_pos (by simp [h1, h2])]; rfl
abbrev askv (x : Int × Bool × Int) : Value := .tuple #[.int .i64 x.1, .bool x.2.1, .int .i64 x.2.2]
set_option maxHeartbeats 4000000 in
theorem ask_any (v : Value) (t : List Ent) (b : Bat) (bp : Option Addr) (bn bc : Nat) (w : World) (h : TabV w v t) (hl : t.length ≤ 1000) (hf : FewT 1000 t) :
    Calls Try.prog 11 #[.agg #[v], batv b (.slice bp bn bc)] w fun e w' => e = .returned (askv (askT behS t b)) ∧ Ext w w' := by
  obtain ⟨b0, b1, b2, b3, b4, rs⟩ := b
  obtain ⟨q, c, rfl, hn, hc⟩ := h.slice
  obtain ⟨o1, o2, hx0, hsz⟩ := objs2 w 33 27 [.slice q t.length c] [.int .i64 b0, .int .i64 b1, .int .i64 b2, .int .i64 b3, .int .i64 b4, .slice bp bn bc]
  have c1 := o1.cell (j := 0) rfl
  have d1 := o2.cell (j := 1) rfl
  have d2 := o2.cell (j := 2) rfl
  have d3 := o2.cell (j := 3) rfl
  have d4 := o2.cell (j := 4) rfl
  have HSZ := Lib.hid hsz
  unfold askT
  simp only
  clear o1 o2 hsz
  by_cases hp : b2 = 0
  case pos =>
    subst hp
    go_enter Try.func11, Try.ntmps11
    go_wp2_with fail
    go_ret3
    exact ⟨rfl, hx0⟩
  rw [if_neg hp]
  have F1 := find_any _ t b2 _ (h.ext hx0) hl
  have hpe : (b2 == 0) = false := by simp [hp]
  have hfe : (findE t b2).1.last.length ≤ 1000 := by
    cases hfi : t.findIdx? (isId b2) with
    | none => rw [(findE_none hfi).1]; simp [ent0]
    | some j => obtain ⟨hj, e, _⟩ := findE_some hfi; rw [e]; exact hf _ (List.getElem_mem hj)
  have hnf : (findE t b2).2 = false → (findE t b2).1 = ent0 := fun hh => by
    cases hfi : t.findIdx? (isId b2) with
    | none => rw [(findE_none hfi).1]
    | some j => obtain ⟨hj, e, _⟩ := findE_some hfi; rw [e] at hh; cases hh
  generalize findE t b2 = fe at *
  obtain ⟨⟨e0, e1, l⟩, is⟩ := fe
  simp only at *
  clear hp h hl hf hn
  obtain ⟨AR, hAR⟩ : ∃ AR, askB behS ⟨e0, e1, l⟩ is ⟨b0, b1, b2, b3, b4, rs⟩ = AR := ⟨_, rfl⟩
  rw [hAR]
  have HAR := Lib.hid hAR
  clear hAR
  cases is with
  | false =>
    clear hnf
    by_cases hs : b4 = 0
    case pos =>
      have e9 := HAR.out
      rw [askB_new (by simp) (by simp), if_pos hs] at e9
      subst e9; subst hs
      clear HAR
      go_enter Try.func11, Try.ntmps11
      go_wp2_with (go_at_call 14; refine F1.mono ?_; rintro e w1 ⟨v1, rfl, hs1, hx1⟩
                   obtain ⟨p1, c1', e5, _, hcm⟩ := hs1.slice
                   subst e5
                   unfold maxLen at hcm
                   obtain ⟨wa, hwa⟩ : ∃ wa, wa = w1.alloc (.cells #[.int .i64 e0, .int .i64 e1, .slice p1 l.length c1'] 43) := ⟨_, rfl⟩
                   have hx2 : Ext w1 wa := by rw [hwa]; exact Ext.alloc _ _
                   have o3 : ObjAt wa w1.heap.size 43 [.int .i64 e0, .int .i64 e1, .slice p1 l.length c1'] := by rw [hwa]; exact heap_alloc_new w1 _
                   have k0 := o3.cell (j := 0) rfl
                   have k1 := o3.cell (j := 1) rfl
                   have k2 := o3.cell (j := 2) rfl
                   have g1 := (hx1.trans hx2).cell d1
                   have g2 := (hx1.trans hx2).cell d2
                   have g3 := (hx1.trans hx2).cell d3
                   have g4 := (hx1.trans hx2).cell d4
                   rw [hwa] at k0 k1 k2 g1 g2 g3 g4 hx2
                   clear hwa o3)
      go_ret3
      exact ⟨rfl, (hx0.trans hx1).trans hx2⟩
    case neg =>
      have e9 := HAR.out
      rw [askB_new (by simp) (by simp), if_neg hs] at e9
      subst e9
      have hs2 : (b4 == 0) = false := by simp [hs]
      clear HAR hs
      go_enter Try.func11, Try.ntmps11
      go_wp2_with (go_at_call 14; refine F1.mono ?_; rintro e w1 ⟨v1, rfl, hs1, hx1⟩
                   obtain ⟨p1, c1', e5, _, hcm⟩ := hs1.slice
                   subst e5
                   unfold maxLen at hcm
                   obtain ⟨wa, hwa⟩ : ∃ wa, wa = w1.alloc (.cells #[.int .i64 e0, .int .i64 e1, .slice p1 l.length c1'] 43) := ⟨_, rfl⟩
                   have hx2 : Ext w1 wa := by rw [hwa]; exact Ext.alloc _ _
                   have o3 : ObjAt wa w1.heap.size 43 [.int .i64 e0, .int .i64 e1, .slice p1 l.length c1'] := by rw [hwa]; exact heap_alloc_new w1 _
                   have k0 := o3.cell (j := 0) rfl
                   have k1 := o3.cell (j := 1) rfl
                   have k2 := o3.cell (j := 2) rfl
                   have g1 := (hx1.trans hx2).cell d1
                   have g2 := (hx1.trans hx2).cell d2
                   have g3 := (hx1.trans hx2).cell d3
                   have g4 := (hx1.trans hx2).cell d4
                   rw [hwa] at k0 k1 k2 g1 g2 g3 g4 hx2
                   clear hwa o3)
      go_ret3
      exact ⟨rfl, (hx0.trans hx1).trans hx2⟩
  | true =>
    clear hnf
    by_cases h1 : b3 < e1
    case pos =>
      have e9 := HAR.out
      rw [askB_fenced h1] at e9
      subst e9
      clear HAR
      go_enter Try.func11, Try.ntmps11
      go_wp2_with (go_at_call 14; refine F1.mono ?_; rintro e w1 ⟨v1, rfl, hs1, hx1⟩
                   obtain ⟨p1, c1', e5, _, hcm⟩ := hs1.slice
                   subst e5
                   unfold maxLen at hcm
                   obtain ⟨wa, hwa⟩ : ∃ wa, wa = w1.alloc (.cells #[.int .i64 e0, .int .i64 e1, .slice p1 l.length c1'] 43) := ⟨_, rfl⟩
                   have hx2 : Ext w1 wa := by rw [hwa]; exact Ext.alloc _ _
                   have o3 : ObjAt wa w1.heap.size 43 [.int .i64 e0, .int .i64 e1, .slice p1 l.length c1'] := by rw [hwa]; exact heap_alloc_new w1 _
                   have k0 := o3.cell (j := 0) rfl
                   have k1 := o3.cell (j := 1) rfl
                   have k2 := o3.cell (j := 2) rfl
                   have g1 := (hx1.trans hx2).cell d1
                   have g2 := (hx1.trans hx2).cell d2
                   have g3 := (hx1.trans hx2).cell d3
                   have g4 := (hx1.trans hx2).cell d4
                   rw [hwa] at k0 k1 k2 g1 g2 g3 g4 hx2
                   clear hwa o3)
      go_ret3
      exact ⟨rfl, (hx0.trans hx1).trans hx2⟩
    case neg =>
      have h1' : e1 ≤ b3 := by omega
      have h1d : decide (b3 < e1) = false := decide_eq_false h1
      by_cases h2 : b3 = e1 ∧ 0 < l.length
      case neg =>
        have h2e : (b3 == e1 && decide (0 < l.length)) = false := by
          cases hb : (b3 == e1 && decide (0 < l.length)) with
          | false => rfl
          | true =>
            rw [Bool.and_eq_true, beq_iff_eq, decide_eq_true_iff] at hb
            exact absurd hb h2
        have HC : (b3 == e1) = false ∨ ((b3 == e1) = true ∧ l = []) := by
          cases hb : (b3 == e1) with
          | false => exact .inl rfl
          | true =>
            refine .inr ⟨rfl, ?_⟩
            rw [hb, Bool.true_and, decide_eq_false_iff_not] at h2e
            exact List.eq_nil_of_length_eq_zero (by omega)
        have e9 := HAR.out
        rw [askB_new (by simp [h1]) (by simpa using h2e)] at e9
        have HE9 := Lib.hid e9
        clear e9 h1 h2 h2e HAR
        rcases HC with h3 | ⟨h3, h4⟩
        · by_cases hs : b4 = 0
          · have e9 := HE9.out
            rw [if_pos hs] at e9
            subst e9; subst hs
            clear HE9
            go_enter Try.func11, Try.ntmps11
            go_wp2_with (go_at_call 14; refine F1.mono ?_; rintro e w1 ⟨v1, rfl, hs1, hx1⟩
                         obtain ⟨p1, c1', e5, _, hcm⟩ := hs1.slice
                         subst e5
                         unfold maxLen at hcm
                         obtain ⟨wa, hwa⟩ : ∃ wa, wa = w1.alloc (.cells #[.int .i64 e0, .int .i64 e1, .slice p1 l.length c1'] 43) := ⟨_, rfl⟩
                         have hx2 : Ext w1 wa := by rw [hwa]; exact Ext.alloc _ _
                         have o3 : ObjAt wa w1.heap.size 43 [.int .i64 e0, .int .i64 e1, .slice p1 l.length c1'] := by rw [hwa]; exact heap_alloc_new w1 _
                         have k0 := o3.cell (j := 0) rfl
                         have k1 := o3.cell (j := 1) rfl
                         have k2 := o3.cell (j := 2) rfl
                         have g1 := (hx1.trans hx2).cell d1
                         have g2 := (hx1.trans hx2).cell d2
                         have g3 := (hx1.trans hx2).cell d3
                         have g4 := (hx1.trans hx2).cell d4
                         rw [hwa] at k0 k1 k2 g1 g2 g3 g4 hx2
                         clear hwa o3)
            go_ret3
            exact ⟨rfl, (hx0.trans hx1).trans hx2⟩
          · have e9 := HE9.out
            rw [if_neg hs] at e9
            subst e9
            have hs2 : (b4 == 0) = false := by simp [hs]
            clear HE9 hs
            go_enter Try.func11, Try.ntmps11
            go_wp2_with (go_at_call 14; refine F1.mono ?_; rintro e w1 ⟨v1, rfl, hs1, hx1⟩
                         obtain ⟨p1, c1', e5, _, hcm⟩ := hs1.slice
                         subst e5
                         unfold maxLen at hcm
                         obtain ⟨wa, hwa⟩ : ∃ wa, wa = w1.alloc (.cells #[.int .i64 e0, .int .i64 e1, .slice p1 l.length c1'] 43) := ⟨_, rfl⟩
                         have hx2 : Ext w1 wa := by rw [hwa]; exact Ext.alloc _ _
                         have o3 : ObjAt wa w1.heap.size 43 [.int .i64 e0, .int .i64 e1, .slice p1 l.length c1'] := by rw [hwa]; exact heap_alloc_new w1 _
                         have k0 := o3.cell (j := 0) rfl
                         have k1 := o3.cell (j := 1) rfl
                         have k2 := o3.cell (j := 2) rfl
                         have g1 := (hx1.trans hx2).cell d1
                         have g2 := (hx1.trans hx2).cell d2
                         have g3 := (hx1.trans hx2).cell d3
                         have g4 := (hx1.trans hx2).cell d4
                         rw [hwa] at k0 k1 k2 g1 g2 g3 g4 hx2
                         clear hwa o3)
            go_ret3
            exact ⟨rfl, (hx0.trans hx1).trans hx2⟩
        · subst h4
          by_cases hs : b4 = 0
          · have e9 := HE9.out
            rw [if_pos hs] at e9
            subst e9; subst hs
            clear HE9
            go_enter Try.func11, Try.ntmps11
            go_wp2_with (go_at_call 14; refine F1.mono ?_; rintro e w1 ⟨v1, rfl, hs1, hx1⟩
                         obtain ⟨p1, c1', e5, _, hcm⟩ := hs1.slice
                         rw [List.length_nil] at e5
                         subst e5
                         unfold maxLen at hcm
                         obtain ⟨wa, hwa⟩ : ∃ wa, wa = w1.alloc (.cells #[.int .i64 e0, .int .i64 e1, .slice p1 0 c1'] 43) := ⟨_, rfl⟩
                         have hx2 : Ext w1 wa := by rw [hwa]; exact Ext.alloc _ _
                         have o3 : ObjAt wa w1.heap.size 43 [.int .i64 e0, .int .i64 e1, .slice p1 0 c1'] := by rw [hwa]; exact heap_alloc_new w1 _
                         have k0 := o3.cell (j := 0) rfl
                         have k1 := o3.cell (j := 1) rfl
                         have k2 := o3.cell (j := 2) rfl
                         have g1 := (hx1.trans hx2).cell d1
                         have g2 := (hx1.trans hx2).cell d2
                         have g3 := (hx1.trans hx2).cell d3
                         have g4 := (hx1.trans hx2).cell d4
                         rw [hwa] at k0 k1 k2 g1 g2 g3 g4 hx2
                         clear hwa o3)
            go_ret3
            exact ⟨rfl, (hx0.trans hx1).trans hx2⟩
          · have e9 := HE9.out
            rw [if_neg hs] at e9
            subst e9
            have hs2 : (b4 == 0) = false := by simp [hs]
            clear HE9 hs
            go_enter Try.func11, Try.ntmps11
            go_wp2_with (go_at_call 14; refine F1.mono ?_; rintro e w1 ⟨v1, rfl, hs1, hx1⟩
                         obtain ⟨p1, c1', e5, _, hcm⟩ := hs1.slice
                         rw [List.length_nil] at e5
                         subst e5
                         unfold maxLen at hcm
                         obtain ⟨wa, hwa⟩ : ∃ wa, wa = w1.alloc (.cells #[.int .i64 e0, .int .i64 e1, .slice p1 0 c1'] 43) := ⟨_, rfl⟩
                         have hx2 : Ext w1 wa := by rw [hwa]; exact Ext.alloc _ _
                         have o3 : ObjAt wa w1.heap.size 43 [.int .i64 e0, .int .i64 e1, .slice p1 0 c1'] := by rw [hwa]; exact heap_alloc_new w1 _
                         have k0 := o3.cell (j := 0) rfl
                         have k1 := o3.cell (j := 1) rfl
                         have k2 := o3.cell (j := 2) rfl
                         have g1 := (hx1.trans hx2).cell d1
                         have g2 := (hx1.trans hx2).cell d2
                         have g3 := (hx1.trans hx2).cell d3
                         have g4 := (hx1.trans hx2).cell d4
                         rw [hwa] at k0 k1 k2 g1 g2 g3 g4 hx2
                         clear hwa o3)
            go_ret3
            exact ⟨rfl, (hx0.trans hx1).trans hx2⟩
      case pos =>
        obtain ⟨h3, h4⟩ := h2
        have e9 := HAR.out
        rw [askB_old h3 h4] at e9
        replace h3 := h3.symm
        subst h3
        have h3b : (e1 == e1) = true := by simp
        have h4i : (0 : Int) < (l.length : Int) := by omega
        cases hfi : l.findIdx? (isSn b4 b1) with
        | some j =>
          obtain ⟨hj, _⟩ := find_some hfi
          have hpl : placeF (isSn b4 b1) l = (j : Int) := by unfold placeF; rw [hfi]
          simp only [hfi] at e9
          have e10 : AR = (l[j].base, true, 0) := by rw [← e9]; simp [List.getD_eq_getElem?_getD, hj]
          have HE := Lib.hid e10
          have hji : (j : Int) < (l.length : Int) := by omega
          clear e9 e10 HAR hfi h1 h4
          go_enter Try.func11, Try.ntmps11
          go_wp2_with (first
            | (go_at_call 14; refine F1.mono ?_; rintro e w1 ⟨v1, rfl, hs1, hx1⟩
               obtain ⟨p1, c1', e5, _, hcm⟩ := hs1.slice
               subst e5
               unfold maxLen at hcm
               obtain ⟨wa, hwa⟩ : ∃ wa, wa = w1.alloc (.cells #[.int .i64 e0, .int .i64 e1, .slice p1 l.length c1'] 43) := ⟨_, rfl⟩
               have hx2 : Ext w1 wa := by rw [hwa]; exact Ext.alloc _ _
               have o3 : ObjAt wa w1.heap.size 43 [.int .i64 e0, .int .i64 e1, .slice p1 l.length c1'] := by rw [hwa]; exact heap_alloc_new w1 _
               have k0 := o3.cell (j := 0) rfl
               have k1 := o3.cell (j := 1) rfl
               have k2 := o3.cell (j := 2) rfl
               have g1 := (hx1.trans hx2).cell d1
               have g2 := (hx1.trans hx2).cell d2
               have g3 := (hx1.trans hx2).cell d3
               have g4 := (hx1.trans hx2).cell d4
               have hsa := hs1.ext hx2
               have I1 := idxAskP_any (w.heap.size + 1) (isSn b4 b1) _ l wa hsa hfe (fun s W hW => ask1_any (w.heap.size + 1) b4 b1 s W (hW.cell g1) (hW.cell g4))
               rw [hpl] at I1
               rw [hwa] at k0 k1 k2 g1 g2 g3 g4 hx2 I1 hsa
               clear hwa o3)
            | (go_at_call 27; refine I1.mono ?_; rintro e w3 ⟨rfl, hx3⟩
               have q2 := hx3.cell k2
               obtain ⟨bs, os, e5, ⟨r0, r1, r2⟩⟩ := sn_at (hsa.ext hx3) hj
               subst e5))
          go_ret3
          refine ⟨?_, ((hx0.trans hx1).trans hx2).trans hx3⟩
          rw [HE.out]
          rfl
        | none =>
          have hpl : placeF (isSn b4 b1) l = -1 := by unfold placeF; rw [hfi]
          simp only [hfi] at e9
          have hlt : l.length - 1 < l.length := by omega
          have e10 : l.getD (l.length - 1) sn0 = l[l.length - 1] := by simp [List.getD_eq_getElem?_getD, hlt]
          rw [e10] at e9
          have B1 := fun W => behind_any l[l.length - 1] W
          generalize hz : behS l[l.length - 1] = z at *
          obtain ⟨k, hk⟩ : ∃ k, l.length - 1 = k := ⟨_, rfl⟩
          have hki : (l.length : Int) - 1 = (k : Int) := by omega
          have hki2 : (k : Int) < (l.length : Int) := by omega
          have hget : l[l.length - 1]? = some l[l.length - 1] := List.getElem?_eq_getElem hlt
          have HLT := Lib.hid hlt
          generalize l[l.length - 1] = y at *
          rw [hk] at hget
          have HGET := Lib.hid hget
          have HE := Lib.hid e9
          have hklt : k < l.length := by omega
          clear e9 HAR hfi h1 h4 hlt hget e10 hk
          by_cases hs : b4 = z
          · have e9 := HE.out
            rw [if_pos hs] at e9
            subst e9; subst hs
            have hsb : (b4 == b4) = true := by simp
            clear HE
            go_enter Try.func11, Try.ntmps11
            go_wp2_with (first
              | (go_at_call 14; refine F1.mono ?_; rintro e w1 ⟨v1, rfl, hs1, hx1⟩
                 obtain ⟨p1, c1', e5, _, hcm⟩ := hs1.slice
                 subst e5
                 unfold maxLen at hcm
                 obtain ⟨wa, hwa⟩ : ∃ wa, wa = w1.alloc (.cells #[.int .i64 e0, .int .i64 e1, .slice p1 l.length c1'] 43) := ⟨_, rfl⟩
                 have hx2 : Ext w1 wa := by rw [hwa]; exact Ext.alloc _ _
                 have o3 : ObjAt wa w1.heap.size 43 [.int .i64 e0, .int .i64 e1, .slice p1 l.length c1'] := by rw [hwa]; exact heap_alloc_new w1 _
                 have k0 := o3.cell (j := 0) rfl
                 have k1 := o3.cell (j := 1) rfl
                 have k2 := o3.cell (j := 2) rfl
                 have g1 := (hx1.trans hx2).cell d1
                 have g2 := (hx1.trans hx2).cell d2
                 have g3 := (hx1.trans hx2).cell d3
                 have g4 := (hx1.trans hx2).cell d4
                 have hsa := hs1.ext hx2
                 have I1 := idxAskP_any (w.heap.size + 1) (isSn b4 b1) _ l wa hsa hfe (fun s W hW => ask1_any (w.heap.size + 1) b4 b1 s W (hW.cell g1) (hW.cell g4))
                 rw [hpl] at I1
                 rw [hwa] at k0 k1 k2 g1 g2 g3 g4 hx2 I1 hsa
                 clear hwa o3)
              | (go_at_call 27; refine I1.mono ?_; rintro e w3 ⟨rfl, hx3⟩
                 have q2 := hx3.cell k2
                 obtain ⟨bs, os, e5, ⟨r0, r1, r2⟩⟩ := sn_at (hsa.ext hx3) hklt
                 have e6 : l[k] = y := by have := HGET.out; rw [List.getElem?_eq_getElem hklt] at this; exact Option.some.inj this
                 rw [e6] at r0 r1 r2
                 subst e5)
              | (go_at_call 29; refine (B1 _).mono ?_; rintro e w4 ⟨rfl, hx4⟩
                 have f4 := hx4.cell (hx3.cell g4)))
            go_ret3
            exact ⟨rfl, (((hx0.trans hx1).trans hx2).trans hx3).trans hx4⟩
          · have e9 := HE.out
            rw [if_neg hs] at e9
            subst e9
            have hsb : (b4 == z) = false := by simp [hs]
            clear HE hs
            go_enter Try.func11, Try.ntmps11
            go_wp2_with (first
              | (go_at_call 14; refine F1.mono ?_; rintro e w1 ⟨v1, rfl, hs1, hx1⟩
                 obtain ⟨p1, c1', e5, _, hcm⟩ := hs1.slice
                 subst e5
                 unfold maxLen at hcm
                 obtain ⟨wa, hwa⟩ : ∃ wa, wa = w1.alloc (.cells #[.int .i64 e0, .int .i64 e1, .slice p1 l.length c1'] 43) := ⟨_, rfl⟩
                 have hx2 : Ext w1 wa := by rw [hwa]; exact Ext.alloc _ _
                 have o3 : ObjAt wa w1.heap.size 43 [.int .i64 e0, .int .i64 e1, .slice p1 l.length c1'] := by rw [hwa]; exact heap_alloc_new w1 _
                 have k0 := o3.cell (j := 0) rfl
                 have k1 := o3.cell (j := 1) rfl
                 have k2 := o3.cell (j := 2) rfl
                 have g1 := (hx1.trans hx2).cell d1
                 have g2 := (hx1.trans hx2).cell d2
                 have g3 := (hx1.trans hx2).cell d3
                 have g4 := (hx1.trans hx2).cell d4
                 have hsa := hs1.ext hx2
                 have I1 := idxAskP_any (w.heap.size + 1) (isSn b4 b1) _ l wa hsa hfe (fun s W hW => ask1_any (w.heap.size + 1) b4 b1 s W (hW.cell g1) (hW.cell g4))
                 rw [hpl] at I1
                 rw [hwa] at k0 k1 k2 g1 g2 g3 g4 hx2 I1 hsa
                 clear hwa o3)
              | (go_at_call 27; refine I1.mono ?_; rintro e w3 ⟨rfl, hx3⟩
                 have q2 := hx3.cell k2
                 obtain ⟨bs, os, e5, ⟨r0, r1, r2⟩⟩ := sn_at (hsa.ext hx3) hklt
                 have e6 : l[k] = y := by have := HGET.out; rw [List.getElem?_eq_getElem hklt] at this; exact Option.some.inj this
                 rw [e6] at r0 r1 r2
                 subst e5)
              | (go_at_call 29; refine (B1 _).mono ?_; rintro e w4 ⟨rfl, hx4⟩
                 have f4 := hx4.cell (hx3.cell g4)))
            go_ret3
            exact ⟨rfl, (((hx0.trans hx1).trans hx2).trans hx3).trans hx4⟩
end Go.Proofs.Ythiaaoiaabocfaa
