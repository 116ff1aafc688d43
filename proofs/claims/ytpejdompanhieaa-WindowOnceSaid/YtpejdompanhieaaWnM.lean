/- What the program's Check of layer 35 computes: a map of places, sums in their order. -/
import Derived.Test.YtpejdompanhieaaWnK
import Derived.Test.YtpejdompanhieaaStrB
import Derived.Maps.OwnOps
import Derived.Maps.OwnSet
import Derived.DeepKeys4
namespace Go.Proofs.Ytpejdompanhieaa
open Go.RowKit

/-! ### A map of places to whether they were seen -/
theorem T.laidOut : laidOutB Try.prog = true := by kernel_rfl
theorem T.plLaw : Go.WideMaps.KeyLaw Try.prog 74 := deep_law_laid T.laidOut (m := 2) (by omega) (of_decide_eq_true (by kernel_rfl)) (by kernel_rfl) (by kernel_rfl)
theorem T.plKeyed : Go.Maps.Keyed Try.prog 74 := Go.Maps.Keyed.of_law T.plLaw
theorem T.plType : Try.prog.keyType 74 = true := by kernel_rfl
theorem T.plCells : Try.prog.cellsOf 74 = 2 := by kernel_rfl
theorem T.intCells : Try.prog.cellsOf 3 = 1 := by kernel_rfl
theorem T.strCells : Try.prog.cellsOf 9 = 1 := by kernel_rfl
theorem T.zeroB (w : World) : (zeroValue 4).run Try.prog w = .ok (.bool false) w := by kernel_rfl
abbrev plv (s : Int) (k : List UInt8) : Value := .agg #[.int .i64 s, .string ⟨k.toArray⟩]
def plB (s : Int) (k : List UInt8) : List UInt8 := keyBytes [.int .i64 s, .string k]
theorem plLits (n : Nat) {s : Int} {k : List UInt8} (hs : (Lit.int .i64 s).wf = true) (hk : k.length ≤ maxLen) : Try.prog.keyLits (n + 2) 74 [.int .i64 s, .string ⟨k.toArray⟩] = some [.int .i64 s, .string k] := by
  have h2 : (ByteArray.mk k.toArray).size ≤ maxLen := by rw [text_size]; exact hk
  simp [Program.keyLits, Try.underlying74, Try.underlying3, Try.underlying9, T.plCells, T.intCells, T.strCells, hs, h2]
theorem plKey {s : Int} {k : List UInt8} (h1 : -9223372036854775808 ≤ s) (h2 : s ≤ 9223372036854775807) (hk : k.length ≤ maxLen) : keyOf Try.prog 74 (plv s k) = some (.string (plB s k)) := by
  have hs : (Lit.int .i64 s).wf = true := WalkArith.wf_i64 (by omega)
  have hsz : ∃ n, Try.prog.types.size + 1 = n + 2 := ⟨Try.prog.types.size - 1, by have : (1 : Nat) < Try.prog.types.size := of_decide_eq_true (by kernel_rfl); omega⟩
  obtain ⟨n, hn⟩ := hsz
  unfold keyOf
  simp only [Try.underlying74]
  have hf : (plv s k).formed Try.prog 74 = true := by
    simp [Value.formed, Try.underlying74, T.plCells]
  rw [T.plType, hf, hn]
  have := plLits n hs hk
  simp [Value.cells, this, plB]
theorem plB_inj {s s' : Int} {k k' : List UInt8} (h1 : -9223372036854775808 ≤ s) (h2 : s ≤ 9223372036854775807) (hk : k.length ≤ maxLen) (h1' : -9223372036854775808 ≤ s') (h2' : s' ≤ 9223372036854775807) (hk' : k'.length ≤ maxLen) (h : plB s k = plB s' k') : s = s' ∧ k = k' := by
  have a := plKey h1 h2 hk
  have b := plKey h1' h2' hk'
  rw [← h] at b
  have e := T.plLaw.inj a b
  injection e with e
  simp at e
  exact e
def PMap (w : World) (b n : Nat) (f : List UInt8 → Bool) : Prop :=
  ∃ D : DataW Unit, w.ownsMap Try.prog 74 (plainElem Try.prog 4) b n D ∧ ∀ k : List UInt8, D.atKey (.string k) (.lit (.bool false)) = .lit (.bool (f k))
theorem PMap.made (w : World) : PMap (w.alloc (.map #[] 0)) w.heap.size 0 (fun _ => false) :=
  ⟨_, World.ownsMap_made _ _ _ _, fun _ => Maps.atKey_of_not_has rfl _⟩
theorem PMap.ext {w w' : World} {b n : Nat} {f : List UInt8 → Bool} (h : PMap w b n f) (hx : Ext w w') : PMap w' b n f := by
  obtain ⟨D, h1, h2⟩ := h
  exact ⟨D, h1.kept (hx.grownBy none) (by simp), h2⟩
theorem plainElem_bool_inv {P : Program} {e : TypeId} (he : P.underlying e = some .bool) {v : Value} {z : DataW Unit × List MemPlace} (h : plainElem P e v = some z) : ∃ a, v = .bool a ∧ z = (.lit (.bool a), []) := by
  unfold plainElem at h
  rw [he] at h
  cases v <;> simp at h
  exact ⟨_, rfl, h.symm⟩
theorem PMap.look {w : World} {b n : Nat} {f : List UInt8 → Bool} (h : PMap w b n f) {s : Int} {k : List UInt8} (h1 : -9223372036854775808 ≤ s) (h2 : s ≤ 9223372036854775807) (hk : k.length ≤ maxLen) :
    (Instr.lookup 84 (.map (some b)) (plv s k) false).run Try.prog w = .ok (.bool (f (plB s k))) w := by
  obtain ⟨D, hD1, hD2⟩ := h
  obtain ⟨v, ps, hr, hv⟩ := hD1.lookup T.plKeyed Try.underlying84 (T.zeroB w) (plainElem_bool Try.underlying4 false) (plKey h1 h2 hk)
  obtain ⟨c, rfl, hc⟩ := plainElem_bool_inv Try.underlying4 hv
  have hc1 := congrArg Prod.fst hc
  simp only [hD2] at hc1
  have e : f (plB s k) = c := Lit.bool.inj (DataW.lit.inj hc1)
  rw [e]; exact hr
theorem PMap.step {w' : World} {b n : Nat} {f : List UInt8 → Bool} {D : DataW Unit} {k : List UInt8} (h2 : ∀ k : List UInt8, D.atKey (.string k) (.lit (.bool false)) = .lit (.bool (f k))) (hD : Maps.IsMap D)
    (h : w'.ownsMap Try.prog 74 (plainElem Try.prog 4) b (n + 1) (D.put (.string k) (.lit (.bool true)))) : PMap w' b (n + 1) (fun k' => f k' || (k == k')) := by
  refine ⟨_, h, fun k' => ?_⟩
  simp only
  by_cases e : k' = k
  · subst e
    rw [Maps.atKey_put_same (k := .string k') hD trivial _ _]
    simp
  · have hne : (Lit.string k') ≠ (Lit.string k) := fun h => e (by injection h)
    have e2 : (k == k') = false := by rw [beq_eq_false_iff_ne]; exact fun h => e h.symm
    rw [Maps.atKey_put_other hne, h2, e2, Bool.or_false]
theorem run_op_lookup {P : Program} {o : Oper} {a : Act} {m x : Operand} {t : TypeId} {c : Bool} (ho : o.op = Op.lookup t m x c) {vm vx r : Value} {w : World} (hm : a.eval m = vm) (hx : a.eval x = vx) (h : (Instr.lookup t vm vx c).run P w = .ok r w) : (execOp a.eval o).run P w = .ok (.value r) w := by
  simp [execOp, ho, hm, hx, h, Result.andThen]
/-! ### In order? -/
set_option maxHeartbeats 1000000 in
theorem sorted_any (v : Value) (t : List Sm) (w : World) (h : SmV w v t) :
    Calls Try.prog 43 #[v, .func (.func 44) #[] #[]] w fun e w' => e = .returned (.bool (sortsS t)) ∧ Ext w w' := by
  obtain ⟨q, c, rfl, hn, hc⟩ := h.slice
  unfold maxLen at hc
  have e0 : wrap64 ((t.length : Int) - 1) = (t.length : Int) - 1 := by unfold wrap64; omega
  have HC := Lib.hid hc
  have HN := Lib.hid hn
  have E0 := Lib.hid e0
  clear hc hn e0
  go_enter Try.func43, Try.ntmps43
  go_wp2_with fail
  go_loopg [5] (t.length) (fun k s5 wr => ∃ m : Int, s5 = .int .i64 m ∧ Hid (-1 ≤ m ∧ m < t.length ∧ (k : Int) = m + 1) ∧ Hid (∀ i : Nat, m ≤ i → i + 1 < t.length → 0 ≤ ordS (t.getD (i + 1) sm0) (t.getD i sm0)) ∧ Ext w wr)
  case atStart => exact ⟨_, rfl, Lib.hid (by have := E0.out; omega), Lib.hid (fun i hi1 hi2 => by have := E0.out; omega), Ext.refl _⟩
  case round =>
    obtain ⟨m, rfl, HM, HA, hx⟩ := hrel
    by_cases hlt : 0 < m
    case pos =>
      obtain ⟨i, rfl⟩ : ∃ i : Nat, m = (i : Int) := ⟨m.toNat, by omega⟩
      obtain ⟨p, hp⟩ : ∃ p : Nat, i = p + 1 := ⟨i - 1, by omega⟩
      have hit : i < t.length := by have := HM.out; omega
      have hi0 : 0 < i := by omega
      have hpt : p < t.length := by omega
      have hii : (i : Int) < (t.length : Int) := by omega
      have hpp : (p : Int) < (t.length : Int) := by omega
      have hsub : (i : Int) - 1 = (p : Int) := by omega
      have hwp : IntKind.i64.wrap (p : Int) = (p : Int) := by have := HC.out; have := HN.out; rw [IntKind.wrap_i64]; omega
      obtain ⟨b, o, e1, ⟨m0, m1, m2, m3, m4, m5⟩⟩ := sm_at (h.ext hx) hit
      obtain ⟨b', o', e2, ⟨n0, n1, n2, n3, n4, n5⟩⟩ := sm_at (h.ext hx) hpt
      subst e1
      injection e2 with e2
      injection e2 with e2 e3 e4
      subst e2; subst e3
      clear e4
      have HG : Hid (t.getD i sm0 = t[i] ∧ t.getD p sm0 = t[p]) := Lib.hid ⟨getD_sm hit, getD_sm hpt⟩
      have O1 := fun W => order_any t[i] t[p] W
      generalize hz : ordS t[i] t[p] = z at *
      have HZ : Hid (ordS (t.getD i sm0) (t.getD p sm0) = z) := Lib.hid (by rw [HG.out.1, HG.out.2]; exact hz)
      generalize t[i] = ei at *
      generalize t[p] = ep at *
      have HP := Lib.hid hp
      clear hz HG hp
      go_wp2_with fail
      apply wp_region_dag (X := Ext) (by kernel_rfl) (by kernel_rfl) (fun _ _ _ => Ext.trans) (Ext.drew1 _)
      apply dag_val Ext.refl rfl (by intro W hW H; go_simp <;> rfl)
      simp only [Act.put, List.setIfInBounds_toArray, List.set_cons_zero, List.set_cons_succ]
      apply dag_val Ext.refl rfl (by intro W hW H; go_simp <;> rfl)
      simp only [Act.put, List.setIfInBounds_toArray, List.set_cons_zero, List.set_cons_succ]
      apply dag_val Ext.refl rfl (by intro W hW H; go_simp <;> rfl)
      simp only [Act.put, List.setIfInBounds_toArray, List.set_cons_zero, List.set_cons_succ]
      apply dag_val Ext.refl rfl (by intro W hW H; go_simp <;> rfl)
      simp only [Act.put, List.setIfInBounds_toArray, List.set_cons_zero, List.set_cons_succ]
      apply dag_val Ext.refl rfl (by intro W hW H; have q0 := hW.cell m0; have q1 := hW.cell m1; have q2 := hW.cell m2; have q3 := hW.cell m3; have q4 := hW.cell m4; have q5 := hW.cell m5; go_simp <;> rfl)
      simp only [Act.put, List.setIfInBounds_toArray, List.set_cons_zero, List.set_cons_succ]
      apply dag_val Ext.refl rfl (by intro W hW H; go_simp <;> rfl)
      simp only [Act.put, List.setIfInBounds_toArray, List.set_cons_zero, List.set_cons_succ]
      apply dag_val Ext.refl rfl (by intro W hW H; go_simp <;> rfl)
      simp only [Act.put, List.setIfInBounds_toArray, List.set_cons_zero, List.set_cons_succ]
      apply dag_val Ext.refl rfl (by intro W hW H; go_simp <;> rfl)
      simp only [Act.put, List.setIfInBounds_toArray, List.set_cons_zero, List.set_cons_succ]
      apply dag_val Ext.refl rfl (by intro W hW H; go_simp <;> rfl)
      simp only [Act.put, List.setIfInBounds_toArray, List.set_cons_zero, List.set_cons_succ]
      apply dag_val Ext.refl rfl (by intro W hW H; have q0 := hW.cell n0; have q1 := hW.cell n1; have q2 := hW.cell n2; have q3 := hW.cell n3; have q4 := hW.cell n4; have q5 := hW.cell n5; go_simp <;> rfl)
      simp only [Act.put, List.setIfInBounds_toArray, List.set_cons_zero, List.set_cons_succ]
      refine' dag_call (c := .int .i64 z) (f := 44) (args := #[smv ei, smv ep]) rfl (by intro W; go_simp <;> rfl) (fun W hW H => O1 W) _
      rotate_left
      simp only [Act.put, List.setIfInBounds_toArray, List.set_cons_zero, List.set_cons_succ]
      apply dag_val Ext.refl rfl (by intro W hW H; go_simp <;> rfl)
      simp only [Act.put, List.setIfInBounds_toArray, List.set_cons_zero, List.set_cons_succ]
      refine dag_end fun W hW H => ?_
      clear H
      by_cases hz0 : z < 0
      · go_wp2_with fail
        go_ret
        refine ⟨?_, hx.trans hW⟩
        have e : sortsS t = false := by
          unfold sortsS
          rw [List.all_eq_false]
          refine ⟨p, List.mem_range.2 (by have := HP.out; omega), ?_⟩
          rw [decide_eq_true_eq]
          have h1 := HZ.out
          have h2 := HP.out
          subst h2
          omega
        rw [e]; rfl
      · go_wp2_with fail
        go_roundg i
        case measure => have := HM.out; omega
        case rel =>
          refine ⟨(p : Int), by go_num, Lib.hid (by have := HM.out; have := HP.out; omega), Lib.hid (fun i' h1 h2 => ?_), hx.trans hW⟩
          by_cases hij : i' = p
          · subst hij
            have h3 := HZ.out
            have h4 := HP.out
            subst h4
            omega
          · exact HA.out i' (by have := HP.out; omega) h2
    case neg =>
      go_wp2_with fail
      go_ret
      refine ⟨?_, hx⟩
      have e : sortsS t = true := by
        unfold sortsS
        rw [List.all_eq_true]
        intro i hi
        rw [List.mem_range] at hi
        rw [decide_eq_true_eq]
        exact HA.out i (by omega) (by omega)
      rw [e]; rfl
/-! ### May a state be? -/
theorem wt_cells {w : World} {g : Nat} {e : TypeId} {s : Wt} {v : Value} (h : ObjAt w g e [.int .i64 s.size, .int .i64 s.late, .int .i64 s.mark, .int .i64 s.drops, v]) :
    w.cell? ⟨g, 0, none⟩ = some (.int .i64 s.size) ∧ w.cell? ⟨g, 1, none⟩ = some (.int .i64 s.late) ∧ w.cell? ⟨g, 2, none⟩ = some (.int .i64 s.mark) ∧ w.cell? ⟨g, 3, none⟩ = some (.int .i64 s.drops) ∧ w.cell? ⟨g, 4, none⟩ = some v :=
  ⟨h.cell (j := 0) rfl, h.cell (j := 1) rfl, h.cell (j := 2) rfl, h.cell (j := 3) rfl, h.cell (j := 4) rfl⟩
theorem once_no {l : List Sm} {i j : Nat} (hi : i < l.length) (hj : j < i) (h : ordS (l.getD j sm0) (l.getD i sm0) = 0) : onceS l = false := by
  unfold onceS
  rw [List.all_eq_false]
  refine ⟨i, List.mem_range.2 hi, ?_⟩
  rw [List.all_eq_true]
  intro hh
  have := hh j (List.mem_range.2 hj)
  rw [h] at this
  simp at this
theorem once_yes {l : List Sm} (h : ∀ i j, i < l.length → j < i → ordS (l.getD j sm0) (l.getD i sm0) ≠ 0) : onceS l = true := by
  unfold onceS
  rw [List.all_eq_true]
  intro i hi
  rw [List.all_eq_true]
  intro j hj
  rw [List.mem_range] at hi hj
  rw [Bool.not_eq_true', decide_eq_false_iff_not]
  exact h i j hi hj
/-- The places of the first j. -/
def seenP (t : List Sm) (j : Nat) (k : List UInt8) : Bool := (t.take j).any fun x => plB x.start x.key == k
theorem seenP_zero (t : List Sm) : seenP t 0 = fun _ => false := by funext k; unfold seenP; simp
theorem seenP_step {t : List Sm} {j : Nat} (h : j < t.length) : (fun k' => seenP t j k' || (plB t[j].start t[j].key == k')) = seenP t (j + 1) := by
  funext k
  unfold seenP
  rw [List.take_succ_eq_append_getElem h, List.any_append]
  simp
set_option maxRecDepth 20000 in
set_option maxHeartbeats 2000000 in
theorem check_any (s : Wt) (v : Value) (w : World) (h : SmV w v s.opn) :
    Calls Try.prog 20 #[wtv s v] w fun e w' => e = .returned (.int .i64 (checkW s)) ∧ Ext w w' := by
  obtain ⟨size, late, mark, drops, t⟩ := s
  unfold checkW boundsW
  simp only at h ⊢
  have hx0 := Ext.alloc w (.cells #[.int .i64 size, .int .i64 late, .int .i64 mark, .int .i64 drops, v] 31)
  have ho : ObjAt (w.alloc (.cells #[.int .i64 size, .int .i64 late, .int .i64 mark, .int .i64 drops, v] 31)) w.heap.size 31 [.int .i64 size, .int .i64 late, .int .i64 mark, .int .i64 drops, v] := heap_alloc_new w _
  obtain ⟨q, c, rfl, hn, hc⟩ := h.slice
  unfold maxLen at hc
  cases h1 : inW size 1 1048576
  case false =>
    simp only [Bool.false_and]
    go_enter Try.func20, Try.ntmps20
    go_wp2_with (go_at_call 28; refine (within_any _ _ _ _).mono ?_; rintro e w' ⟨rfl, rfl⟩)
    go_ret
    exact ⟨rfl, hx0⟩
  cases h2 : inW late 0 1048576
  case false =>
    simp only [Bool.false_and]
    go_enter Try.func20, Try.ntmps20
    go_wp2_with (go_at_call 28; refine (within_any _ _ _ _).mono ?_; rintro e w' ⟨rfl, rfl⟩)
    go_ret
    exact ⟨rfl, hx0⟩
  cases h3 : inW mark (-1) 1099511627776
  case false =>
    simp only [Bool.false_and]
    go_enter Try.func20, Try.ntmps20
    go_wp2_with (go_at_call 28; refine (within_any _ _ _ _).mono ?_; rintro e w' ⟨rfl, rfl⟩)
    go_ret
    exact ⟨rfl, hx0⟩
  cases h4 : inW drops 0 1099511627776
  case false =>
    simp only [Bool.false_and]
    go_enter Try.func20, Try.ntmps20
    go_wp2_with (go_at_call 28; refine (within_any _ _ _ _).mono ?_; rintro e w' ⟨rfl, rfl⟩)
    go_ret
    exact ⟨rfl, hx0⟩
  by_cases h5 : t.length ≤ 256
  case neg =>
    rw [decide_eq_false h5]
    have hi5 : (t.length : Int) > 256 := by omega
    simp only [Bool.and_false, if_true]
    go_enter Try.func20, Try.ntmps20
    go_wp2_with (go_at_call 28; refine (within_any _ _ _ _).mono ?_; rintro e w' ⟨rfl, rfl⟩)
    go_ret
    exact ⟨rfl, hx0⟩
  rw [decide_eq_true h5]
  have hi5 : decide ((256 : Int) < (t.length : Int)) = false := by rw [decide_eq_false_iff_not]; omega
  simp only [Bool.true_and, Bool.true_eq_false, if_false]
  have hs1 : 1 ≤ size := by unfold inW at h1; simp only [Bool.and_eq_true, decide_eq_true_eq] at h1; exact h1.1
  have M1 := contains_any w.heap.size ⟨size, late, mark, drops, t⟩ (.slice q t.length c) (.slice q t.length c) t _ hs1 (h.ext hx0) ho
  simp only at M1
  obtain ⟨c0, c1, c2, c3, c4⟩ := wt_cells (s := ⟨size, late, mark, drops, t⟩) ho
  simp only at c0 c1 c2 c3 c4
  cases hm : t.all (mayS size)
  case false =>
    rw [hm] at M1
    rw [if_pos rfl]
    clear hm ho
    go_enter Try.func20, Try.ntmps20
    go_wp2_with (first
      | (go_at_call 28; refine (within_any _ _ _ _).mono ?_; rintro e w' ⟨rfl, rfl⟩)
      | (go_at_call 40; refine M1.mono ?_; rintro e w1 ⟨rfl, hx1⟩))
    go_ret
    exact ⟨rfl, hx0.trans hx1⟩
  rw [hm] at M1
  rw [if_neg (by simp)]
  rw [List.all_eq_true] at hm
  have HM : Hid (∀ x ∈ t, -9223372036854775808 ≤ x.start ∧ x.start ≤ 9223372036854775807 ∧ x.key.length ≤ maxLen) := Lib.hid (fun x hx => by
    have h := hm x hx
    unfold mayS inW at h
    simp only [Bool.and_eq_true, decide_eq_true_eq] at h
    have := h.2.2.1
    refine ⟨by omega, by omega, by simp only [maxLen]; omega⟩)
  have hrs := rises_iff t
  obtain ⟨R, hR⟩ : ∃ R : Int, (if risesS t = false then 16 else 0) = R := ⟨_, rfl⟩
  rw [hR]
  rw [← hrs] at hR
  have HR := Lib.hid hR
  have hmm := @run_makeMap Try.prog
  have HX0 := Lib.hid hx0
  have HV := Lib.hid h
  have H5 := Lib.hid h5
  clear hm hR hrs hx0 ho h5 h
  generalize hwa : w.alloc (.cells #[.int .i64 size, .int .i64 late, .int .i64 mark, .int .i64 drops, .slice q t.length c] 31) = wa at *
  have HG : Hid (wa.heap.size = w.heap.size + 1) := Lib.hid (by rw [← hwa]; simp)
  go_enter Try.func20, Try.ntmps20
  go_wp2_with (first
    | (go_at_call 28; refine (within_any _ _ _ _).mono ?_; rintro e w' ⟨rfl, rfl⟩)
    | (go_at_call 40; refine M1.mono ?_; rintro e wb ⟨rfl, hx1⟩
       have d4 := hx1.cell c4
       have e4 := (Ext.alloc wb (.map #[] 0)).cell d4
       have HMP := Lib.hid (PMap.made wb)
       have HXM := Lib.hid (Ext.alloc wb (.map #[] 0))))
  have HX1 := Lib.hid hx1
  have HC : Hid (c ≤ 2 ^ 63 - 1 ∧ t.length ≤ c) := Lib.hid ⟨hc, hn⟩
  clear hx1 hc hn M1 c0 c1 c2 c3 c4
  go_loopg [42] (t.length) (fun k s42 wr => ∃ j : Nat, s42 = .int .i64 j ∧ j ≤ t.length ∧ k = t.length - j ∧ Hid (PMap wr wb.heap.size j (seenP t j)) ∧ Hid (∀ a b, a < j → b < a → ordS (t.getD b sm0) (t.getD a sm0) ≠ 0) ∧ Hid (Ext wb wr))
  case atStart => exact ⟨0, rfl, Nat.zero_le _, rfl, Lib.hid (by rw [seenP_zero]; exact HMP.out), Lib.hid (fun a b ha => by omega), HXM⟩
  case round =>
    obtain ⟨j, rfl, hj, hk, HP, HA, HX⟩ := hrel
    by_cases hlt : j < t.length
    case neg =>
      have hje : j = t.length := by omega
      subst hje
      have hi : ¬ (t.length : Int) < (t.length : Int) := by omega
      clear hlt
      have f4 := HX.out.cell d4
      have S1 := sorted_any (.slice q t.length c) t wr (HV.out.ext (HX0.out.trans (HX1.out.trans HX.out)))
      have hR2 := HR.out
      rw [once_yes HA.out, Bool.true_and] at hR2
      cases hso : sortsS t with
      | false =>
        rw [hso] at hR2 S1
        rw [if_pos rfl] at hR2
        subst hR2
        clear hso
        go_wp2_with (go_at_call 43; refine S1.mono ?_; rintro e w' ⟨rfl, hx2⟩)
        go_ret
        exact ⟨rfl, (HX0.out.trans (HX1.out.trans HX.out)).trans hx2⟩
      | true =>
        rw [hso] at hR2 S1
        rw [if_neg (by simp)] at hR2
        subst hR2
        clear hso
        go_wp2_with (go_at_call 43; refine S1.mono ?_; rintro e w' ⟨rfl, hx2⟩)
        go_ret
        exact ⟨rfl, (HX0.out.trans (HX1.out.trans HX.out)).trans hx2⟩
    have hi : (j : Int) < (t.length : Int) := by omega
    obtain ⟨b, o, rfl, ⟨m0, m1, m2, m3, m4, m5⟩⟩ := sm_at (HV.out.ext (HX0.out.trans (HX1.out.trans HX.out))) hlt
    obtain ⟨k1, k2, k3⟩ := HM.out t[j] (List.getElem_mem hlt)
    have hget : t.getD j sm0 = t[j] := getD_sm hlt
    have HST := Lib.hid (seenP_step hlt)
    generalize t[j] = x at *
    have HGET := Lib.hid hget
    obtain ⟨x0, x1, x2, x3, x4, x5⟩ := x
    simp only at m0 m1 m2 m3 m4 m5 k1 k2 k3 HST
    have hxa := Ext.alloc wr (.cells #[.int .i64 x0, .string ⟨x1.toArray⟩, .int .i64 x2, .int .i64 x3, .int .i64 x4, .int .i64 x5] 64)
    have oa : ObjAt (wr.alloc (.cells #[.int .i64 x0, .string ⟨x1.toArray⟩, .int .i64 x2, .int .i64 x3, .int .i64 x4, .int .i64 x5] 64)) wr.heap.size 64 [.int .i64 x0, .string ⟨x1.toArray⟩, .int .i64 x2, .int .i64 x3, .int .i64 x4, .int .i64 x5] := heap_alloc_new wr _
    have a0 := oa.cell (j := 0) rfl
    have a1 := oa.cell (j := 1) rfl
    have hM := HP.out.ext hxa
    have hlk := hM.look k1 k2 k3
    have HKEY := Lib.hid (plKey k1 k2 k3)
    obtain ⟨D, hD1, hD2⟩ := hM
    have HXX := Lib.hid (HX.out.trans hxa)
    have HD1 := Lib.hid hD1
    have HD2 := Lib.hid hD2
    have HKS := Lib.hid (And.intro k1 (And.intro k2 k3))
    have HBM : Hid (wb.heap.size < wr.heap.size) := Lib.hid (by
      have h1 := HMP.out.choose_spec.1.lt
      have h2 := HP.out.choose_spec.1.lt
      exact h2)
    clear hget hD1 hD2 oa hxa k1 k2 k3
    cases hsn : seenP t j (plB x0 x1) with
    | true =>
      rw [hsn] at hlk
      have HSN := Lib.hid hsn
      clear hsn
      go_wp2_with ((with_reducible show wpList _ _ _ (Oper.mk _ (Op.lookup _ _ _ _) _ _ _ _ :: _) _ _); refine wpList_run rfl (run_op_lookup rfl rfl rfl hlk) ?_)
      go_ret
      refine ⟨?_, (HX0.out.trans HX1.out).trans HXX.out⟩
      have hno : onceS t = false := by
        have h1 := HSN.out
        unfold seenP at h1
        rw [List.any_eq_true] at h1
        obtain ⟨y, hy, he⟩ := h1
        obtain ⟨i, hi2, rfl⟩ := List.mem_iff_getElem.1 hy
        rw [List.length_take] at hi2
        rw [List.getElem_take] at he
        rw [beq_iff_eq] at he
        have hil : i < t.length := by omega
        obtain ⟨g1, g2, g3⟩ := HM.out t[i] (List.getElem_mem hil)
        have := plB_inj g1 g2 g3 HKS.out.1 HKS.out.2.1 HKS.out.2.2 he
        refine once_no hlt (j := i) (by omega) ?_
        rw [HGET.out, getD_sm hil]
        exact ordS_zero.2 this
      have hR2 := HR.out
      rw [hno, Bool.false_and, if_pos rfl] at hR2
      subst hR2
      rfl
    | false =>
      rw [hsn] at hlk
      have HSN := Lib.hid hsn
      clear hsn
      go_wp2_with (first
        | ((with_reducible show wpList _ _ _ (Oper.mk _ (Op.lookup _ _ _ _) _ _ _ _ :: _) _ _); refine wpList_run rfl (run_op_lookup rfl rfl rfl hlk) ?_)
        | (at_mapUpdate; refine wpList_mapUpdate_own _ rfl _ _ _ 84 rfl 74 4 T.plKeyed Try.underlying84 _ _ _ _ rfl HD1.out (by have := H5.out; simp only [maxLen]; omega) _ _ _ rfl rfl HKEY.out _ [] (plainElem_bool Try.underlying4 true) ?_; intro w1 hown1 hgrow1
           have HO1 := Lib.hid hown1
           have HG1 := Lib.hid hgrow1
           clear hown1 hgrow1))
      go_roundg (t.length - (j + 1))
      case measure => omega
      case rel =>
        have hst := PMap.step HD2.out HD1.out.isMap HO1.out
        rw [HST.out] at hst
        have e : wrap64 ((j : Int) + 1) = ((j + 1 : Nat) : Int) := by have := H5.out; unfold wrap64; omega
        refine ⟨j + 1, congrArg (Value.int .i64) e, hlt, rfl, Lib.hid hst, Lib.hid (fun a b ha hb he => ?_), Lib.hid (HXX.out.grown HG1.out (Nat.le_refl _))⟩
        by_cases haj : a = j
        · subst haj
          have h1 := HSN.out
          unfold seenP at h1
          rw [List.any_eq_false] at h1
          rw [HGET.out, getD_sm (show b < t.length by omega), ordS_zero] at he
          refine h1 t[b] (List.mem_iff_getElem.2 ⟨b, by rw [List.length_take]; omega, by rw [List.getElem_take]⟩) ?_
          rw [he.1, he.2]
          simp
        · exact HA.out a b (by omega) hb he
end Go.Proofs.Ytpejdompanhieaa
