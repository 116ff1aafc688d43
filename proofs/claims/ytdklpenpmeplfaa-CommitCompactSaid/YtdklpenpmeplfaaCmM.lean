/- What compact.Clean computes of batches that rise, of one record each. -/
import Derived.Test.YtdklpenpmeplfaaCmK
import Derived.Test.YtdklpenpmeplfaaCmG
namespace Go.Proofs.Ytdklpenpmeplfaa
open Go.RowKit

theorem T.recInfo : (Try.prog.info? 25).map (fun i => (i.zero, i.size, i.bytes)) = some (some (.agg #[.int .i64 0, .int .i64 0, .bool false, .string ⟨#[]⟩, .bool false, .string ⟨#[]⟩]), 6, 64) := by kernel_rfl
theorem T.recs : RowT Try.prog 44 25 (.agg #[.int .i64 0, .int .i64 0, .bool false, .string ⟨#[]⟩, .bool false, .string ⟨#[]⟩]) 6 64 := ⟨Try.underlying44, info_parts T.recInfo, rfl, by omega⟩
theorem T.batInfo : (Try.prog.info? 46).map (fun i => (i.zero, i.size, i.bytes)) = some (some (.agg #[.int .i64 0, .int .i64 0, .int .i64 0, .int .i64 0, .int .i64 0, .slice none 0 0]), 6, 64) := by kernel_rfl
theorem T.bats : RowT Try.prog 60 46 (.agg #[.int .i64 0, .int .i64 0, .int .i64 0, .int .i64 0, .int .i64 0, .slice none 0 0]) 6 64 := ⟨Try.underlying60, info_parts T.batInfo, rfl, by omega⟩
set_option maxHeartbeats 400000 in
theorem cloneR_any {α : Type} {R : World → List Value → α → Prop} {S : Nat → Prop} (v : Value) (xs : List α) (w : World) (h : SRow 6 R S w v xs) (hl : xs.length ≤ 100000) :
    Calls Try.prog 53 #[v] w fun e w' => ∃ v', e = .returned v' ∧ ORow 25 6 R S w' w.heap.size v' xs ∧ Ext w w' := by
  obtain ⟨p, c, rfl, hn, hc⟩ := h.slice
  have q22 : ∀ (w : World) (a : Option Addr) (n c n' c' : Nat), (binOp .eql 44 (.slice a n c) (.slice none n' c')).run Try.prog w = .ok (.bool a.isNone) w := fun w a n c n' c' => Lib.run_eql_slice_nil w _ _ a n c n' c' Try.underlying44
  have HL := Lib.hid hl
  clear hl
  cases p with
  | none =>
    have hnil : xs = [] := h.none_nil (by decide)
    subst hnil
    go_enter Try.func53, Try.ntmps53
    go_wp2
    go_ret
    exact ⟨_, rfl, ORow.nil _ _ _, Ext.refl _⟩
  | some ad =>
    have hx0 := Ext.alloc w (.cells #[] 25)
    have h1 : SRow 6 R (fun k => S k ∧ some k ≠ (Value.slice (some ⟨w.heap.size, 0, none⟩) 0 0).ownBlock) (w.alloc (.cells #[] 25)) (.slice (some ad) xs.length c) xs := by
      obtain ⟨css, p, c', k1, k2, k3, k4, k5, k6⟩ := h
      refine ⟨css, p, c', k1, k2, k3, k4, k5.ext hx0, k6.1, fun j cs x hcs hxx w' kk => ?_⟩
      refine k6.2 j cs x hcs hxx w' ⟨Nat.le_trans hx0.size kk.1, fun k hk hS => ?_⟩
      rw [kk.2 k (Nat.lt_of_lt_of_le hk hx0.size) ⟨hS, fun e => by cases e; exact absurd hk (Nat.lt_irrefl _)⟩]
      exact hx0.block k hk
    have hown : ORow 25 6 R S (w.alloc (.cells #[] 25)) w.heap.size (.slice (some ⟨w.heap.size, 0, none⟩) 0 0) ([] : List α) := ORow.lit0 S w (Nat.le_refl _)
    have HX := Lib.hid hx0
    clear hx0 h hn hc
    go_enter Try.func53, Try.ntmps53
    go_wp2_with (at_builtin; refine st_items T.recs hown h1 ?_ (by have := HL.out; simp [maxLen]; omega) (by have := HL.out; simp; omega) HX.out.size; intro v2 w2 ho2 hg2 hw2)
    go_ret
    exact ⟨_, rfl, by simpa using ho2, hown.grown HX.out hg2⟩
theorem rec_to {S T : Nat → Prop} {w : World} {v : Value} {l : List Rec} (h : SRow 6 RRec S w v l) : SRow 6 RRec T w v l := by
  obtain ⟨css, p, c, h1, h2, h3, h4, h5, h6, h7⟩ := h
  exact ⟨css, p, c, h1, h2, h3, h4, h5, h6, fun j cs x hc hx w' _ => (h7 j cs x hc hx).now⟩
abbrev RecO (w : World) (B : Nat) (v : Value) (l : List Rec) : Prop := ORow 25 6 RRec (fun _ => False) w B v l
theorem RecO.under {w : World} {B : Nat} {v : Value} {xs : List Rec} (h : RecO w B v xs) : Under (fun k => v.ownBlock = some k) (fun w' => RecV w' v xs) w := fun w' k => by
  obtain ⟨css, p, c, h1, rfl, h3, h4, h5, h6⟩ := ORow.view h
  exact ⟨css, p, c, h1, rfl, h3, h4, h5.keeps (fun a e => by rw [e]; rfl) k, h6.1, fun j cs x hc hx w'' _ => (h6.2 j cs x hc hx).now⟩
theorem rec_none (w : World) (p : Option Addr) {c : Nat} (hc : c ≤ maxLen) : RecV w (.slice p 0 c) [] :=
  ⟨[], p, c, fun _ h => (by simp at h), rfl, Nat.zero_le _, hc, Sees.nil _ _, Items.nil _ _⟩
set_option maxHeartbeats 1000000 in
theorem clean1_any (g7 g10 b n : Nat) (f : List UInt8 → Option Int) (rs : List Rec) (i : Nat) (v : Value) (w : World) (hm : LMap w b n f) (hG : Good rs rs.length f) (hi : i < rs.length) (hn : rs.length ≤ 1000) (h1 : v.oneCell' = true)
    (hr : (rs.getD i rec0).delta = 0 ∧ (rs.getD i rec0).keyed = true ∧ (rs.getD i rec0).dead = false ∧ (rs.getD i rec0).key.length ≤ 1000)
    (o7 : ObjAt w g7 95 [.map (some b), .int .i64 0, .int .i64 0]) (o10 : ObjAt w g10 46 [.int .i64 (i : Int), .int .i64 1, .int .i64 0, .int .i64 0, .int .i64 0, v]) :
    Calls Try.prog 54 #[recv (rs.getD i rec0), .pointer (some ⟨g7, 0, none⟩), .pointer (some ⟨g10, 0, none⟩)] w fun e w' => e = .returned (.bool (!(keepI rs i))) ∧ Ext w w' := by
  have K1 := fun W h => keeps_any b n f rs i v W h hG hi hn hr
  generalize rs.getD i rec0 = r at *
  obtain ⟨d, t, k, y, z, va⟩ := r
  have hx0 := Ext.alloc w (.cells #[.int .i64 d, .int .i64 t, .bool k, .string ⟨y.toArray⟩, .bool z, .string ⟨va.toArray⟩] 25)
  have ob : ObjAt (w.alloc (.cells #[.int .i64 d, .int .i64 t, .bool k, .string ⟨y.toArray⟩, .bool z, .string ⟨va.toArray⟩] 25)) w.heap.size 25 [.int .i64 d, .int .i64 t, .bool k, .string ⟨y.toArray⟩, .bool z, .string ⟨va.toArray⟩] := heap_alloc_new w _
  have p7 := o7.ext hx0
  have p10 := o10.ext hx0
  have a0 := p7.cell (j := 0) rfl
  have a1 := p7.cell (j := 1) rfl
  have a2 := p7.cell (j := 2) rfl
  have b0 := p10.cell (j := 0) rfl
  have b1 := p10.cell (j := 1) rfl
  have b2 := p10.cell (j := 2) rfl
  have b3 := p10.cell (j := 3) rfl
  have b4 := p10.cell (j := 4) rfl
  have b5 := p10.cell (j := 5) rfl
  have hm2 := hm.ext hx0
  clear hm hG hr p7 p10 ob o7 o10 hi
  generalize keepI rs i = q at *
  go_enter Try.func54, Try.ntmps54
  go_wp2_with (go_at_call 55; refine (K1 _ hm2).mono ?_; rintro e w1 ⟨rfl, hx1⟩)
  go_ret
  exact ⟨rfl, hx0.trans hx1⟩
set_option maxHeartbeats 1000000 in
theorem idxR_any (g7 g10 : Nat) (q : Bool) (v : Value) (r : Rec) (w : World) (h : RecV w v [r])
    (hcl : ∀ (W : World), Ext w W → Calls Try.prog 54 #[recv r, .pointer (some ⟨g7, 0, none⟩), .pointer (some ⟨g10, 0, none⟩)] W fun e w' => e = .returned (.bool (!q)) ∧ Ext W w') :
    Calls Try.prog 76 #[v, .func (.func 54) #[] #[.pointer (some ⟨g7, 0, none⟩), .pointer (some ⟨g10, 0, none⟩)]] w fun e w' => e = .returned (.int .i64 (if q then -1 else 0)) ∧ Ext w w' := by
  obtain ⟨p, c, rfl, hn, hc⟩ := h.slice
  unfold maxLen at hc
  obtain ⟨b, o, rfl, ⟨m0, m1, m2, m3, m4, m5⟩, _, _⟩ := rec_at h (j := 0) (by simp)
  simp only [List.getElem_cons_zero, Nat.zero_mul, Nat.add_zero] at m0 m1 m2 m3 m4 m5
  obtain ⟨d, t, k, y, z, va⟩ := r
  simp only at m0 m1 m2 m3 m4 m5
  have C1 := hcl w (Ext.refl _)
  cases q with
  | true =>
    simp only [Bool.not_true] at C1
    go_enter Try.func76, Try.ntmps76
    go_wp2_with fail
    refine wp_loop_rounds 2 ?_
    rw [rounds_succ]
    go_wp2_with (go_at_call 54; refine C1.mono ?_; rintro e w' ⟨rfl, hx2⟩)
    rw [rounds_succ]
    go_wp2_with fail
    go_ret
    exact ⟨rfl, hx2⟩
  | false =>
    simp only [Bool.not_false] at C1
    go_enter Try.func76, Try.ntmps76
    go_wp2_with fail
    refine wp_loop_rounds 1 ?_
    rw [rounds_succ]
    go_wp2_with (go_at_call 54; refine C1.mono ?_; rintro e w' ⟨rfl, hx2⟩)
    go_ret
    exact ⟨rfl, hx2⟩
set_option maxRecDepth 20000 in
set_option maxHeartbeats 1000000 in
theorem delR_any (g7 g10 : Nat) (q : Bool) (v : Value) (r : Rec) (w : World) (B : Nat) (h : RecO w B v [r])
    (hcl : ∀ (W : World), Ext w W → Calls Try.prog 54 #[recv r, .pointer (some ⟨g7, 0, none⟩), .pointer (some ⟨g10, 0, none⟩)] W fun e w' => e = .returned (.bool (!q)) ∧ Ext W w') :
    Calls Try.prog 52 #[v, .func (.func 54) #[] #[.pointer (some ⟨g7, 0, none⟩), .pointer (some ⟨g10, 0, none⟩)]] w fun e w' => ∃ g c, e = .returned (.slice (some ⟨g, 0, none⟩) (if q then 1 else 0) c) ∧ c ≤ maxLen ∧ (q = true → RecO w' B (.slice (some ⟨g, 0, none⟩) 1 c) [r]) ∧ w.grownBy w' (some g) ∧ B ≤ g := by
  have I1 := idxR_any g7 g10 q v r w (rec_to (ORow.view h)) hcl
  obtain ⟨g, c, C0, e1, hBg, hgg, hcl0, hnc, hcut⟩ := h.cutAt (by simp) (i := 0) (Nat.zero_le _)
  subst e1
  simp only [List.length_singleton] at hnc hcl0 h I1 ⊢
  have hcm : c ≤ maxLen := by obtain ⟨p', c', e, _, h2⟩ := (ORow.view h).slice; injection e with _ _ e3; omega
  have HCM := Lib.hid hcm
  have HBG := Lib.hid hBg
  have HH := Lib.hid h
  clear hcl hBg hcut h hcm
  cases q with
  | true =>
    simp only [if_true] at I1 ⊢
    clear hcl0 hgg
    go_enter Try.func52, Try.ntmps52
    go_wp2_with (go_at_call 76; refine I1.mono ?_; rintro e w1 ⟨rfl, hx1⟩)
    go_ret
    exact ⟨_, _, rfl, HCM.out, fun _ => HH.out.keep hx1, hx1.grownBy _, HBG.out⟩
  | false =>
    simp only [Bool.false_eq_true, if_false] at I1 ⊢
    have ht : cutA 6 (some ⟨g, 0, none⟩) c 0 = some ⟨g, 0 * 6, none⟩ := (cut_in (by omega)).trans (by rw [Nat.zero_add])
    have R := fun w1 (hx : Ext w w1) => run_clear_put T.recs 0 (n := 1 - 0) (c := c - 0) (o := 0 * 6) ((hx.block g (Array.getElem?_eq_some_iff.1 hgg).1).trans hgg) (by omega) (by omega) (by decide +kernel)
    have HR := Lib.hid R
    clear hcl0 hgg R
    go_enter Try.func52, Try.ntmps52
    go_wp2_with (go_at_call 76; refine I1.mono ?_; rintro e w1 ⟨rfl, hx1⟩)
    obtain ⟨w2, zs, hrc, hzl, hh2, hg2⟩ := HR.out w1 hx1
    refine wp_loop_rounds 1 ?_
    rw [rounds_succ]
    go_wp2_with (first
      | ((with_reducible show wpList _ _ _ (Oper.mk _ (Op.slice _ _ _ _ _) _ _ _ _ :: _) _ _); refine st_slice T.recs 0 1 c ?_; rw [ht])
      | ((with_reducible show wpList _ _ _ (Oper.mk _ (Op.call { callee := Callee.builtin Builtin.clear, args := _, argTypes := _ }) _ _ _ _ :: _) _ _); refine wpList_run rfl (run_op_clear rfl rfl hrc) ?_)
      | ((with_reducible show wpList _ _ _ (Oper.mk _ (Op.slice _ _ _ _ _) _ _ _ _ :: _) _ _); refine st_sliceTo T.recs 0 c ?_))
    go_ret
    exact ⟨_, _, rfl, HCM.out, (fun h => False.elim (by simp at h)), (hx1.grownBy _).trans hg2, HBG.out⟩
theorem one_own {k : Nat} {v : Value} (h : ∀ m, v.ownBlock = some m → m < k) : some k ≠ v.ownBlock := fun e => Nat.lt_irrefl _ (h k e.symm)
structure KeepF (wo w4 W5 : World) (x : Value) (rs : List Rec) (j g4 c4 : Nat) : Prop where
  y0 : W5.cell? ⟨wo.heap.size, 0, none⟩ = some (.int .i64 (j : Int))
  y1 : W5.cell? ⟨wo.heap.size, 1, none⟩ = some (.int .i64 1)
  y2 : W5.cell? ⟨wo.heap.size, 2, none⟩ = some (.int .i64 0)
  y3 : W5.cell? ⟨wo.heap.size, 3, none⟩ = some (.int .i64 0)
  y4 : W5.cell? ⟨wo.heap.size, 4, none⟩ = some (.int .i64 0)
  y5 : W5.cell? ⟨wo.heap.size, 5, none⟩ = some (.slice (some ⟨g4, 0, none⟩) 1 c4)
  hx : Ext wo W5
  hl : SRow 6 RBat (fun k => (fun _ => True) k ∧ some k ≠ x.ownBlock) (W5.alloc (.cells #[.int .i64 (j : Int), .int .i64 1, .int .i64 0, .int .i64 0, .int .i64 0, .slice (some ⟨g4, 0, none⟩) 1 c4] 46)) (.slice (some ⟨w4.heap.size, 0, none⟩) 1 1) [oneB rs j]
theorem keepF {wo wa w3 w4 : World} {x q : Value} {rs : List Rec} {j g4 c4 : Nat} (hxa : Ext wo wa) (hsz : wa.heap.size = wo.heap.size + 1) (o10 : ObjAt wa wo.heap.size 46 [.int .i64 (j : Int), .int .i64 1, .int .i64 0, .int .i64 0, .int .i64 0, q])
    (hx3 : Ext wa w3) (hg4 : w3.grownBy w4 (some g4)) (hb4 : wa.heap.size ≤ g4) (hk4 : RecO w4 wa.heap.size (.slice (some ⟨g4, 0, none⟩) 1 c4) [rs.getD j rec0]) (hx : ∀ k, x.ownBlock = some k → k < wo.heap.size) :
    w4.cell? ⟨wo.heap.size, 5, none⟩ = some q ∧ w4.frozen? ⟨wo.heap.size, 5, none⟩ = false ∧ KeepF wo w4 (w4.setCell ⟨wo.heap.size, 5, none⟩ (.slice (some ⟨g4, 0, none⟩) 1 c4)) x rs j g4 c4 := by
  have hne : g4 ≠ wo.heap.size := by omega
  have o4 := (o10.ext hx3).kept hg4 (fun e => hne (Option.some.inj e).symm)
  have o5 := o4.store 5 (.slice (some ⟨g4, 0, none⟩) 1 c4)
  have hk5 : RecO (w4.setCell ⟨wo.heap.size, 5, none⟩ (.slice (some ⟨g4, 0, none⟩) 1 c4)) wa.heap.size (.slice (some ⟨g4, 0, none⟩) 1 c4) [rs.getD j rec0] := ORow.kept hk4 (grown_set w4 ⟨wo.heap.size, 5, none⟩ _) (fun k hk => False.elim hk) (.inr (fun e => hne (Option.some.inj e)))
  have hun : Under (fun k => (fun _ => True) k ∧ some k ≠ x.ownBlock) (fun w' => RBat w' (batCells (oneB rs j) (.slice (some ⟨g4, 0, none⟩) 1 c4)) (oneB rs j)) (w4.setCell ⟨wo.heap.size, 5, none⟩ (.slice (some ⟨g4, 0, none⟩) 1 c4)) := fun w' kp => ⟨_, rfl, (RecO.under hk5) w' (kp.mono fun k _ hk => ⟨trivial, fun e => by
    have h1 := hx k e.symm
    have h2 : g4 = k := Option.some.inj hk
    omega⟩)⟩
  have hl1 := SRow.lit1 (e := 46) (sz := 6) (R := RBat) (S := fun k => (fun _ => True) k ∧ some k ≠ x.ownBlock) (cs := batCells (oneB rs j) (.slice (some ⟨g4, 0, none⟩) 1 c4)) (x := oneB rs j) rfl (fun u hu => by
    simp only [batCells, List.mem_cons, List.not_mem_nil, or_false] at hu
    rcases hu with rfl | rfl | rfl | rfl | rfl | rfl <;> rfl) hun
  simp only [World.size_setCell] at hl1
  exact ⟨o4.cell (j := 5) rfl, o4.free 5, ⟨o5.cell (j := 0) rfl, o5.cell (j := 1) rfl, o5.cell (j := 2) rfl, o5.cell (j := 3) rfl, o5.cell (j := 4) rfl, o5.cell (j := 5) rfl, ((hxa.trans hx3).grown hg4 (Nat.le_trans hxa.size hb4)).store (p := ⟨wo.heap.size, 5, none⟩) (Nat.le_refl _) _, hl1⟩⟩
set_option maxRecDepth 20000 in
set_option maxHeartbeats 2000000 in
theorem clean_any (v : Value) (rs : List Rec) (w : World) (h : BatV w v (mkB rs)) (hl : rs.length ≤ 1000) (hf : ∀ r ∈ rs, r.delta = 0 ∧ r.keyed = true ∧ r.dead = false ∧ r.key.length ≤ 1000) :
    Calls Try.prog 28 #[v, .int .i64 0, .int .i64 0] w fun e w' => ∃ v', e = .returned v' ∧ BatV w' v' (cleanB rs rs.length) ∧ Ext w w' := by
  obtain ⟨p, c, e0, hn, hc⟩ := h.slice
  rw [mkB_length] at e0 hn
  subst e0
  unfold maxLen at hc
  have L1 := last_any (.slice p rs.length c) rs w h hl (fun r hr => ⟨(hf r hr).1, (hf r hr).2.1, (hf r hr).2.2.2⟩)
  have HL := Lib.hid hl
  have HF := Lib.hid hf
  clear hf
  go_enter Try.func28, Try.ntmps28
  go_wp2_with (go_at_call 51; refine L1.mono ?_; rintro e w1 ⟨f, rfl, hM1, hG1, hx1⟩)
  obtain ⟨w2, hw2⟩ : ∃ w2, w2 = w1.alloc (.cells #[.map (some w.heap.size), .int .i64 0, .int .i64 0] 95) := ⟨_, rfl⟩
  have hx12 : Ext w1 w2 := by rw [hw2]; exact Ext.alloc _ _
  have o7 : ObjAt w2 w1.heap.size 95 [.map (some w.heap.size), .int .i64 0, .int .i64 0] := by rw [hw2]; exact heap_alloc_new w1 _
  rw [← hw2]
  have HM := Lib.hid (hM1.ext hx12)
  have HG := Lib.hid hG1
  have HO7 := Lib.hid o7
  have HX2 := Lib.hid (hx1.trans hx12)
  have HL7 := Lib.hid o7.lt
  clear hw2 hM1 hG1 o7 hx12 hx1 L1
  go_loopg [8, 18] (rs.length) (fun k s8 s18 wr => ∃ (j : Nat) (x : Value), s8 = x ∧ s18 = .int .i64 j ∧ j ≤ rs.length ∧ k = rs.length - j ∧ Hid (ORow 46 6 RBat (fun _ => True) wr w2.heap.size x (cleanB rs j)) ∧ Hid (Ext w2 wr))
  case atStart => exact ⟨0, _, rfl, rfl, Nat.zero_le _, rfl, Lib.hid (ORow.nil _ _ _), Lib.hid (Ext.refl _)⟩
  case round =>
    obtain ⟨j, x, e8, rfl, hj, hk, HO, HX⟩ := hrel
    replace e8 := e8.symm
    subst e8
    obtain ⟨wo, hwo⟩ : ∃ wo, wo = wr := ⟨_, rfl⟩
    subst hwo
    by_cases hlt : j < rs.length
    case neg =>
      have hje : j = rs.length := by omega
      subst hje
      have hi : ¬ (rs.length : Int) < (rs.length : Int) := by omega
      clear hlt
      go_wp2_with fail
      go_ret
      exact ⟨_, rfl, (ORow.view HO.out).mono fun _ _ _ => trivial, HX2.out.trans HX.out⟩
    have hi : (j : Int) < (rs.length : Int) := by omega
    obtain ⟨b, o, q, d, rfl, ⟨m0, m1, m2, m3, m4, m5⟩, hr1, h1d, hdm⟩ := oneB_at (h.ext (HX2.out.trans HX.out)) hlt
    unfold maxLen at hdm
    have hfr := HF.out (rs.getD j rec0) (by rw [getD_at hlt]; exact List.getElem_mem hlt)
    unfold oneB at m0 m1 m2 m3 m4
    simp only at m0 m1 m2 m3 m4
    have hxa := Ext.alloc wo (.cells #[.int .i64 (j : Int), .int .i64 1, .int .i64 0, .int .i64 0, .int .i64 0, .slice q 1 d] 46)
    have o10 : ObjAt (wo.alloc (.cells #[.int .i64 (j : Int), .int .i64 1, .int .i64 0, .int .i64 0, .int .i64 0, .slice q 1 d] 46)) wo.heap.size 46 [.int .i64 (j : Int), .int .i64 1, .int .i64 0, .int .i64 0, .int .i64 0, .slice q 1 d] := heap_alloc_new wo _
    have a5 := o10.cell (j := 5) rfl
    have C1 := cloneR_any (S := fun _ => False) (.slice q 1 d) [rs.getD j rec0] _ (rec_to (hr1.ext hxa)) (by simp)
    obtain ⟨wa, hwa⟩ : ∃ wa, wa = wo.alloc (.cells #[.int .i64 (j : Int), .int .i64 1, .int .i64 0, .int .i64 0, .int .i64 0, .slice q 1 d] 46) := ⟨_, rfl⟩
    have hsz : wa.heap.size = wo.heap.size + 1 := by rw [hwa]; simp
    rw [← hwa] at hxa o10 C1
    have D := fun v3 w3 (ho3 : RecO w3 wa.heap.size v3 [rs.getD j rec0]) (hx : Ext wa w3) => delR_any w1.heap.size wo.heap.size (keepI rs j) v3 (rs.getD j rec0) w3 wa.heap.size ho3 (fun W hW => clean1_any w1.heap.size wo.heap.size w.heap.size rs.length f rs j (.slice q 1 d) W (HM.out.ext (HX.out.trans (hxa.trans (hx.trans hW)))) HG.out hlt HL.out rfl hfr (HO7.out.ext (HX.out.trans (hxa.trans (hx.trans hW)))) (o10.ext (hx.trans hW)))
    have HXA := Lib.hid hxa
    have HOA := Lib.hid o10
    have HSA := Lib.hid hsz
    rw [hwa] at C1
    clear hsz hxa o10 hr1 hfr h1d hl
    cases hq : keepI rs j with
    | true =>
      rw [hq] at D
      have HCL := Lib.hid (cleanB_keep hq)
      simp only [if_true] at D
      clear hq
      go_wp2_with (first
        | (go_at_call 53; refine C1.mono ?_; rintro e w3 ⟨v3, rfl, ho3, hx3⟩
           rw [← hwa] at ho3 hx3
           have D3 := D v3 w3 ho3 hx3
           obtain ⟨p3, c3, e3, _, _⟩ := (ORow.view ho3).slice
           simp only [List.length_singleton] at e3
           subst e3)
        | (go_at_call 52; refine D3.mono ?_; rintro e w4 ⟨g4, c4, rfl, hc4, hk4, hg4, hb4⟩
           obtain ⟨z5, f5, y0, y1, y2, y3, y4, y5, hx5, hl1⟩ := keepF (x := x) HXA.out HSA.out HOA.out hx3 hg4 hb4 (hk4 (by trivial)) (fun k e => (HO.out.own k e).2)
           have hxl := hx5.trans (Ext.alloc (w4.setCell ⟨wo.heap.size, 5, none⟩ (.slice (some ⟨g4, 0, none⟩) 1 c4)) (.cells #[.int .i64 (j : Int), .int .i64 1, .int .i64 0, .int .i64 0, .int .i64 0, .slice (some ⟨g4, 0, none⟩) 1 c4] 46))
           have HOX := Lib.hid (HO.out.keep hxl)
           have HXX := Lib.hid (HX.out.trans hxl)
           have HLI := Lib.hid hl1
           clear hk4 hg4 hb4 hx5 hxl hl1 hc4)
        | (at_builtin; refine st_items T.bats HOX.out HLI.out ?_ (by have h1 := HL.out; have h2 := cleanB_length rs j; simp [maxLen]; omega) (by have h1 := HL.out; have h2 := cleanB_length rs j; simp; omega) HXX.out.size; intro v6 w6 ho6 hg6 _
           have HO6 := Lib.hid ho6
           have HG6 := Lib.hid hg6
           clear ho6 hg6))
      go_roundg (rs.length - (j + 1))
      case measure => omega
      case rel => exact ⟨j + 1, _, rfl, by go_num, hlt, rfl, Lib.hid (by rw [HCL.out]; exact HO6.out), Lib.hid (HOX.out.grown HXX.out HG6.out)⟩
    | false =>
      rw [hq] at D
      have HCL := Lib.hid (cleanB_drop hq)
      simp only [Bool.false_eq_true, if_false] at D
      clear hq
      go_wp2_with (first
        | (go_at_call 53; refine C1.mono ?_; rintro e w3 ⟨v3, rfl, ho3, hx3⟩
           rw [← hwa] at ho3 hx3
           have D3 := D v3 w3 ho3 hx3
           obtain ⟨p3, c3, e3, _, _⟩ := (ORow.view ho3).slice
           simp only [List.length_singleton] at e3
           subst e3)
        | (go_at_call 52; refine D3.mono ?_; rintro e w4 ⟨g4, c4, rfl, hc4, hk4, hg4, hb4⟩
           have hne : g4 ≠ wo.heap.size := by have := HSA.out; omega
           have o4 := (HOA.out.ext hx3).kept hg4 (fun e => hne (Option.some.inj e).symm)
           have z5 := o4.cell (j := 5) rfl
           have f5 := o4.free 5
           have o5 := o4.store 5 (.slice (some ⟨g4, 0, none⟩) 0 c4)
           have y2 : _ = some (Value.int .i64 0) := o5.cell (j := 2) rfl
           have y5 : _ = some (Value.slice (some ⟨g4, 0, none⟩) 0 c4) := o5.cell (j := 5) rfl
           have HX5 := Lib.hid (((HXA.out.trans hx3).grown hg4 (Nat.le_trans HXA.out.size hb4)).store (p := ⟨wo.heap.size, 5, none⟩) (Nat.le_refl _) (.slice (some ⟨g4, 0, none⟩) 0 c4))
           clear hk4 hg4 hb4 hne o4 o5 hc4))
      go_roundg (rs.length - (j + 1))
      case measure => omega
      case rel => exact ⟨j + 1, _, rfl, by go_num, hlt, rfl, Lib.hid (by rw [HCL.out]; exact HO.out.keep HX5.out), Lib.hid (HX.out.trans HX5.out)⟩
end Go.Proofs.Ytdklpenpmeplfaa
