/- What the program's functions of layer 35 compute: a number in the sum of a place. What the program's functions of layer 35 compute: own, New, Close, Total. -/
import Derived.Test.YtpejdompanhieaaWnF
import Derived.Test.YtpejdompanhieaaDagK
import Derived.Test.YtpejdompanhieaaDagY
import Derived.Test.YtpejdompanhieaaStrB
namespace Go.Proofs.Ytpejdompanhieaa
open Go.RowKit

abbrev wtC (s : Wt) (v : Value) : List Value := [.int .i64 s.size, .int .i64 s.late, .int .i64 s.mark, .int .i64 s.drops, v]
theorem posS_same {t : List Sm} {p q : Sm} (h1 : p.start = q.start) (h2 : p.key = q.key) : posS t p = posS t q := by
  unfold posS
  have : (fun x => aheadS x p) = fun x => aheadS x q := by funext x; unfold aheadS; rw [(ordS_same h1 h2).2]
  rw [this]
/-- A literal row of one sum. -/
def LitW (W0 W : World) (x : Sm) (v : Value) : Prop := ∃ b, v = .slice (some ⟨b, 0, none⟩) 1 1 ∧ W.heap[b]? = some (.cells (smCells x).toArray 64 (0, 0)) ∧ W0.heap.size ≤ b
theorem LitW.ext {W0 W W' : World} {x : Sm} {v : Value} (h : LitW W0 W x v) (hx : Ext W W') : LitW W0 W' x v := by
  obtain ⟨b, rfl, h1, h2⟩ := h
  exact ⟨b, rfl, (hx.block b (Array.getElem?_eq_some_iff.1 h1).1).trans h1, h2⟩
theorem LitW.grown {W0 W W' : World} {x : Sm} {v : Value} {g : Option Nat} (h : LitW W0 W x v) (hx : W.grownBy W' g) (hg : ∀ k, g = some k → k < W0.heap.size) : LitW W0 W' x v := by
  obtain ⟨b, rfl, h1, h2⟩ := h
  refine ⟨b, rfl, (hx.block b (Array.getElem?_eq_some_iff.1 h1).1 fun e => ?_).trans h1, h2⟩
  have := hg b e.symm
  omega
/-- A row behind an insertion. -/
def InsW (W0 W : World) (B : Nat) (hv v : Value) (l : List Sm) : Prop := SmO 64 W B v l ∧ ∃ W1, Ext W0 W1 ∧ W1.grownBy W hv.ownBlock ∧ (v.ownBlock = hv.ownBlock ∨ ∃ k, v.ownBlock = some k ∧ W0.heap.size ≤ k)
theorem InsW.ext {W0 W W' : World} {B : Nat} {hv v : Value} {l : List Sm} (h : InsW W0 W B hv v l) (hx : Ext W W') : InsW W0 W' B hv v l := by
  obtain ⟨h1, W1, h2, h3, h4⟩ := h
  exact ⟨ORow.keep h1 hx, W1, h2, h3.trans (hx.grownBy _), h4⟩
theorem SmO.kept {e : TypeId} {w w' : World} {B : Nat} {g : Option Nat} {v : Value} {l : List Sm} (h : SmO e w B v l) (hg : w.grownBy w' g) (hn : v.ownBlock = none ∨ v.ownBlock ≠ g) : SmO e w' B v l := by
  obtain ⟨css, h1, h2, h3⟩ := h
  exact ⟨css, h1, h2.kept hg hn, h3.1, fun j cs x hc hx _ _ => (h3.2 j cs x hc hx).now⟩
theorem ins_lit {W0 W : World} {B P : Nat} {hv v : Value} {t : List Sm} {x : Sm} (hown : SmO 64 W0 B hv t) (hB : B ≤ W0.heap.size) (hX : Ext W0 W) (hL : LitW W0 W x v) (hP : P ≤ t.length) (hl : t.length ≤ 256) :
    Calls Try.prog 60 #[hv, .int .i64 (P : Int), v] W fun e w' => ∃ v', e = .returned v' ∧ InsW W0 w' B hv v' (t.take P ++ x :: t.drop P) ∧ W.grownBy w' hv.ownBlock := by
  obtain ⟨b, rfl, h1, h2⟩ := hL
  have hne : hv.ownBlock ≠ some b := fun e => by
    have := (ORow.own hown b e).2
    omega
  refine (insW_any (ORow.keep hown hX) h1 hne rfl (sm_one x) (fun _ _ => rfl) hP (by omega) (Nat.le_trans hB hX.size)).mono ?_
  rintro e w' ⟨v', rfl, ho, hg, hw⟩
  refine ⟨v', rfl, ⟨ho, W, hX, hg, ?_⟩, hg⟩
  rcases hw with hw | ⟨k, hk, hk2⟩
  · exact .inl hw
  · exact .inr ⟨k, hk, Nat.le_trans hX.size hk2⟩
theorem cell_inv {w : World} {g j : Nat} {cs : List Value} {e : TypeId} {u : Value} (h : w.heap[g]? = some (.cells cs.toArray e (0, 0))) (hc : w.cell? ⟨g, j, none⟩ = some u) : cs[j]? = some u := by
  unfold World.cell? at hc
  simp only [h] at hc
  simpa using hc
theorem list_at {C : List Value} {k : Nat} {a : Value} (h : C[k]? = some a) : C.drop k = a :: C.drop (k + 1) := by
  obtain ⟨hk, e⟩ := List.getElem?_eq_some_iff.1 h
  rw [List.drop_eq_getElem_cons hk, e]
theorem put_set4 {C : List Value} {k : Nat} {a0 a1 a2 a3 a4 a5 u2 u3 u4 u5 : Value} (h0 : C[k]? = some a0) (h1 : C[k + 1]? = some a1) (h2 : C[k + 2]? = some a2) (h3 : C[k + 3]? = some a3) (h4 : C[k + 4]? = some a4) (h5 : C[k + 5]? = some a5) :
    (((C.set (k + 2) u2).set (k + 3) u3).set (k + 4) u4).set (k + 5) u5 = putIn C k [a0, a1, u2, u3, u4, u5] := by
  have hk := (List.getElem?_eq_some_iff.1 h0).1
  have e : C = C.take k ++ (a0 :: a1 :: a2 :: a3 :: a4 :: a5 :: C.drop (k + 6)) := by
    rw [← list_at h5, ← list_at h4, ← list_at h3, ← list_at h2, ← list_at h1, ← list_at h0, List.take_append_drop]
  have hl : (C.take k).length = k := by rw [List.length_take]; omega
  unfold putIn
  simp only [List.length_cons, List.length_nil]
  generalize C.drop (k + 6) = D at *
  generalize C.take k = A at *
  subst e
  subst hl
  simp
/-- What add has done. -/
def AddW (w w' : World) (g B : Nat) (s : Wt) (v : Value) (r : List Sm × Int) : Prop :=
  (r.2 ≠ 0 → Ext w w') ∧ (r.2 = 0 → ∃ v', ObjAt w' g 31 (wtC s v') ∧ SmO 64 w' B v' r.1 ∧ v'.ownBlock ≠ some g ∧ ∃ w1, w.grownBy w1 v.ownBlock ∧ w1.grownBy w' (some g))
set_option maxRecDepth 20000 in
set_option maxHeartbeats 2000000 in
theorem add_any (g B : Nat) (s : Wt) (v : Value) (st : Int) (key : List UInt8) (n : Int) (w : World) (ho : ObjAt w g 31 (wtC s v)) (hv : SmO 64 w B v s.opn) (hB : B ≤ w.heap.size) (hne : v.ownBlock ≠ some g)
    (hr : Rises s.opn) (hl : s.opn.length ≤ 256) (hb : ∀ x ∈ s.opn, 0 ≤ x.count ∧ x.count ≤ 1048576 ∧ -1125899906842624 ≤ x.total ∧ x.total ≤ 1125899906842624) (hn : numW n = true) :
    Calls Try.prog 32 #[.pointer (some ⟨g, 0, none⟩), plv st key, .int .i64 n] w fun e w' => e = .returned (.int .i64 (addS s.opn (atS st key) n).2) ∧ AddW w w' g B s v (addS s.opn (atS st key) n) := by
  have hx0 := Ext.alloc w (.cells #[.int .i64 st, .string ⟨key.toArray⟩] 74)
  have hp : ObjAt (w.alloc (.cells #[.int .i64 st, .string ⟨key.toArray⟩] 74)) w.heap.size 74 [.int .i64 st, .string ⟨key.toArray⟩] := heap_alloc_new w _
  have hS1 := bsearch_any v s.opn (atS st key)
  have hS := fun W h => hS1 W h hr (by omega)
  have hglt := ho.lt
  have hpos : posS s.opn (atS st key) ≤ s.opn.length := posS_le _ _
  rw [addS_def] at *
  have hat : atP s.opn (atS st key) = decide (posS s.opn (atS st key) < s.opn.length ∧ ordS (s.opn.getD (posS s.opn (atS st key)) sm0) (atS st key) = 0) := rfl
  generalize hP : posS s.opn (atS st key) = P at *
  obtain ⟨q, c, rfl, hnc, hcm⟩ := hv.view.slice
  have h1 := ho.ext hx0
  have c4 := h1.cell (j := 4) rfl
  have p0 := hp.cell (j := 0) rfl
  have p1 := hp.cell (j := 1) rfl
  have hvw := SmO.view hv
  have S2 := fun W hW => hS W (hvw.ext (hx0.trans hW))
  generalize hwa : w.alloc (.cells #[.int .i64 st, .string ⟨key.toArray⟩] 74) = wa at *
  have HX0 := Lib.hid hx0
  have HWA : Hid (wa.heap.size = w.heap.size + 1) := Lib.hid (by rw [← hwa]; simp)
  have HV := Lib.hid hv
  have HN := Lib.hid (And.intro hnc hcm)
  have HGL := Lib.hid hglt
  have HBB := Lib.hid hB
  have HNE := Lib.hid hne
  have HO := Lib.hid ho
  have HVW := Lib.hid hvw
  have HH1 := Lib.hid h1
  clear hS hS1 hx0 hv hnc hcm hglt hB hne ho hvw h1 hp hr
  by_cases hin : P < s.opn.length ∧ ordS (s.opn.getD P sm0) (atS st key) = 0
  case neg =>
    rw [if_neg hin]
    rw [hat, decide_eq_false hin] at S2
    clear hat
    by_cases hful : 256 ≤ s.opn.length
    case pos =>
      rw [if_pos hful]
      have hge : (256 : Int) ≤ (s.opn.length : Int) := by omega
      clear hin hb
      go_enter Try.func32, Try.ntmps32
      go_wp2_with fail
      apply wp_region_dag (X := Ext) (by kernel_rfl) (by kernel_rfl) (fun _ _ _ => Ext.trans) (Ext.drew1 _)
      apply dag_val Ext.refl rfl (by intro W hW H; go_simp <;> rfl)
      simp only [Act.put, List.setIfInBounds_toArray, List.set_cons_zero, List.set_cons_succ]
      apply dag_val Ext.refl rfl (by intro W hW H; go_simp <;> rfl)
      simp only [Act.put, List.setIfInBounds_toArray, List.set_cons_zero, List.set_cons_succ]
      apply dag_val Ext.refl rfl (by intro W hW H; go_simp <;> rfl)
      simp only [Act.put, List.setIfInBounds_toArray, List.set_cons_zero, List.set_cons_succ]
      apply dag_val Ext.refl rfl (by intro W hW H; have q := hW.cell c4; go_simp <;> rfl)
      simp only [Act.put, List.setIfInBounds_toArray, List.set_cons_zero, List.set_cons_succ]
      apply dag_val Ext.refl rfl (by intro W hW H; go_simp <;> rfl)
      simp only [Act.put, List.setIfInBounds_toArray, List.set_cons_zero, List.set_cons_succ]
      apply dag_val Ext.refl rfl (by intro W hW H; have q := hW.cell p0; go_simp <;> rfl)
      simp only [Act.put, List.setIfInBounds_toArray, List.set_cons_zero, List.set_cons_succ]
      apply dag_val Ext.refl rfl (by intro W hW H; go_simp <;> rfl)
      simp only [Act.put, List.setIfInBounds_toArray, List.set_cons_zero, List.set_cons_succ]
      apply dag_val Ext.refl rfl (by intro W hW H; have q := hW.cell p1; go_simp <;> rfl)
      simp only [Act.put, List.setIfInBounds_toArray, List.set_cons_zero, List.set_cons_succ]
      apply dag_val Ext.refl rfl (by intro W hW H; go_simp <;> rfl)
      simp only [Act.put, List.setIfInBounds_toArray, List.set_cons_zero, List.set_cons_succ]
      refine' dag_call (c := .tuple #[.int .i64 (P : Int), .bool false]) (f := 59) (args := #[.slice q s.opn.length c, .agg #[.int .i64 st, .string ⟨key.toArray⟩, .int .i64 0, .int .i64 0, .int .i64 0, .int .i64 0], .func (.func 44) #[] #[]]) rfl (by intro W; go_simp <;> rfl) (fun W hW H => S2 W hW) _
      rotate_left
      simp only [Act.put, List.setIfInBounds_toArray, List.set_cons_zero, List.set_cons_succ]
      apply dag_val Ext.refl rfl (by intro W hW H; go_simp <;> rfl)
      simp only [Act.put, List.setIfInBounds_toArray, List.set_cons_zero, List.set_cons_succ]
      apply dag_val Ext.refl rfl (by intro W hW H; go_simp <;> rfl)
      simp only [Act.put, List.setIfInBounds_toArray, List.set_cons_zero, List.set_cons_succ]
      apply dag_val Ext.refl rfl (by intro W hW H; go_simp <;> rfl)
      simp only [Act.put, List.setIfInBounds_toArray, List.set_cons_zero, List.set_cons_succ]
      apply dag_val Ext.refl rfl (by intro W hW H; go_simp <;> rfl)
      simp only [Act.put, List.setIfInBounds_toArray, List.set_cons_zero, List.set_cons_succ]
      apply dag_val Ext.refl rfl (by intro W hW H; go_simp <;> rfl)
      simp only [Act.put, List.setIfInBounds_toArray, List.set_cons_zero, List.set_cons_succ]
      refine dag_end fun W hW H => ?_
      clear H
      have d4 := hW.cell c4
      go_wp2_with fail
      go_ret
      exact ⟨rfl, fun _ => HX0.out.trans hW, fun h => absurd h (by show ¬ (9 : Int) = 0; decide)⟩
    case neg =>
      rw [if_neg hful]
      have hge : ¬ (256 : Int) ≤ (s.opn.length : Int) := by omega
      clear hin hb
      go_enter Try.func32, Try.ntmps32
      go_wp2_with fail
      apply wp_region_dag (X := Ext) (by kernel_rfl) (by kernel_rfl) (fun _ _ _ => Ext.trans) (Ext.drew1 _)
      apply dag_val Ext.refl rfl (by intro W hW H; go_simp <;> rfl)
      simp only [Act.put, List.setIfInBounds_toArray, List.set_cons_zero, List.set_cons_succ]
      apply dag_val Ext.refl rfl (by intro W hW H; go_simp <;> rfl)
      simp only [Act.put, List.setIfInBounds_toArray, List.set_cons_zero, List.set_cons_succ]
      apply dag_val Ext.refl rfl (by intro W hW H; go_simp <;> rfl)
      simp only [Act.put, List.setIfInBounds_toArray, List.set_cons_zero, List.set_cons_succ]
      apply dag_val Ext.refl rfl (by intro W hW H; have q := hW.cell c4; go_simp <;> rfl)
      simp only [Act.put, List.setIfInBounds_toArray, List.set_cons_zero, List.set_cons_succ]
      apply dag_val Ext.refl rfl (by intro W hW H; go_simp <;> rfl)
      simp only [Act.put, List.setIfInBounds_toArray, List.set_cons_zero, List.set_cons_succ]
      apply dag_val Ext.refl rfl (by intro W hW H; have q := hW.cell p0; go_simp <;> rfl)
      simp only [Act.put, List.setIfInBounds_toArray, List.set_cons_zero, List.set_cons_succ]
      apply dag_val Ext.refl rfl (by intro W hW H; go_simp <;> rfl)
      simp only [Act.put, List.setIfInBounds_toArray, List.set_cons_zero, List.set_cons_succ]
      apply dag_val Ext.refl rfl (by intro W hW H; have q := hW.cell p1; go_simp <;> rfl)
      simp only [Act.put, List.setIfInBounds_toArray, List.set_cons_zero, List.set_cons_succ]
      apply dag_val Ext.refl rfl (by intro W hW H; go_simp <;> rfl)
      simp only [Act.put, List.setIfInBounds_toArray, List.set_cons_zero, List.set_cons_succ]
      refine' dag_call (c := .tuple #[.int .i64 (P : Int), .bool false]) (f := 59) (args := #[.slice q s.opn.length c, .agg #[.int .i64 st, .string ⟨key.toArray⟩, .int .i64 0, .int .i64 0, .int .i64 0, .int .i64 0], .func (.func 44) #[] #[]]) rfl (by intro W; go_simp <;> rfl) (fun W hW H => S2 W hW) _
      rotate_left
      simp only [Act.put, List.setIfInBounds_toArray, List.set_cons_zero, List.set_cons_succ]
      apply dag_val Ext.refl rfl (by intro W hW H; go_simp <;> rfl)
      simp only [Act.put, List.setIfInBounds_toArray, List.set_cons_zero, List.set_cons_succ]
      apply dag_val Ext.refl rfl (by intro W hW H; go_simp <;> rfl)
      simp only [Act.put, List.setIfInBounds_toArray, List.set_cons_zero, List.set_cons_succ]
      apply dag_val Ext.refl rfl (by intro W hW H; go_simp <;> rfl)
      simp only [Act.put, List.setIfInBounds_toArray, List.set_cons_zero, List.set_cons_succ]
      apply dag_val Ext.refl rfl (by intro W hW H; go_simp <;> rfl)
      simp only [Act.put, List.setIfInBounds_toArray, List.set_cons_zero, List.set_cons_succ]
      apply dag_val Ext.refl rfl (by intro W hW H; go_simp <;> rfl)
      simp only [Act.put, List.setIfInBounds_toArray, List.set_cons_zero, List.set_cons_succ]
      refine dag_end fun W0 hW H => ?_
      clear H
      have d4 := hW.cell c4
      have e0 := hW.cell p0
      have e1 := hW.cell p1
      have HXW := Lib.hid (HX0.out.trans hW)
      clear hW S2
      go_wp2_with fail
      have HLT : Hid (∀ k, (Value.slice q s.opn.length c).ownBlock = some k → k < W0.heap.size) := Lib.hid fun k e => Nat.lt_of_lt_of_le (ORow.own HV.out k e).2 HXW.out.size
      obtain ⟨sm, hsm⟩ : ∃ sm : Sm, sm = ⟨st, key, 1, n, n, n⟩ := ⟨_, rfl⟩
      have HSM := Lib.hid hsm
      have hsm2 : smCells ⟨st, key, 1, n, n, n⟩ = smCells sm := by rw [hsm]
      have HSM2 := Lib.hid hsm2
      clear hsm hsm2
      apply wp_region_dagK 15 16 (fun a b => a.grownBy b (Value.slice q s.opn.length c).ownBlock) (X := Ext) (by kernel_rfl) (by kernel_rfl) (by kernel_rfl) (by decide) (by decide) (fun _ _ _ => Ext.trans) (Ext.drew1 _)
      simp only [List.take_succ_cons, List.take_zero, List.drop_succ_cons, List.drop_zero]
      apply dagk_val Ext.refl rfl (by intro W hW H; go_simp <;> rfl)
      simp only [Act.put, List.setIfInBounds_toArray, List.set_cons_zero, List.set_cons_succ]
      apply dagk_val Ext.refl rfl (by intro W hW H; go_simp <;> rfl)
      simp only [Act.put, List.setIfInBounds_toArray, List.set_cons_zero, List.set_cons_succ]
      apply dagk_val Ext.refl rfl (by intro W hW H; go_simp <;> rfl)
      simp only [Act.put, List.setIfInBounds_toArray, List.set_cons_zero, List.set_cons_succ]
      apply dagk_val Ext.refl rfl (by intro W hW H; go_simp <;> rfl)
      simp only [Act.put, List.setIfInBounds_toArray, List.set_cons_zero, List.set_cons_succ]
      apply dagk_val Ext.refl rfl (by intro W hW H; have hW := hW (by kernel_rfl); have q := hW.cell d4; go_simp <;> rfl)
      simp only [Act.put, List.setIfInBounds_toArray, List.set_cons_zero, List.set_cons_succ]
      apply dagk_val Ext.refl rfl (by intro W hW H; go_simp <;> rfl)
      simp only [Act.put, List.setIfInBounds_toArray, List.set_cons_zero, List.set_cons_succ]
      apply dagk_val Ext.refl rfl (by intro W hW H; go_simp <;> rfl)
      simp only [Act.put, List.setIfInBounds_toArray, List.set_cons_zero, List.set_cons_succ]
      apply dagk_val Ext.refl rfl (by intro W hW H; have hW := hW (by kernel_rfl); have q := hW.cell e0; go_simp <;> rfl)
      simp only [Act.put, List.setIfInBounds_toArray, List.set_cons_zero, List.set_cons_succ]
      apply dagk_val Ext.refl rfl (by intro W hW H; go_simp <;> rfl)
      simp only [Act.put, List.setIfInBounds_toArray, List.set_cons_zero, List.set_cons_succ]
      apply dagk_val Ext.refl rfl (by intro W hW H; have hW := hW (by kernel_rfl); have q := hW.cell e1; go_simp <;> rfl)
      simp only [Act.put, List.setIfInBounds_toArray, List.set_cons_zero, List.set_cons_succ]
      apply dagk_val Ext.refl rfl (by intro W hW H; go_simp <;> rfl)
      simp only [Act.put, List.setIfInBounds_toArray, List.set_cons_zero, List.set_cons_succ]
      apply dagk_val Ext.refl rfl (by intro W hW H; go_simp <;> rfl)
      simp only [Act.put, List.setIfInBounds_toArray, List.set_cons_zero, List.set_cons_succ]
      apply dagk_val Ext.refl rfl (by intro W hW H; go_simp <;> rfl)
      simp only [Act.put, List.setIfInBounds_toArray, List.set_cons_zero, List.set_cons_succ]
      apply dagk_val Ext.refl rfl (by intro W hW H; go_simp <;> rfl)
      simp only [Act.put, List.setIfInBounds_toArray, List.set_cons_zero, List.set_cons_succ]
      refine' dagk_run (fun v W => LitW W0 W ⟨st, key, 1, n, n, n⟩ v) (fun v W1 W2 hs h => hs.elim (fun hx => h.ext hx) fun hz => h.grown hz.2 HLT.out) rfl (fun W hW H => ⟨.slice (some ⟨W.heap.size, 0, none⟩) 1 1, W.alloc (.cells (smCells ⟨st, key, 1, n, n, n⟩).toArray 64), (by unfold smCells; go_simp <;> rfl), stepk_x (Ext.alloc _ _) (by decide), ⟨_, rfl, heap_alloc_new _ _, (hW (by kernel_rfl)).size⟩⟩) (fun v5 => _)
      rotate_left
      simp only [Act.put, List.setIfInBounds_toArray, List.set_cons_zero, List.set_cons_succ]
      refine' dagk_calls (fun v W => InsW W0 W B (.slice q s.opn.length c) v (s.opn.take P ++ ⟨st, key, 1, n, n, n⟩ :: s.opn.drop P)) (fun v W1 W2 hs h => hs.elim (fun hx => h.ext hx) fun hz => absurd rfl hz.1) rfl (by intro W; go_simp <;> rfl) (fun W hW H => (ins_lit (ORow.keep HV.out HXW.out) (Nat.le_trans HBB.out HXW.out.size) (hW (by kernel_rfl)) (show LitW W0 W ⟨st, key, 1, n, n, n⟩ v5 from H 14 (by kernel_rfl)) hpos hl).mono (by rintro e w' ⟨v6, rfl, h1, h2⟩; exact ⟨v6, rfl, h1, stepk_z h2⟩)) (fun v6 => _)
      rotate_left
      simp only [Act.put, List.setIfInBounds_toArray, List.set_cons_zero, List.set_cons_succ]
      refine dagk_end fun W3 H => ?_
      have h6 : InsW W0 W3 B (.slice q s.opn.length c) v6 (s.opn.take P ++ ⟨st, key, 1, n, n, n⟩ :: s.opn.drop P) := H 15
      obtain ⟨ho6, W4, hx4, hg4, hw4⟩ := h6
      clear H
      have ob := (((HO.out.ext HXW.out).ext hx4)).kept hg4 (fun e => HNE.out e.symm)
      have k4 := ob.cell (j := 4) rfl
      have f4 := ob.free 4
      have hv6 : v6.ownBlock ≠ some g := fun e => by
        rcases hw4 with h | ⟨k, h, hk⟩
        · exact HNE.out (h ▸ e)
        · rw [h] at e
          have e2 := Option.some.inj e
          have h8 := HGL.out
          have h9 := HXW.out.size
          omega
      have hgr : w.grownBy W3 (Value.slice q s.opn.length c).ownBlock := ((HXW.out.trans hx4).grownBy _).trans hg4
      obtain ⟨p6, d6, e6, _, _⟩ := ho6.view.slice
      have HO6 := Lib.hid ho6
      generalize hL6 : s.opn.take P ++ ⟨st, key, 1, n, n, n⟩ :: s.opn.drop P = L6 at *
      generalize L6.length = n6 at e6
      subst e6
      have HOB := Lib.hid ob
      have HV6 := Lib.hid hv6
      have HGR := Lib.hid hgr
      clear ho6 hx4 hg4 hw4 ob hv6 hgr d4 e0 e1
      go_wp2_with fail
      go_ret
      refine ⟨rfl, fun h => absurd rfl h, fun _ => ⟨_, HOB.out.store 4 _, ?_, HV6.out, W3, HGR.out, grown_set _ _ _⟩⟩
      show SmO _ _ _ _ (s.opn.take P ++ ⟨st, key, 1, n, n, n⟩ :: s.opn.drop P)
      rw [hL6]
      exact SmO.kept HO6.out (grown_set _ _ _) (.inr HV6.out)
  case pos =>
    rw [if_pos hin]
    rw [hat, decide_eq_true hin] at S2
    clear hat
    have hil := hin.1
    obtain ⟨gb, cc, C0, ev, hgb, hcells, hfit, hset⟩ := ORow.setAt HV.out hil
    injection ev with ev1 ev2 ev3
    subst ev1; subst ev3
    clear ev2
    obtain ⟨bx, ox, ex, ⟨m0, m1, m2, m3, m4, m5⟩⟩ := sm_at HVW.out hil
    injection ex with ex
    injection ex with ex1 ex2 ex3
    subst ex1; subst ex2
    clear ex3
    simp only [Nat.zero_add] at m0 m1 m2 m3 m4 m5
    have hget : s.opn.getD P sm0 = s.opn[P] := getD_sm hil
    obtain ⟨hb1, hb2, hb3, hb4⟩ := hb _ (List.getElem_mem hil)
    rw [hget]
    generalize hxx : s.opn[P] = x at *
    obtain ⟨x0, x1, x2, x3, x4, x5⟩ := x
    simp only at m0 m1 m2 m3 m4 m5 hb1 hb2 hb3 hb4
    have hPi : (P : Int) < (s.opn.length : Int) := by omega
    have HSET := Lib.hid hset
    have HCELLS := Lib.hid hcells
    have HFIT := Lib.hid hfit
    clear hset hcells hfit hget hb hin
    by_cases hfull : 1048576 ≤ x2
    case pos =>
      rw [if_pos hfull]
      clear hxx
      go_enter Try.func32, Try.ntmps32
      go_wp2_with fail
      apply wp_region_dag (X := Ext) (by kernel_rfl) (by kernel_rfl) (fun _ _ _ => Ext.trans) (Ext.drew1 _)
      apply dag_val Ext.refl rfl (by intro W hW H; go_simp <;> rfl)
      simp only [Act.put, List.setIfInBounds_toArray, List.set_cons_zero, List.set_cons_succ]
      apply dag_val Ext.refl rfl (by intro W hW H; go_simp <;> rfl)
      simp only [Act.put, List.setIfInBounds_toArray, List.set_cons_zero, List.set_cons_succ]
      apply dag_val Ext.refl rfl (by intro W hW H; go_simp <;> rfl)
      simp only [Act.put, List.setIfInBounds_toArray, List.set_cons_zero, List.set_cons_succ]
      apply dag_val Ext.refl rfl (by intro W hW H; have q := hW.cell c4; go_simp <;> rfl)
      simp only [Act.put, List.setIfInBounds_toArray, List.set_cons_zero, List.set_cons_succ]
      apply dag_val Ext.refl rfl (by intro W hW H; go_simp <;> rfl)
      simp only [Act.put, List.setIfInBounds_toArray, List.set_cons_zero, List.set_cons_succ]
      apply dag_val Ext.refl rfl (by intro W hW H; have q := hW.cell p0; go_simp <;> rfl)
      simp only [Act.put, List.setIfInBounds_toArray, List.set_cons_zero, List.set_cons_succ]
      apply dag_val Ext.refl rfl (by intro W hW H; go_simp <;> rfl)
      simp only [Act.put, List.setIfInBounds_toArray, List.set_cons_zero, List.set_cons_succ]
      apply dag_val Ext.refl rfl (by intro W hW H; have q := hW.cell p1; go_simp <;> rfl)
      simp only [Act.put, List.setIfInBounds_toArray, List.set_cons_zero, List.set_cons_succ]
      apply dag_val Ext.refl rfl (by intro W hW H; go_simp <;> rfl)
      simp only [Act.put, List.setIfInBounds_toArray, List.set_cons_zero, List.set_cons_succ]
      refine' dag_call (c := .tuple #[.int .i64 (P : Int), .bool true]) (f := 59) (args := #[.slice (some ⟨gb, 0, none⟩) s.opn.length c, .agg #[.int .i64 st, .string ⟨key.toArray⟩, .int .i64 0, .int .i64 0, .int .i64 0, .int .i64 0], .func (.func 44) #[] #[]]) rfl (by intro W; go_simp <;> rfl) (fun W hW H => S2 W hW) _
      rotate_left
      simp only [Act.put, List.setIfInBounds_toArray, List.set_cons_zero, List.set_cons_succ]
      apply dag_val Ext.refl rfl (by intro W hW H; go_simp <;> rfl)
      simp only [Act.put, List.setIfInBounds_toArray, List.set_cons_zero, List.set_cons_succ]
      apply dag_val Ext.refl rfl (by intro W hW H; go_simp <;> rfl)
      simp only [Act.put, List.setIfInBounds_toArray, List.set_cons_zero, List.set_cons_succ]
      apply dag_val Ext.refl rfl (by intro W hW H; go_simp <;> rfl)
      simp only [Act.put, List.setIfInBounds_toArray, List.set_cons_zero, List.set_cons_succ]
      apply dag_val Ext.refl rfl (by intro W hW H; go_simp <;> rfl)
      simp only [Act.put, List.setIfInBounds_toArray, List.set_cons_zero, List.set_cons_succ]
      apply dag_val Ext.refl rfl (by intro W hW H; go_simp <;> rfl)
      simp only [Act.put, List.setIfInBounds_toArray, List.set_cons_zero, List.set_cons_succ]
      refine dag_end fun W hW H => ?_
      clear H
      have d4 := hW.cell c4
      have n2 := hW.cell (HX0.out.cell m2)
      go_wp2_with fail
      go_ret
      exact ⟨rfl, fun _ => HX0.out.trans hW, fun h => absurd h (by show ¬ (9 : Int) = 0; decide)⟩
    case neg =>
      rw [if_neg hfull]
      have hfu : ¬ (1048576 : Int) ≤ x2 := hfull
      go_enter Try.func32, Try.ntmps32
      go_wp2_with fail
      apply wp_region_dag (X := Ext) (by kernel_rfl) (by kernel_rfl) (fun _ _ _ => Ext.trans) (Ext.drew1 _)
      apply dag_val Ext.refl rfl (by intro W hW H; go_simp <;> rfl)
      simp only [Act.put, List.setIfInBounds_toArray, List.set_cons_zero, List.set_cons_succ]
      apply dag_val Ext.refl rfl (by intro W hW H; go_simp <;> rfl)
      simp only [Act.put, List.setIfInBounds_toArray, List.set_cons_zero, List.set_cons_succ]
      apply dag_val Ext.refl rfl (by intro W hW H; go_simp <;> rfl)
      simp only [Act.put, List.setIfInBounds_toArray, List.set_cons_zero, List.set_cons_succ]
      apply dag_val Ext.refl rfl (by intro W hW H; have q := hW.cell c4; go_simp <;> rfl)
      simp only [Act.put, List.setIfInBounds_toArray, List.set_cons_zero, List.set_cons_succ]
      apply dag_val Ext.refl rfl (by intro W hW H; go_simp <;> rfl)
      simp only [Act.put, List.setIfInBounds_toArray, List.set_cons_zero, List.set_cons_succ]
      apply dag_val Ext.refl rfl (by intro W hW H; have q := hW.cell p0; go_simp <;> rfl)
      simp only [Act.put, List.setIfInBounds_toArray, List.set_cons_zero, List.set_cons_succ]
      apply dag_val Ext.refl rfl (by intro W hW H; go_simp <;> rfl)
      simp only [Act.put, List.setIfInBounds_toArray, List.set_cons_zero, List.set_cons_succ]
      apply dag_val Ext.refl rfl (by intro W hW H; have q := hW.cell p1; go_simp <;> rfl)
      simp only [Act.put, List.setIfInBounds_toArray, List.set_cons_zero, List.set_cons_succ]
      apply dag_val Ext.refl rfl (by intro W hW H; go_simp <;> rfl)
      simp only [Act.put, List.setIfInBounds_toArray, List.set_cons_zero, List.set_cons_succ]
      refine' dag_call (c := .tuple #[.int .i64 (P : Int), .bool true]) (f := 59) (args := #[.slice (some ⟨gb, 0, none⟩) s.opn.length c, .agg #[.int .i64 st, .string ⟨key.toArray⟩, .int .i64 0, .int .i64 0, .int .i64 0, .int .i64 0], .func (.func 44) #[] #[]]) rfl (by intro W; go_simp <;> rfl) (fun W hW H => S2 W hW) _
      rotate_left
      simp only [Act.put, List.setIfInBounds_toArray, List.set_cons_zero, List.set_cons_succ]
      apply dag_val Ext.refl rfl (by intro W hW H; go_simp <;> rfl)
      simp only [Act.put, List.setIfInBounds_toArray, List.set_cons_zero, List.set_cons_succ]
      apply dag_val Ext.refl rfl (by intro W hW H; go_simp <;> rfl)
      simp only [Act.put, List.setIfInBounds_toArray, List.set_cons_zero, List.set_cons_succ]
      apply dag_val Ext.refl rfl (by intro W hW H; go_simp <;> rfl)
      simp only [Act.put, List.setIfInBounds_toArray, List.set_cons_zero, List.set_cons_succ]
      apply dag_val Ext.refl rfl (by intro W hW H; go_simp <;> rfl)
      simp only [Act.put, List.setIfInBounds_toArray, List.set_cons_zero, List.set_cons_succ]
      apply dag_val Ext.refl rfl (by intro W hW H; go_simp <;> rfl)
      simp only [Act.put, List.setIfInBounds_toArray, List.set_cons_zero, List.set_cons_succ]
      refine dag_end fun W hW H => ?_
      clear H
      have d4 := hW.cell c4
      have n2 := hW.cell (HX0.out.cell m2)
      have HXW := Lib.hid (HX0.out.trans hW)
      have ob0 : ObjAt W gb 64 C0 := ObjAt.ext (t := 64) (cs := C0) HCELLS.out HXW.out
      have ob1 := ob0.store (P * 6 + 2) (.int .i64 (x2 + 1))
      have ob2 := ob1.store (P * 6 + 3) (.int .i64 (x3 + n))
      have z0 := cell_inv HCELLS.out m0
      have z1 := cell_inv HCELLS.out m1
      have z2 := cell_inv HCELLS.out m2
      have z3 := cell_inv HCELLS.out m3
      have z4 := cell_inv HCELLS.out m4
      have z5 := cell_inv HCELLS.out m5
      have n3 := ob1.cell (j := P * 6 + 3) ((List.getElem?_set_ne (by omega)).trans z3)
      have n4 := ob2.cell (j := P * 6 + 4) ((List.getElem?_set_ne (by omega)).trans ((List.getElem?_set_ne (by omega)).trans z4))
      have n5 := ob2.cell (j := P * 6 + 5) ((List.getElem?_set_ne (by omega)).trans ((List.getElem?_set_ne (by omega)).trans z5))
      have f2 := ob0.free (P * 6 + 2)
      have f3 := ob1.free (P * 6 + 3)
      have q1 : wrap64 (x2 + 1) = x2 + 1 := by unfold wrap64; omega
      have hn2 := hn
      unfold numW inW at hn2
      simp only [Bool.and_eq_true, decide_eq_true_eq] at hn2
      have q2 : wrap64 (x3 + n) = x3 + n := by unfold wrap64; omega
      have HP4 : Hid (putIn C0 (P * 6) (smCells (withS ⟨x0, x1, x2, x3, x4, x5⟩ n)) = (((C0.set (P * 6 + 2) (.int .i64 (x2 + 1))).set (P * 6 + 3) (.int .i64 (x3 + n))).set (P * 6 + 4) (.int .i64 (min x4 n))).set (P * 6 + 5) (.int .i64 (max x5 n))) := Lib.hid (put_set4 z0 z1 z2 z3 z4 z5).symm
      have HOB2 := Lib.hid ob2
      have HZ := Lib.hid (And.intro z4 z5)
      have HG12 : Hid (W.grownBy ((W.setCell ⟨gb, P * 6 + 2, none⟩ (.int .i64 (x2 + 1))).setCell ⟨gb, P * 6 + 3, none⟩ (.int .i64 (x3 + n))) (some gb)) := Lib.hid ((grown_set W ⟨gb, P * 6 + 2, none⟩ _).trans (grown_set _ ⟨gb, P * 6 + 3, none⟩ _))
      clear ob0 ob1 ob2 z0 z1 z2 z3 z4 z5 hn2 hn hb1 hb2 hb3 hb4 hxx
      go_wp2_with fail
      generalize (W.setCell ⟨gb, P * 6 + 2, none⟩ (.int .i64 (x2 + 1))).setCell ⟨gb, P * 6 + 3, none⟩ (.int .i64 (x3 + n)) = wS at *
      clear n2 n3 f2 f3
      have fS := HOB2.out.free (P * 6 + 4)
      apply wp_region_dagY 16 19 (fun x y => x.grownBy y (some gb)) (fun x y => x.grownBy y (some gb)) (X := Ext) (by kernel_rfl) (by kernel_rfl) (by kernel_rfl) (by decide) (by decide) (fun _ _ _ => Ext.trans) (fun _ _ _ h k => h.trans k) (fun _ _ h => h.grownBy _) (fun _ _ h => h) (Ext.drew1 _)
      simp only [List.take_succ_cons, List.take_zero, List.drop_succ_cons, List.drop_zero]
      apply dagy_val Ext.refl rfl (by intro W hW H; go_simp <;> rfl)
      simp only [Act.put, List.setIfInBounds_toArray, List.set_cons_zero, List.set_cons_succ]
      apply dagy_val Ext.refl rfl (by intro W hW H; go_simp <;> rfl)
      simp only [Act.put, List.setIfInBounds_toArray, List.set_cons_zero, List.set_cons_succ]
      apply dagy_val Ext.refl rfl (by intro W hW H; go_simp <;> rfl)
      simp only [Act.put, List.setIfInBounds_toArray, List.set_cons_zero, List.set_cons_succ]
      apply dagy_val Ext.refl rfl (by intro W hW H; go_simp <;> rfl)
      simp only [Act.put, List.setIfInBounds_toArray, List.set_cons_zero, List.set_cons_succ]
      apply dagy_val Ext.refl rfl (by intro W hW H; go_simp <;> rfl)
      simp only [Act.put, List.setIfInBounds_toArray, List.set_cons_zero, List.set_cons_succ]
      apply dagy_val Ext.refl rfl (by intro W hW H; have hX := hW.2 (by kernel_rfl); have z0 := hX.cell n4; go_simp <;> rfl)
      simp only [Act.put, List.setIfInBounds_toArray, List.set_cons_zero, List.set_cons_succ]
      apply dagy_val Ext.refl rfl (by intro W hW H; go_simp <;> rfl)
      simp only [Act.put, List.setIfInBounds_toArray, List.set_cons_zero, List.set_cons_succ]
      refine' dagy_val Ext.refl rfl (fun W hW H => run_min rfl rfl rfl W) _
      rotate_left
      simp only [Act.put, List.setIfInBounds_toArray, List.set_cons_zero, List.set_cons_succ]
      apply dagy_val Ext.refl rfl (by intro W hW H; go_simp <;> rfl)
      simp only [Act.put, List.setIfInBounds_toArray, List.set_cons_zero, List.set_cons_succ]
      apply dagy_val Ext.refl rfl (by intro W hW H; go_simp <;> rfl)
      simp only [Act.put, List.setIfInBounds_toArray, List.set_cons_zero, List.set_cons_succ]
      apply dagy_val Ext.refl rfl (by intro W hW H; go_simp <;> rfl)
      simp only [Act.put, List.setIfInBounds_toArray, List.set_cons_zero, List.set_cons_succ]
      apply dagy_val Ext.refl rfl (by intro W hW H; have hX := hW.2 (by kernel_rfl); have z0 := hX.cell n5; go_simp <;> rfl)
      simp only [Act.put, List.setIfInBounds_toArray, List.set_cons_zero, List.set_cons_succ]
      apply dagy_val Ext.refl rfl (by intro W hW H; go_simp <;> rfl)
      simp only [Act.put, List.setIfInBounds_toArray, List.set_cons_zero, List.set_cons_succ]
      refine' dagy_val Ext.refl rfl (fun W hW H => run_max rfl rfl rfl W) _
      rotate_left
      simp only [Act.put, List.setIfInBounds_toArray, List.set_cons_zero, List.set_cons_succ]
      apply dagy_val Ext.refl rfl (by intro W hW H; go_simp <;> rfl)
      simp only [Act.put, List.setIfInBounds_toArray, List.set_cons_zero, List.set_cons_succ]
      apply dagy_val Ext.refl rfl (by intro W hW H; go_simp <;> rfl)
      simp only [Act.put, List.setIfInBounds_toArray, List.set_cons_zero, List.set_cons_succ]
      refine' dagy_store (fun W => ∃ W1, Ext wS W1 ∧ Ext (W1.setCell ⟨gb, P * 6 + 4, none⟩ (.int .i64 (min x4 n))) W) (fun W W' hs hh => hs.elim (fun hx => hh.elim fun W1 hq => ⟨W1, hq.1, hq.2.trans hx⟩) fun hz => absurd rfl hz.1) rfl (fun W hW H => by have hX := hW.2 (by kernel_rfl); have z0 := hX.cell n4; have z1 : W.frozen? ⟨gb, P * 6 + 4, none⟩ = false := (World.frozen?_of_block (hX.block gb (World.block_lt_of_cell? wS _ n4))).trans fS; exact ⟨_, (by go_simp <;> rfl), (by unfold StepY; rw [if_pos rfl]; exact grown_set _ ⟨gb, P * 6 + 4, none⟩ _), W, hX, Ext.refl _⟩) (fun u => _)
      rotate_left
      simp only [Act.put]
      apply dagy_val Ext.refl rfl (by intro W hW H; go_simp <;> rfl)
      simp only [Act.put, List.setIfInBounds_toArray, List.set_cons_zero, List.set_cons_succ]
      apply dagy_val Ext.refl rfl (by intro W hW H; go_simp <;> rfl)
      simp only [Act.put, List.setIfInBounds_toArray, List.set_cons_zero, List.set_cons_succ]
      refine dagy_end fun W4 H => ?_
      obtain ⟨W3, hW3, hW4⟩ : ∃ W1, Ext wS W1 ∧ Ext (W1.setCell ⟨gb, P * 6 + 4, none⟩ (.int .i64 (min x4 n))) W4 := H 16
      clear H
      have ob3 := HOB2.out.ext hW3
      have ob4 := (ob3.store (P * 6 + 4) (.int .i64 (min x4 n))).ext hW4
      have f5 := ob4.free (P * 6 + 5)
      have ob5 := ob4.store (P * 6 + 5) (.int .i64 (max x5 n))
      have o5 := ob4.cell (j := P * 6 + 5) ((List.getElem?_set_ne (by omega)).trans ((List.getElem?_set_ne (by omega)).trans ((List.getElem?_set_ne (by omega)).trans HZ.out.2)))
      have hgr : w.grownBy (W4.setCell ⟨gb, P * 6 + 5, none⟩ (.int .i64 (max x5 n))) (some gb) :=
        ((HXW.out.grownBy _).trans HG12.out).trans ((hW3.grownBy _).trans ((grown_set W3 ⟨gb, P * 6 + 4, none⟩ _).trans ((hW4.grownBy _).trans (grown_set _ ⟨gb, P * 6 + 5, none⟩ _))))
      have HGR := Lib.hid hgr
      have HOB5 := Lib.hid ob5
      clear ob3 ob4 ob5 hgr hW3 hW4 n4 n5 fS
      go_wp2_with fail
      go_ret
      refine ⟨rfl, fun h => absurd rfl h, fun _ => ⟨_, HO.out.kept HGR.out (fun e => HNE.out e.symm), ?_, HNE.out, _, HGR.out, (Ext.refl _).grownBy _⟩⟩
      refine HSET.out _ (smCells (withS ⟨x0, x1, x2, x3, x4, x5⟩ n)) (withS ⟨x0, x1, x2, x3, x4, x5⟩ n) rfl (sm_one _) ?_ HGR.out (fun _ _ => rfl)
      rw [HP4.out]
      exact HOB5.out
theorem T.smsSize : (Try.prog.info? 29).map (·.size) = some 1 := by kernel_rfl
theorem wt_one (s : Wt) {v : Value} (hv : v.oneCell' = true) : ∀ u ∈ wtC s v, u.oneCell' = true := fun u hu => by
  simp only [List.mem_cons, List.not_mem_nil, or_false] at hu
  rcases hu with rfl | rfl | rfl | rfl | rfl
  · rfl
  · rfl
  · rfl
  · rfl
  · exact hv
theorem wt_results {fn : Func} {p : Tmp} (h : fn.results = #[.cell p 31]) (tmps : Array Value) (w : World) (g : Nat) (s : Wt) (v : Value)
    (hp : tmps.getD p undef = .pointer (some ⟨g, 0, none⟩)) (hg : ObjAt w g 31 (wtC s v)) : (results fn tmps).run Try.prog w = .ok (wtv s v) w :=
  results_cell_row h tmps w g _ (wtC s v).toArray (0, 0) _ hp hg Try.underlying31 rfl T.wtSize
theorem wt_results2 {fn : Func} {p u : Tmp} (h : fn.results = #[.cell p 31, .tmp u]) (tmps : Array Value) (w : World) (g : Nat) (s : Wt) (v : Value)
    (hp : tmps.getD p undef = .pointer (some ⟨g, 0, none⟩)) (hg : ObjAt w g 31 (wtC s v)) : (results fn tmps).run Try.prog w = .ok (.tuple #[wtv s v, tmps.getD u undef]) w :=
  results_row_tmp h tmps w g _ (wtC s v).toArray _ hp hg Try.underlying31 rfl T.wtSize
theorem wt_results3 {fn : Func} {p u r : Tmp} (h : fn.results = #[.cell p 31, .tmp u, .tmp r]) (tmps : Array Value) (w : World) (g : Nat) (s : Wt) (v : Value)
    (hp : tmps.getD p undef = .pointer (some ⟨g, 0, none⟩)) (hg : ObjAt w g 31 (wtC s v)) : (results fn tmps).run Try.prog w = .ok (.tuple #[wtv s v, tmps.getD u undef, tmps.getD r undef]) w := by
  have hp' : tmps[p]?.getD undef = .pointer (some ⟨g, 0, none⟩) := by simpa using hp
  simp [results, h, hp', asAddr, run_loadVar_row w g 31 31 (wtC s v).toArray (0, 0) _ hg Try.underlying31 rfl T.wtSize, Result.andThen]
theorem sm_nil {S : Nat → Prop} (w : World) : SRow 6 RSm S w (.slice none 0 0) [] := SRow.nil _ _
set_option maxHeartbeats 1000000 in
theorem own_any (s : Wt) (v : Value) (w : World) (h : SmV w v s.opn) (hl : s.opn.length ≤ 100000) :
    Calls Try.prog 30 #[wtv s v] w fun e w' => ∃ v', e = .returned (wtv s v') ∧ SmO 64 w' w.heap.size v' s.opn ∧ Ext w w' := by
  obtain ⟨oa, ob, hx0, hsz⟩ := objs2 w 31 31 (wtC s v) (wtC wt0 (.slice none 0 0))
  have C1 := cloneW_any v s.opn _ (h.ext hx0) hl
  have a4 := oa.cell (j := 4) rfl
  have HSZ := Lib.hid hsz
  have HL := Lib.hid h
  unfold wt0 at ob
  clear hsz h
  go_enter Try.func30, Try.ntmps30
  go_wp2_with (first
    | (go_at_call 35; refine C1.mono ?_; rintro e w1 ⟨v1, rfl, ho1, hx1⟩
       obtain ⟨p1, d1, e1, _, _⟩ := ho1.view.slice
       have oa1 := oa.ext hx1
       have ob1 := ob.ext hx1
       have HO1 := Lib.hid ho1
       clear ho1
       generalize s.opn.length = n1 at e1
       subst e1)
    | ((with_reducible show wpList _ _ _ (Oper.mk _ (Op.store _ _ _) _ _ _ _ :: _) _ _); have hq := oa2; refine st_put (vs := wtC s (.slice p1 n1 d1)) ob2 T.wtSize rfl (wt_one s rfl) ?_; intro w3 ob3 hg3)
    | ((with_reducible show wpList _ _ _ (Oper.mk _ (Op.store _ _ _) _ _ _ _ :: _) _ _); refine st_store1 (o := 4) oa1 T.smsSize (show 4 < 5 by decide) ?_; intro w2 oa2 hg2
       have ob2 := ob1.kept hg2 (by simp)
       have b0 := oa2.cell (j := 0) rfl
       have b1 := oa2.cell (j := 1) rfl
       have b2 := oa2.cell (j := 2) rfl
       have b3 := oa2.cell (j := 3) rfl
       have b4 := oa2.cell (j := 4) rfl))
  refine bodyPost_ret (wt_results rfl _ _ (w.heap.size + 1) s _ rfl ob3) rfl ?_
  have hown := ORow.own HO1.out
  have hs := HSZ.out
  refine ⟨_, rfl, SmO.kept (SmO.kept (ORow.base HO1.out hx0.size) hg2 ?_) hg3 ?_, ((hx0.trans hx1).grown hg2 (Nat.le_refl _)).grown hg3 (Nat.le_succ _)⟩
  · refine .inr fun e => ?_
    have := (hown _ e).1
    omega
  · refine .inr fun e => ?_
    have := (hown _ e).1
    omega
set_option maxHeartbeats 1000000 in
theorem wnew_any (size late : Int) (w : World) :
    Calls Try.prog 14 #[.int .i64 size, .int .i64 late] w fun e w' => e = .returned (.tuple #[wtv (newW size late).1 (.slice none 0 0), .int .i64 (newW size late).2]) ∧ Ext w w' := by
  have C1 := fun W => check_any ⟨size, late, -1, 0, []⟩ (.slice none 0 0) W (sm_nil W)
  unfold newW
  obtain ⟨oa, ob, hx0, hsz⟩ := objs2 w 31 31 (wtC wt0 (.slice none 0 0)) (wtC ⟨size, late, -1, 0, []⟩ (.slice none 0 0))
  have a0 := ob.cell (j := 0) rfl
  have a1 := ob.cell (j := 1) rfl
  have a2 := ob.cell (j := 2) rfl
  have a3 := ob.cell (j := 3) rfl
  have a4 := ob.cell (j := 4) rfl
  have HSZ := Lib.hid hsz
  unfold wt0 at oa hx0
  clear hsz
  by_cases hc : checkW ⟨size, late, -1, 0, []⟩ = 0
  · rw [hc] at C1 ⊢
    rw [if_neg (by simp)]
    clear hc
    go_enter Try.func14, Try.ntmps14
    go_wp2_with (first
      | (go_at_call 20; refine (C1 _).mono ?_; rintro e w1 ⟨rfl, hx1⟩
         have oa1 := oa.ext hx1
         have b0 := hx1.cell a0
         have b1 := hx1.cell a1
         have b2 := hx1.cell a2
         have b3 := hx1.cell a3
         have b4 := hx1.cell a4)
      | ((with_reducible show wpList _ _ _ (Oper.mk _ (Op.store _ _ _) _ _ _ _ :: _) _ _); refine st_put (vs := wtC ⟨size, late, -1, 0, []⟩ (.slice none 0 0)) oa1 T.wtSize rfl (wt_one _ rfl) ?_; intro w3 ob3 hg3))
    refine bodyPost_ret (wt_results2 rfl _ _ w.heap.size ⟨size, late, -1, 0, []⟩ _ rfl ob3) rfl ?_
    exact ⟨rfl, (hx0.trans hx1).grown hg3 (Nat.le_refl _)⟩
  · rw [if_pos hc]
    have hb : (checkW ⟨size, late, -1, 0, []⟩ != 0) = true := by rw [bne_iff_ne]; exact hc
    generalize checkW ⟨size, late, -1, 0, []⟩ = k at *
    clear hc
    go_enter Try.func14, Try.ntmps14
    go_wp2_with (first
      | (go_at_call 20; refine (C1 _).mono ?_; rintro e w1 ⟨rfl, hx1⟩
         have oa1 := oa.ext hx1)
      | ((with_reducible show wpList _ _ _ (Oper.mk _ (Op.store _ _ _) _ _ _ _ :: _) _ _); refine st_put (vs := wtC wt0 (.slice none 0 0)) oa1 T.wtSize rfl (wt_one _ rfl) ?_; intro w3 ob3 hg3))
    refine bodyPost_ret (wt_results2 rfl _ _ w.heap.size wt0 _ rfl ob3) rfl ?_
    exact ⟨rfl, (hx0.trans hx1).grown hg3 (Nat.le_refl _)⟩
set_option maxHeartbeats 1000000 in
theorem close_any (s : Wt) (v : Value) (w : World) (h : SmV w v s.opn) (hl : s.opn.length ≤ 100000) :
    Calls Try.prog 12 #[wtv s v] w fun e w' => ∃ v' lv, e = .returned (.tuple #[wtv (closeW s).1 v', lv]) ∧ SmV w' v' (closeW s).1.opn ∧ SmV w' lv (closeW s).2 ∧ Ext w w' := by
  have C1 := fun W hW => check_any s v W (h.ext hW)
  have O1 := fun W hW => own_any s v W (h.ext hW) hl
  have L1 := fun W hW => cloneW_any v s.opn W (h.ext hW) hl
  unfold closeW
  obtain ⟨oa, ob, hx0, hsz⟩ := objs2 w 31 31 (wtC s v) (wtC wt0 (.slice none 0 0))
  have a0 := oa.cell (j := 0) rfl
  have a1 := oa.cell (j := 1) rfl
  have a2 := oa.cell (j := 2) rfl
  have a3 := oa.cell (j := 3) rfl
  have a4 := oa.cell (j := 4) rfl
  unfold wt0 at ob hx0 hsz
  have HSZ := Lib.hid hsz
  clear hsz
  by_cases hc : checkW s = 0
  · rw [if_neg (by simp [hc])]
    rw [hc] at C1
    clear hc O1
    go_enter Try.func12, Try.ntmps12
    go_wp2_with (first
      | (go_at_call 20; refine (C1 _ hx0).mono ?_; rintro e w1 ⟨rfl, hx1⟩
         have oa1 := oa.ext hx1
         have ob1 := ob.ext hx1
         have b4 := hx1.cell a4)
      | (go_at_call 35; refine (L1 _ (hx0.trans hx1)).mono ?_; rintro e w2 ⟨v2, rfl, ho2, hx2⟩
         have oa2 := oa1.ext hx2
         have ob2 := ob1.ext hx2
         have HO2 := Lib.hid ho2
         clear ho2)
      | ((with_reducible show wpList _ _ _ (Oper.mk _ (Op.store _ _ _) _ _ _ _ :: _) _ _); have hq := oa3; refine st_put (vs := wtC ⟨s.size, s.late, s.mark, s.drops, []⟩ (.slice none 0 0)) ob3 T.wtSize rfl (wt_one _ rfl) ?_; intro w4 ob4 hg4)
      | ((with_reducible show wpList _ _ _ (Oper.mk _ (Op.store _ _ _) _ _ _ _ :: _) _ _); refine st_store1 (o := 4) oa2 T.smsSize (show 4 < 5 by decide) ?_; intro w3 oa3 hg3
         have ob3 := ob2.kept hg3 (by simp)
         have d0 := oa3.cell (j := 0) rfl
         have d1 := oa3.cell (j := 1) rfl
         have d2 := oa3.cell (j := 2) rfl
         have d3 := oa3.cell (j := 3) rfl
         have d4 := oa3.cell (j := 4) rfl))
    refine bodyPost_ret (wt_results2 rfl _ _ (w.heap.size + 1) ⟨s.size, s.late, s.mark, s.drops, []⟩ _ rfl ob4) rfl ?_
    have hown := ORow.own HO2.out
    have hs := HSZ.out
    have hs1 := hx1.size
    refine ⟨_, _, rfl, sm_nil _, SmO.view (SmO.kept (SmO.kept HO2.out hg3 ?_) hg4 ?_), (((hx0.trans hx1).trans hx2).grown hg3 (Nat.le_refl _)).grown hg4 (Nat.le_succ _)⟩
    · refine .inr fun e => ?_
      have := (hown _ e).1
      omega
    · refine .inr fun e => ?_
      have := (hown _ e).1
      omega
  · rw [if_pos hc]
    have hb : (checkW s != 0) = true := by rw [bne_iff_ne]; exact hc
    generalize checkW s = k at *
    clear hc L1
    go_enter Try.func12, Try.ntmps12
    go_wp2_with (first
      | (go_at_call 20; refine (C1 _ hx0).mono ?_; rintro e w1 ⟨rfl, hx1⟩
         have ob1 := ob.ext hx1
         have b0 := hx1.cell a0
         have b1 := hx1.cell a1
         have b2 := hx1.cell a2
         have b3 := hx1.cell a3
         have b4 := hx1.cell a4)
      | (go_at_call 30; refine (O1 _ (hx0.trans hx1)).mono ?_; rintro e w2 ⟨v2, rfl, ho2, hx2⟩
         obtain ⟨p2, d2, e2, _, _⟩ := ho2.view.slice
         have ob2 := ob1.ext hx2
         have HO2 := Lib.hid ho2
         clear ho2
         generalize s.opn.length = n2 at e2
         subst e2)
      | ((with_reducible show wpList _ _ _ (Oper.mk _ (Op.store _ _ _) _ _ _ _ :: _) _ _); refine st_put (vs := wtC s (.slice p2 n2 d2)) ob2 T.wtSize rfl (wt_one _ rfl) ?_; intro w4 ob4 hg4))
    refine bodyPost_ret (wt_results2 rfl _ _ (w.heap.size + 1) s _ rfl ob4) rfl ?_
    have hown := ORow.own HO2.out
    have hs := HSZ.out
    have hs1 := hx1.size
    refine ⟨_, _, rfl, SmO.view (SmO.kept HO2.out hg4 ?_), sm_nil _, ((hx0.trans hx1).trans hx2).grown hg4 (Nat.le_succ _)⟩
    refine .inr fun e => ?_
    have := (hown _ e).1
    omega
/-! ### Sums of sums -/
def cntS (l : List Sm) : Int := (l.map Sm.count).sum
def totS (l : List Sm) : Int := (l.map Sm.total).sum
theorem cntS_app (a b : List Sm) : cntS (a ++ b) = cntS a + cntS b := by unfold cntS; rw [List.map_append, List.sum_append]
theorem totS_app (a b : List Sm) : totS (a ++ b) = totS a + totS b := by unfold totS; rw [List.map_append, List.sum_append]
theorem cntS_one (x : Sm) : cntS [x] = x.count := by unfold cntS; simp
theorem totS_one (x : Sm) : totS [x] = x.total := by unfold totS; simp
/-- Sums whose totals are not above what their counts allow. -/
def FairS (l : List Sm) : Prop := ∀ x ∈ l, 0 ≤ x.count ∧ -(1073741824 * x.count) ≤ x.total ∧ x.total ≤ 1073741824 * x.count
theorem fair_tot : ∀ {l : List Sm}, FairS l → 0 ≤ cntS l ∧ -(1073741824 * cntS l) ≤ totS l ∧ totS l ≤ 1073741824 * cntS l
  | [], _ => by simp [cntS, totS]
  | x :: r, h => by
    have h1 := h x (List.mem_cons_self ..)
    have h2 := fair_tot (l := r) fun y hy => h y (List.mem_cons_of_mem _ hy)
    have e1 := cntS_app [x] r
    have e2 := totS_app [x] r
    rw [cntS_one] at e1
    rw [totS_one] at e2
    rw [List.singleton_append] at e1 e2
    omega
theorem fair_take {l : List Sm} (h : FairS l) (j : Nat) : FairS (l.take j) ∧ cntS (l.take j) ≤ cntS l := by
  refine ⟨fun x hx => h x (List.mem_of_mem_take hx), ?_⟩
  have h2 := fair_tot (l := l.drop j) fun x hx => h x (List.mem_of_mem_drop hx)
  have e := cntS_app (l.take j) (l.drop j)
  rw [List.take_append_drop] at e
  omega
set_option maxHeartbeats 1000000 in
theorem total_any (v : Value) (t : List Sm) (w : World) (h : SmV w v t) (hf : FairS t) (hn : cntS t ≤ 1073741824) :
    Calls Try.prog 27 #[v] w fun e w' => e = .returned (.tuple #[.int .i64 (cntS t), .int .i64 (totS t)]) ∧ Ext w w' := by
  obtain ⟨q, c, rfl, hnc, hcm⟩ := h.slice
  have HC : Hid (t.length ≤ c ∧ c ≤ maxLen) := Lib.hid ⟨hnc, hcm⟩
  have HF := Lib.hid hf
  have HN := Lib.hid hn
  clear hnc hcm hf hn
  go_enter Try.func27, Try.ntmps27
  go_wp2_with fail
  go_loopg [10, 4, 5] (t.length) (fun k s10 s4 s5 wr => ∃ j : Nat, s10 = .int .i64 j ∧ s4 = .int .i64 (cntS (t.take j)) ∧ s5 = .int .i64 (totS (t.take j)) ∧ j ≤ t.length ∧ k = t.length - j ∧ Hid (Ext w wr))
  case atStart => exact ⟨0, rfl, rfl, rfl, Nat.zero_le _, rfl, Lib.hid (Ext.refl _)⟩
  case round =>
    obtain ⟨j, rfl, rfl, rfl, hj, hk, HX⟩ := hrel
    by_cases hlt : j < t.length
    case pos =>
      have hi : (j : Int) < (t.length : Int) := by omega
      obtain ⟨b, o, rfl, ⟨m0, m1, m2, m3, m4, m5⟩⟩ := sm_at (h.ext HX.out) hlt
      have e1 := cntS_app (t.take j) [t[j]]
      have e2 := totS_app (t.take j) [t[j]]
      rw [← List.take_succ_eq_append_getElem hlt] at e1 e2
      rw [cntS_one] at e1
      rw [totS_one] at e2
      have f1 := fair_take HF.out (j + 1)
      have f2 := fair_tot f1.1
      have f3 := HN.out
      have q1 : wrap64 (cntS (t.take j) + t[j].count) = cntS (t.take (j + 1)) := by rw [← e1]; unfold wrap64; omega
      have q2 : wrap64 (totS (t.take j) + t[j].total) = totS (t.take (j + 1)) := by rw [← e2]; unfold wrap64; omega
      have q3 : wrap64 ((j : Int) + 1) = ((j + 1 : Nat) : Int) := by have := HC.out; unfold maxLen at this; unfold wrap64; omega
      have HQ := Lib.hid (And.intro q1 (And.intro q2 q3))
      have hxa := Ext.alloc wr (.cells #[.int .i64 t[j].start, .string ⟨t[j].key.toArray⟩, .int .i64 t[j].count, .int .i64 t[j].total, .int .i64 t[j].least, .int .i64 t[j].most] 64)
      have HXA := Lib.hid (HX.out.trans hxa)
      generalize t[j] = x at *
      clear e1 e2 f1 f2 f3 q1 q2 q3 hxa
      go_wp2_with fail
      go_roundg (t.length - (j + 1))
      case measure => omega
      case rel => exact ⟨j + 1, congrArg (Value.int .i64) HQ.out.2.2, congrArg (Value.int .i64) HQ.out.1, congrArg (Value.int .i64) HQ.out.2.1, hlt, rfl, HXA⟩
    case neg =>
      have hje : j = t.length := by omega
      subst hje
      have hi : ¬ (t.length : Int) < (t.length : Int) := by omega
      clear hlt
      go_wp2_with fail
      go_ret2
      exact ⟨rfl, HX.out⟩
end Go.Proofs.Ytpejdompanhieaa
