/- Sums of layer 35, as they lie in memory: the program's and the document's. How two sums stand: the program's order. -/
import Derived.Test.YtpejdompanhieaaWn
import Derived.Test.YtpejdompanhieaaIns
import Derived.Test.YtpejdompanhieaaObj3
import Derived.Test.YtpejdompanhieaaClone
import Derived.Laws.Cover1
import Derived.Deep.LoopGhost
namespace Go.Proofs.Ytpejdompanhieaa
open Go.RowKit Go.ChangeShapes Go.WideShapes
open Go.RowKit

def smCells (x : Sm) : List Value := [.int .i64 x.start, .string ⟨x.key.toArray⟩, .int .i64 x.count, .int .i64 x.total, .int .i64 x.least, .int .i64 x.most]
/-- Six cells, that hold a sum. -/
def RSm (_ : World) (cs : List Value) (x : Sm) : Prop := cs = smCells x
abbrev SmV (w : World) (v : Value) (l : List Sm) : Prop := SRow 6 RSm (fun _ => True) w v l
abbrev SmO (e : TypeId) (w : World) (B : Nat) (v : Value) (l : List Sm) : Prop := ORow e 6 RSm (fun _ => True) w B v l
theorem RSm.keeps : ∀ (w w' : World) (cs : List Value) (x : Sm), Keeps (fun _ => True) w w' → RSm w cs x → RSm w' cs x := fun _ _ _ _ _ h => h
abbrev smv (x : Sm) : Value := .agg #[.int .i64 x.start, .string ⟨x.key.toArray⟩, .int .i64 x.count, .int .i64 x.total, .int .i64 x.least, .int .i64 x.most]
/-- A state, its sums in a row. -/
abbrev wtv (s : Wt) (v : Value) : Value := .agg #[.int .i64 s.size, .int .i64 s.late, .int .i64 s.mark, .int .i64 s.drops, v]
abbrev zsm : Value := .agg #[.int .i64 0, .string ⟨#[]⟩, .int .i64 0, .int .i64 0, .int .i64 0, .int .i64 0]
theorem T.smInfo : (Try.prog.info? 64).map (fun i => (i.zero, i.size, i.bytes)) = some (some zsm, 6, 56) := by kernel_rfl
theorem T.sms : RowT Try.prog 29 64 zsm 6 56 := ⟨Try.underlying29, info_parts T.smInfo, rfl, by omega⟩
theorem T.rsmInfo : (Try.prog.info? 69).map (fun i => (i.zero, i.size, i.bytes)) = some (some zsm, 6, 56) := by kernel_rfl
theorem T.rsms : RowT Try.prog 22 69 zsm 6 56 := ⟨Try.underlying22, info_parts T.rsmInfo, rfl, by omega⟩
theorem T.smSize : (Try.prog.info? 64).map (·.size) = some 6 := by kernel_rfl
theorem T.rsmSize : (Try.prog.info? 69).map (·.size) = some 6 := by kernel_rfl
theorem T.wtSize : (Try.prog.info? 31).map (·.size) = some 5 := by kernel_rfl
theorem T.rwtSize : (Try.prog.info? 24).map (·.size) = some 5 := by kernel_rfl

/-! ### What lies in a row -/
structure SmCells (w : World) (b o j : Nat) (x : Sm) : Prop where
  c0 : w.cell? ⟨b, o + j * 6, none⟩ = some (.int .i64 x.start)
  c1 : w.cell? ⟨b, o + j * 6 + 1, none⟩ = some (.string ⟨x.key.toArray⟩)
  c2 : w.cell? ⟨b, o + j * 6 + 2, none⟩ = some (.int .i64 x.count)
  c3 : w.cell? ⟨b, o + j * 6 + 3, none⟩ = some (.int .i64 x.total)
  c4 : w.cell? ⟨b, o + j * 6 + 4, none⟩ = some (.int .i64 x.least)
  c5 : w.cell? ⟨b, o + j * 6 + 5, none⟩ = some (.int .i64 x.most)
theorem sm_at {S : Nat → Prop} {w : World} {p : Option Addr} {n c : Nat} {xs : List Sm} (h : SRow 6 RSm S w (.slice p n c) xs) {j : Nat} (hj : j < xs.length) : ∃ b o, p = some ⟨b, o, none⟩ ∧ SmCells w b o j xs[j] := by
  obtain ⟨b, o, cs, e, _, hc, hu⟩ := h.cells (by decide) hj
  have e2 : cs = smCells xs[j] := hu.now
  subst e2
  exact ⟨b, o, e, ⟨hc 0 _ rfl, hc 1 _ rfl, hc 2 _ rfl, hc 3 _ rfl, hc 4 _ rfl, hc 5 _ rfl⟩⟩
theorem SmV.any {S : Nat → Prop} {w : World} {v : Value} {l : List Sm} (h : SRow 6 RSm S w v l) : SmV w v l := by
  obtain ⟨css, p, c, h1, h2, h3, h4, h5, h6, h7⟩ := h
  exact ⟨css, p, c, h1, h2, h3, h4, h5, h6, fun j cs x hc hx w' _ => (h7 j cs x hc hx).now⟩
theorem SmO.view {e : TypeId} {w : World} {B : Nat} {v : Value} {l : List Sm} (h : SmO e w B v l) : SmV w v l := SmV.any (ORow.view h)
theorem sm_one (x : Sm) : ∀ u ∈ smCells x, u.oneCell' = true := fun u hu => by
  unfold smCells at hu
  simp only [List.mem_cons, List.not_mem_nil, or_false] at hu
  rcases hu with rfl | rfl | rfl | rfl | rfl | rfl <;> rfl
set_option maxHeartbeats 1000000 in
theorem cmpS_any (a b : List UInt8) (w : World) :
    Calls Try.prog 64 #[.string ⟨a.toArray⟩, .string ⟨b.toArray⟩] w fun e w' => e = .returned (.int .i64 (cmpS a b)) ∧ w = w' := by
  have N1 : ∀ (a : List UInt8) (w : World), Calls Try.prog 77 #[.string ⟨a.toArray⟩] w fun e w' => e = .returned (.bool false) ∧ w = w' := fun a w => by
    have e : (a == a) = true := by simp
    go_enter Try.func77, Try.ntmps77
    go_wp2_with fail
    go_ret
    exact ⟨rfl, rfl⟩
  have hg := gtS a b
  unfold cmpS
  cases h1 : Op.bytesLess a b with
  | true =>
    rw [if_pos rfl]
    go_enter Try.func64, Try.ntmps64
    go_wp2_with (go_at_call 77; refine (N1 _ _).mono ?_; rintro e w' ⟨rfl, rfl⟩)
    go_ret
    exact ⟨rfl, rfl⟩
  | false =>
    rw [if_neg (by simp)]
    rw [h1] at hg
    cases h2 : Op.bytesLess b a with
    | true =>
      rw [h2] at hg
      rw [if_pos rfl]
      have he : (a == b) = false := by simpa using hg
      go_enter Try.func64, Try.ntmps64
      go_wp2_with (go_at_call 77; refine (N1 _ _).mono ?_; rintro e w' ⟨rfl, rfl⟩)
      go_ret
      exact ⟨rfl, rfl⟩
    | false =>
      rw [h2] at hg
      rw [if_neg (by simp)]
      have he : (a == b) = true := by simpa using hg
      go_enter Try.func64, Try.ntmps64
      go_wp2_with (go_at_call 77; refine (N1 _ _).mono ?_; rintro e w' ⟨rfl, rfl⟩)
      go_ret
      exact ⟨rfl, rfl⟩
set_option maxHeartbeats 1000000 in
theorem cmpI_any (a b : Int) (w : World) :
    Calls Try.prog 63 #[.int .i64 a, .int .i64 b] w fun e w' => e = .returned (.int .i64 (cmpI a b)) ∧ w = w' := by
  have N1 : ∀ (a : Int) (w : World), Calls Try.prog 76 #[.int .i64 a] w fun e w' => e = .returned (.bool false) ∧ w = w' := fun a w => by
    have e : (a != a) = false := by simp
    go_enter Try.func76, Try.ntmps76
    go_wp2_with fail
    go_ret
    exact ⟨rfl, rfl⟩
  unfold cmpI
  by_cases h1 : a < b
  · rw [if_pos h1]
    go_enter Try.func63, Try.ntmps63
    go_wp2_with (go_at_call 76; refine (N1 _ _).mono ?_; rintro e w' ⟨rfl, rfl⟩)
    go_ret
    exact ⟨rfl, rfl⟩
  · rw [if_neg h1]
    by_cases h2 : b < a
    · rw [if_pos h2]
      go_enter Try.func63, Try.ntmps63
      go_wp2_with (go_at_call 76; refine (N1 _ _).mono ?_; rintro e w' ⟨rfl, rfl⟩)
      go_ret
      exact ⟨rfl, rfl⟩
    · rw [if_neg h2]
      go_enter Try.func63, Try.ntmps63
      go_wp2_with (go_at_call 76; refine (N1 _ _).mono ?_; rintro e w' ⟨rfl, rfl⟩)
      go_ret
      exact ⟨rfl, rfl⟩
def or2 (x y : Int) : Int := if x ≠ 0 then x else y
set_option maxHeartbeats 1000000 in
theorem or_any (b : Nat) (x y : Int) (w : World) (ho : ObjAt w b 3 [.int .i64 x, .int .i64 y]) :
    Calls Try.prog 62 #[.slice (some ⟨b, 0, none⟩) 2 2] w fun e w' => e = .returned (.int .i64 (or2 x y)) ∧ w = w' := by
  have c0 := ho.cell (j := 0) rfl
  have c1 := ho.cell (j := 1) rfl
  clear ho
  unfold or2
  by_cases h1 : x = 0
  · subst h1
    rw [if_neg (by simp)]
    by_cases h2 : y = 0
    · subst h2
      go_enter Try.func62, Try.ntmps62
      go_wp2_with fail
      refine wp_loop_rounds 3 ?_
      rw [rounds_succ]; go_wp2
      rw [rounds_succ]; go_wp2
      rw [rounds_succ]; go_wp2
      go_ret
      exact ⟨rfl, rfl⟩
    · have hb : (y != 0) = true := by rw [bne_iff_ne]; exact h2
      clear h2
      go_enter Try.func62, Try.ntmps62
      go_wp2_with fail
      refine wp_loop_rounds 2 ?_
      rw [rounds_succ]; go_wp2
      rw [rounds_succ]; go_wp2
      go_ret
      exact ⟨rfl, rfl⟩
  · rw [if_pos h1]
    have hb : (x != 0) = true := by rw [bne_iff_ne]; exact h1
    clear h1
    go_enter Try.func62, Try.ntmps62
    go_wp2_with fail
    refine wp_loop_rounds 1 ?_
    rw [rounds_succ]; go_wp2
    go_ret
    exact ⟨rfl, rfl⟩
theorem ordS_or (a b : Sm) : ordS a b = or2 (cmpI a.start b.start) (cmpS a.key b.key) := rfl
set_option maxHeartbeats 1000000 in
theorem order_any (a b : Sm) (w : World) :
    Calls Try.prog 44 #[smv a, smv b] w fun e w' => e = .returned (.int .i64 (ordS a b)) ∧ Ext w w' := by
  rw [ordS_or]
  obtain ⟨s1, k1, n1, t1, l1, m1⟩ := a
  obtain ⟨s2, k2, n2, t2, l2, m2⟩ := b
  simp only
  obtain ⟨oa, ob, hx0, hsz⟩ := objs2 w 64 64 (smCells ⟨s1, k1, n1, t1, l1, m1⟩) (smCells ⟨s2, k2, n2, t2, l2, m2⟩)
  have a0 := oa.cell (j := 0) rfl
  have a1 := oa.cell (j := 1) rfl
  have b0 := ob.cell (j := 0) rfl
  have b1 := ob.cell (j := 1) rfl
  unfold smCells at a0 a1 b0 b1 hx0 hsz
  simp only at a0 a1 b0 b1 hx0 hsz
  clear oa ob
  have HSZ := Lib.hid hsz
  clear hsz
  have C1 := fun W => cmpI_any s1 s2 W
  have C2 := fun W => cmpS_any k1 k2 W
  generalize cmpI s1 s2 = x at *
  generalize cmpS k1 k2 = y at *
  go_enter Try.func44, Try.ntmps44
  go_wp2_with fail
  apply wp_region_dag_tail 10 (X := Ext) (by kernel_rfl) (by kernel_rfl) (by kernel_rfl) (by decide) (fun _ _ _ => Ext.trans) (Ext.drew1 _)
  simp only [List.take_succ_cons, List.take_zero, List.drop_succ_cons, List.drop_zero]
  apply dag_val Ext.refl rfl (by intro W hW H; go_simp <;> rfl)
  simp only [Act.put, List.setIfInBounds_toArray, List.set_cons_zero, List.set_cons_succ]
  apply dag_val Ext.refl rfl (by intro W hW H; have q := hW.cell a0; go_simp <;> rfl)
  simp only [Act.put, List.setIfInBounds_toArray, List.set_cons_zero, List.set_cons_succ]
  apply dag_val Ext.refl rfl (by intro W hW H; go_simp <;> rfl)
  simp only [Act.put, List.setIfInBounds_toArray, List.set_cons_zero, List.set_cons_succ]
  apply dag_val Ext.refl rfl (by intro W hW H; have q := hW.cell b0; go_simp <;> rfl)
  simp only [Act.put, List.setIfInBounds_toArray, List.set_cons_zero, List.set_cons_succ]
  refine' dag_call rfl (by intro W; go_simp <;> rfl) (fun W hW H => (C1 W).mono (by rintro e w' ⟨rfl, rfl⟩; exact ⟨rfl, Ext.refl _⟩)) _
  rotate_left
  simp only [Act.put, List.setIfInBounds_toArray, List.set_cons_zero, List.set_cons_succ]
  apply dag_val Ext.refl rfl (by intro W hW H; go_simp <;> rfl)
  simp only [Act.put, List.setIfInBounds_toArray, List.set_cons_zero, List.set_cons_succ]
  apply dag_val Ext.refl rfl (by intro W hW H; have q := hW.cell a1; go_simp <;> rfl)
  simp only [Act.put, List.setIfInBounds_toArray, List.set_cons_zero, List.set_cons_succ]
  apply dag_val Ext.refl rfl (by intro W hW H; go_simp <;> rfl)
  simp only [Act.put, List.setIfInBounds_toArray, List.set_cons_zero, List.set_cons_succ]
  apply dag_val Ext.refl rfl (by intro W hW H; have q := hW.cell b1; go_simp <;> rfl)
  simp only [Act.put, List.setIfInBounds_toArray, List.set_cons_zero, List.set_cons_succ]
  refine' dag_call rfl (by intro W; go_simp <;> rfl) (fun W hW H => (C2 W).mono (by rintro e w' ⟨rfl, rfl⟩; exact ⟨rfl, Ext.refl _⟩)) _
  rotate_left
  simp only [Act.put, List.setIfInBounds_toArray, List.set_cons_zero, List.set_cons_succ]
  refine dag_end fun W hW H => ?_
  clear H
  have hx1 := Ext.alloc W (.cells #[.int .i64 x, .int .i64 y] 3)
  have O1 := or_any W.heap.size x y _ (heap_alloc_new W _)
  go_wp2_with (go_at_call 62; refine O1.mono ?_; rintro e w' ⟨rfl, rfl⟩)
  go_ret
  exact ⟨rfl, (hx0.trans hW).trans hx1⟩
end Go.Proofs.Ytpejdompanhieaa
