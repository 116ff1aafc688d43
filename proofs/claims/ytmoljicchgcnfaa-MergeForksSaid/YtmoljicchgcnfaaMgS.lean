/- What a source of layer 34 tells: its head, whether it has more, how many. -/
import Derived.Test.YtmoljicchgcnfaaMgJ
import Derived.Test.YtmoljicchgcnfaaObj3
namespace Go.Proofs.Ytmoljicchgcnfaa
open Go.RowKit

/-! The methods of a source, by name. -/
theorem method_head (w : World) (g : Nat) : (method 190 57 (.pointer (some ⟨g, 0, none⟩)) "bilander/merge.head").run Try.prog w = .ok (47, .pointer (some ⟨g, 0, none⟩)) w := by kernel_rfl
theorem method_drop (w : World) (g : Nat) : (method 190 57 (.pointer (some ⟨g, 0, none⟩)) "bilander/merge.drop").run Try.prog w = .ok (45, .pointer (some ⟨g, 0, none⟩)) w := by kernel_rfl
theorem method_left (w : World) (g : Nat) : (method 190 57 (.pointer (some ⟨g, 0, none⟩)) "bilander/merge.left").run Try.prog w = .ok (48, .pointer (some ⟨g, 0, none⟩)) w := by kernel_rfl
theorem method_fork (w : World) (g : Nat) : (method 190 57 (.pointer (some ⟨g, 0, none⟩)) "bilander/merge.fork").run Try.prog w = .ok (46, .pointer (some ⟨g, 0, none⟩)) w := by kernel_rfl
/-- The cells of an item at a place. -/
structure ItmAt (w : World) (b o : Nat) (x : Itm) : Prop where
  c0 : w.cell? ⟨b, o, none⟩ = some (.int .i64 x.list)
  c1 : w.cell? ⟨b, o + 1, none⟩ = some (.int .i64 x.off)
  c2 : w.cell? ⟨b, o + 2, none⟩ = some (.int .i64 x.time)
  c3 : w.cell? ⟨b, o + 3, none⟩ = some (.int .i64 x.rcd.delta)
  c4 : w.cell? ⟨b, o + 4, none⟩ = some (.int .i64 x.rcd.time)
  c5 : w.cell? ⟨b, o + 5, none⟩ = some (.bool x.rcd.keyed)
  c6 : w.cell? ⟨b, o + 6, none⟩ = some (.string ⟨x.rcd.key.toArray⟩)
  c7 : w.cell? ⟨b, o + 7, none⟩ = some (.bool x.rcd.dead)
  c8 : w.cell? ⟨b, o + 8, none⟩ = some (.string ⟨x.rcd.value.toArray⟩)
theorem ItmAt.ext {w w' : World} {b o : Nat} {x : Itm} (h : ItmAt w b o x) (hx : Ext w w') : ItmAt w' b o x :=
  ⟨hx.cell h.c0, hx.cell h.c1, hx.cell h.c2, hx.cell h.c3, hx.cell h.c4, hx.cell h.c5, hx.cell h.c6, hx.cell h.c7, hx.cell h.c8⟩
theorem itm_at {S : Nat → Prop} {w : World} {p : Option Addr} {n c : Nat} {xs : List Itm} (h : SRow 9 RItm S w (.slice p n c) xs) {j : Nat} (hj : j < xs.length) :
    ∃ b o, p = some ⟨b, o, none⟩ ∧ ItmAt w b (o + j * 9) xs[j] := by
  obtain ⟨b, o, cs, e, _, hc, hu⟩ := h.cells (by decide) hj
  have e2 := hu.now
  unfold RItm at e2
  subst e2
  exact ⟨b, o, e, ⟨hc 0 _ rfl, hc 1 _ rfl, hc 2 _ rfl, hc 3 _ rfl, hc 4 _ rfl, hc 5 _ rfl, hc 6 _ rfl, hc 7 _ rfl, hc 8 _ rfl⟩⟩
theorem itm_results {fn : Func} {p : Tmp} (h : fn.results = #[.cell p 36]) (tmps : Array Value) (w : World) (g : Nat) (x : Itm)
    (hp : tmps.getD p undef = .pointer (some ⟨g, 0, none⟩)) (hg : ObjAt w g 36 (itmCells x)) :
    (results fn tmps).run Try.prog w = .ok (itmv x) w :=
  results_cell_row h tmps w g _ (itmCells x).toArray (0, 0) _ hp hg Try.underlying36 rfl (show _ = some 9 from by kernel_rfl)

set_option maxHeartbeats 1000000 in
theorem head_any (g : Nat) (l : Src) (v : Value) (w : World) (ho : ObjAt w g 59 [v]) (hv : ItmV w v l) (hl : l ≠ []) :
    Calls Try.prog 47 #[.pointer (some ⟨g, 0, none⟩)] w fun e w' => e = .returned (itmv (hd l)) ∧ Ext w w' := by
  obtain ⟨x, r, rfl⟩ : ∃ x r, l = x :: r := by
    cases l with
    | nil => exact absurd rfl hl
    | cons x r => exact ⟨x, r, rfl⟩
  clear hl
  obtain ⟨p, c, rfl, _, hcm⟩ := hv.slice
  obtain ⟨b, o, rfl, hat⟩ := itm_at hv (j := 0) (by simp)
  rw [Nat.zero_mul, Nat.add_zero] at hat
  show Calls _ _ _ _ fun e w' => e = .returned (itmv x) ∧ Ext w w'
  have hx0 := Ext.alloc w (.cells #[.int .i64 0, .int .i64 0, .int .i64 0, .int .i64 0, .int .i64 0, .bool false, .string ⟨#[]⟩, .bool false, .string ⟨#[]⟩] 36)
  obtain ⟨c0, c1, c2, c3, c4, c5, c6, c7, c8⟩ := hat.ext hx0
  have cv := (ho.ext hx0).cell (j := 0) rfl
  have hi : (0 : Int) < ((r.length + 1 : Nat) : Int) := by omega
  have hw : ObjAt (w.alloc (.cells (itmCells x).toArray 36)) w.heap.size 36 (itmCells x) := heap_alloc_new w _
  simp only [List.getElem_cons_zero] at *
  obtain ⟨n1, o1, m1, rd, rt, rk, ry, rz, rv⟩ := x
  simp only [List.length_cons] at *
  clear hat
  go_enter Try.func47, Try.ntmps47
  go_wp2_with fail
  refine bodyPost_ret (itm_results rfl _ _ w.heap.size _ rfl hw) rfl ?_
  exact ⟨rfl, Ext.alloc _ _⟩
set_option maxHeartbeats 1000000 in
theorem left_any (g : Nat) (l : Src) (v : Value) (w : World) (ho : ObjAt w g 59 [v]) (hv : ItmV w v l) :
    Calls Try.prog 48 #[.pointer (some ⟨g, 0, none⟩)] w fun e w' => e = .returned (.int .i64 (l.length : Int)) ∧ w' = w := by
  obtain ⟨p, c, rfl, _, hcm⟩ := hv.slice
  have cv := ho.cell (j := 0) rfl
  go_enter Try.func48, Try.ntmps48
  go_wp2_with fail
  go_ret
  exact ⟨rfl, rfl⟩
set_option maxHeartbeats 1000000 in
theorem drop_any (g : Nat) (l : Src) (v : Value) (w : World) (ho : ObjAt w g 59 [v]) (hv : ItmV w v l) (hl : l ≠ []) :
    Calls Try.prog 45 #[.pointer (some ⟨g, 0, none⟩)] w fun e w' => ∃ v', e = .returned (.bool (!l.tail.isEmpty)) ∧ w' = w.setCell ⟨g, 0, none⟩ v' ∧ ItmV w v' l.tail ∧ (∀ k, v'.ownBlock = some k → v.ownBlock = some k) := by
  have hpos : 0 < l.length := List.length_pos_iff.2 hl
  obtain ⟨p, c, rfl, hlc, hcm⟩ := hv.slice
  have hd := hv.drop (k := 1) hpos
  have cv := ho.cell (j := 0) rfl
  have fv := ho.free 0
  have hown : ∀ k, (Value.slice (cutA 9 p c 1) (l.length - 1) (c - 1)).ownBlock = some k → (Value.slice p l.length c).ownBlock = some k := by
    intro k e
    unfold cutA at e
    split at e
    · cases p <;> exact e
    · cases p with
      | none => exact e
      | some a => exact e
  have os := ho.store 0 (.slice (cutA 9 p c 1) (l.length - 1) (c - 1))
  have cs := os.cell (j := 0) rfl
  have hdt : l.drop 1 = l.tail := List.drop_one
  rw [hdt] at hd
  have hemp : (!l.tail.isEmpty) = decide (0 < l.length - 1) := by
    rw [← List.length_tail]
    cases l.tail <;> simp
  rw [hemp]
  have HD := Lib.hid hd
  have HO := Lib.hid hown
  clear hd hown hdt hemp hl os
  go_enter Try.func45, Try.ntmps45
  go_wp2_with ((with_reducible show wpList _ _ _ (Oper.mk _ (Op.slice _ _ _ _ _) _ _ _ _ :: _) _ _); refine st_slice T.items 1 l.length c ?_)
  go_ret
  exact ⟨_, rfl, rfl, HD.out, HO.out⟩
end Go.Proofs.Ytmoljicchgcnfaa
