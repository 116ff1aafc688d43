/- Objects of three cells: what a walk wants to know of a store of all three. -/
import Derived.Test.YtpejdompanhieaaObj
import Derived.Laws.ResultCell
namespace Go.Proofs.Ytpejdompanhieaa
open Go.RowKit

abbrev set3 (w : World) (g : Nat) (a b c : Value) : World := ((w.setCell ⟨g, 0, none⟩ a).setCell ⟨g, 1, none⟩ b).setCell ⟨g, 2, none⟩ c
theorem Ext.set3 {w w1 : World} (h : Ext w w1) {g : Nat} (hg : w.heap.size ≤ g) (a b c : Value) : Ext w (set3 w1 g a b c) :=
  ((h.store (p := ⟨g, 0, none⟩) hg a).store (p := ⟨g, 1, none⟩) hg b).store (p := ⟨g, 2, none⟩) hg c
theorem grown_set3 (w : World) (g : Nat) (a b c : Value) : w.grownBy (set3 w g a b c) (some g) :=
  (grown_set w ⟨g, 0, none⟩ a).trans ((grown_set _ ⟨g, 1, none⟩ b).trans (grown_set _ ⟨g, 2, none⟩ c))
theorem FB.far3 {w : World} {B : Nat} {v : Value} {l : List UInt8} (h : FB w B v l) {g : Nat} (hg : v.ownBlock ≠ some g) (a b c : Value) : FB (Go.Proofs.Ytpejdompanhieaa.set3 w g a b c) B v l :=
  ((h.far (p := ⟨g, 0, none⟩) hg a).far (p := ⟨g, 1, none⟩) hg b).far (p := ⟨g, 2, none⟩) hg c
theorem ObjAt.far3 {w : World} {g g' : Nat} {t : TypeId} {cs : List Value} (h : ObjAt w g t cs) (hg : g ≠ g') (a b c : Value) : ObjAt (Go.Proofs.Ytpejdompanhieaa.set3 w g' a b c) g t cs :=
  ((h.far (p := ⟨g', 0, none⟩) hg a).far (p := ⟨g', 1, none⟩) hg b).far (p := ⟨g', 2, none⟩) hg c
structure Stored3 (w : World) (g : Nat) (x y z u u' : Value) : Prop where
  c0 : w.cell? ⟨g, 0, none⟩ = some x
  f0 : w.frozen? ⟨g, 0, none⟩ = false
  c1 : (w.setCell ⟨g, 0, none⟩ u).cell? ⟨g, 1, none⟩ = some y
  f1 : (w.setCell ⟨g, 0, none⟩ u).frozen? ⟨g, 1, none⟩ = false
  c2 : ((w.setCell ⟨g, 0, none⟩ u).setCell ⟨g, 1, none⟩ u').cell? ⟨g, 2, none⟩ = some z
  f2 : ((w.setCell ⟨g, 0, none⟩ u).setCell ⟨g, 1, none⟩ u').frozen? ⟨g, 2, none⟩ = false
theorem ObjAt.stored3 {w : World} {g : Nat} {t : TypeId} {x y z : Value} (h : ObjAt w g t [x, y, z]) (u u' u'' : Value) : Stored3 w g x y z u u' ∧ ObjAt (set3 w g u u' u'') g t [u, u', u''] :=
  ⟨⟨h.cell (j := 0) rfl, h.free 0, (h.store 0 u).cell (j := 1) rfl, (h.store 0 u).free 1, ((h.store 0 u).store 1 u').cell (j := 2) rfl, ((h.store 0 u).store 1 u').free 2⟩, (((h.store 0 u).store 1 u').store 2 u'')⟩
/-- What a walk wants to know of an object of three cells that it reads. -/
structure Cells3 (w : World) (g : Nat) (x y z : Value) : Prop where
  c0 : w.cell? ⟨g, 0, none⟩ = some x
  c1 : w.cell? ⟨g, 1, none⟩ = some y
  c2 : w.cell? ⟨g, 2, none⟩ = some z
theorem ObjAt.cells3 {w : World} {g : Nat} {t : TypeId} {x y z : Value} (h : ObjAt w g t [x, y, z]) : Cells3 w g x y z := ⟨h.cell (j := 0) rfl, h.cell (j := 1) rfl, h.cell (j := 2) rfl⟩

theorem results_row_tmp {P : Program} {fn : Func} {p u : Tmp} {ty : TypeId} (h : fn.results = #[.cell p ty, .tmp u]) (tmps : Array Value) (w : World) (g : Nat) (t : TypeId) (cs : Array Value) (d : TypeDesc)
    (hp : tmps.getD p undef = .pointer (some ⟨g, 0, none⟩)) (hg : w.heap[g]? = some (.cells cs t))
    (hu : P.underlying ty = some d) (hd : (match d with | .struct _ | .array _ _ => true | _ => false) = true) (hi : (P.info? ty).map (·.size) = some cs.size) :
    (results fn tmps).run P w = .ok (.tuple #[.agg cs, tmps.getD u undef]) w := by
  rw [results_cell_tmp h, hp]
  simp [asAddr, run_loadVar_row w g t ty cs (0, 0) d hg hu hd hi, Result.andThen]
/-! ### Objects that were made one behind the other -/
theorem objs2 (w : World) (t1 t2 : TypeId) (c1 c2 : List Value) :
    ObjAt ((w.alloc (.cells c1.toArray t1)).alloc (.cells c2.toArray t2)) w.heap.size t1 c1 ∧ ObjAt ((w.alloc (.cells c1.toArray t1)).alloc (.cells c2.toArray t2)) (w.heap.size + 1) t2 c2 ∧
    Ext w ((w.alloc (.cells c1.toArray t1)).alloc (.cells c2.toArray t2)) ∧ ((w.alloc (.cells c1.toArray t1)).alloc (.cells c2.toArray t2)).heap.size = w.heap.size + 2 :=
  ⟨heap_alloc2_old w _ _, heap_alloc2_new w _ _, (Ext.alloc _ _).trans (Ext.alloc _ _), by simp⟩
theorem objs3 (w : World) (t1 t2 t3 : TypeId) (c1 c2 c3 : List Value) :
    ObjAt (((w.alloc (.cells c1.toArray t1)).alloc (.cells c2.toArray t2)).alloc (.cells c3.toArray t3)) w.heap.size t1 c1 ∧ ObjAt (((w.alloc (.cells c1.toArray t1)).alloc (.cells c2.toArray t2)).alloc (.cells c3.toArray t3)) (w.heap.size + 1) t2 c2 ∧
    ObjAt (((w.alloc (.cells c1.toArray t1)).alloc (.cells c2.toArray t2)).alloc (.cells c3.toArray t3)) (w.heap.size + 2) t3 c3 ∧
    Ext w (((w.alloc (.cells c1.toArray t1)).alloc (.cells c2.toArray t2)).alloc (.cells c3.toArray t3)) ∧ (((w.alloc (.cells c1.toArray t1)).alloc (.cells c2.toArray t2)).alloc (.cells c3.toArray t3)).heap.size = w.heap.size + 3 := by
  obtain ⟨h1, h2, h3, h4⟩ := objs2 w t1 t2 c1 c2
  refine ⟨h1.ext (Ext.alloc _ _), h2.ext (Ext.alloc _ _), ?_, h3.trans (Ext.alloc _ _), by simp⟩
  have := ObjAt.new ((w.alloc (.cells c1.toArray t1)).alloc (.cells c2.toArray t2)) t3 c3
  rw [h4] at this
  exact this
end Go.Proofs.Ytpejdompanhieaa
