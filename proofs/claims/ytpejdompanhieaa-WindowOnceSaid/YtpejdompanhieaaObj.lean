/- Objects: blocks of cells that a pointer leads to; rows that stand beside them. -/
import Derived.Test.YtpejdompanhieaaBase
import Derived.Test.YtpejdompanhieaaDagK
import Derived.Maps.AppendAt
namespace Go.Proofs.Ytpejdompanhieaa
open Go.RowKit

theorem grown_ext {w w1 w2 : World} {g : Option Nat} (h : w.grownBy w1 g) (k : Ext w1 w2) : w.grownBy w2 g :=
  h.trans ⟨k.os, k.tape, k.output, k.size, fun i hi _ => k.block i hi⟩
theorem Ext.grownBy {w w' : World} (h : Ext w w') (g : Option Nat) : w.grownBy w' g := ⟨h.os, h.tape, h.output, h.size, fun i hi _ => h.block i hi⟩
theorem grown_set (w : World) (a : Addr) (u : Value) : w.grownBy (w.setCell a u) (some a.block) :=
  ⟨rfl, rfl, rfl, by simp [World.setCell], fun k _ hk => Below.heap_setCell _ _ _ _ (fun e => hk (by rw [e]))⟩
theorem grown_below {B : Nat} {w w' : World} {g : Option Nat} (h : w.grownBy w' g) (hB : B ≤ w.heap.size) (hg : ∀ k, g = some k → B ≤ k) : Below B w w' :=
  (Below.refl B w).grown h hB hg
theorem FB.kept {w w' : World} {B : Nat} {v : Value} {l : List UInt8} {g : Option Nat} (h : FB w B v l) (hg : w.grownBy w' g) (hne : v.ownBlock = none ∨ v.ownBlock ≠ g) : FB w' B v l := World.ownsRow.kept h hg hne

/-- The block g holds the cells cs. -/
def ObjAt (w : World) (g : Nat) (t : TypeId) (cs : List Value) : Prop := w.heap[g]? = some (.cells cs.toArray t)
section
variable {w w' : World} {g : Nat} {t : TypeId} {cs : List Value}
theorem ObjAt.lt (h : ObjAt w g t cs) : g < w.heap.size := (Array.getElem?_eq_some_iff.1 h).1
theorem ObjAt.cell (h : ObjAt w g t cs) {j : Nat} {u : Value} (hj : cs[j]? = some u) : w.cell? ⟨g, j, none⟩ = some u := by
  unfold World.cell?
  have h' : w.heap[g]? = some (.cells cs.toArray t) := h
  simp only [h']
  simpa using hj
theorem ObjAt.free (h : ObjAt w g t cs) (j : Nat) : w.frozen? ⟨g, j, none⟩ = false := by
  unfold World.frozen?
  have h' : w.heap[g]? = some (.cells cs.toArray t) := h
  simp only [h']
  simp
theorem ObjAt.ext (h : ObjAt w g t cs) (hx : Ext w w') : ObjAt w' g t cs := (hx.block g h.lt).trans h
theorem ObjAt.kept (h : ObjAt w g t cs) {k : Option Nat} (hg : w.grownBy w' k) (hne : some g ≠ k) : ObjAt w' g t cs := (hg.block g h.lt hne).trans h
theorem ObjAt.far (h : ObjAt w g t cs) {p : Addr} (hp : g ≠ p.block) (u : Value) : ObjAt (w.setCell p u) g t cs := h.kept (grown_set w p u) (fun e => hp (Option.some.inj e))
theorem ObjAt.store (h : ObjAt w g t cs) (j : Nat) (u : Value) : ObjAt (w.setCell ⟨g, j, none⟩ u) g t (cs.set j u) := by
  unfold ObjAt World.setCell
  have h' : w.heap[g]? = some (.cells cs.toArray t) := h
  simp [Array.getElem?_modify, h']
theorem ObjAt.new (w : World) (t : TypeId) (cs : List Value) : ObjAt (w.alloc (.cells cs.toArray t)) w.heap.size t cs := heap_alloc_new w _
end

/-! ### Rows that grow -/
/-- A fresh row stands beside one that was there before. -/
theorem FB.fresh_kept {w0 W W' : World} {B : Nat} {v v0 : Value} {l l0 : List UInt8} (h : FB W w0.heap.size v l) (h0 : FB w0 B v0 l0) (hg : W.grownBy W' v0.ownBlock) : FB W' w0.heap.size v l := by
  refine h.kept hg ?_
  cases hv : v.ownBlock with
  | none => exact .inl rfl
  | some k =>
    refine .inr fun e => ?_
    have h1 := (h.lt k hv).1
    have h2 := (h0.lt k e.symm).2
    omega
/-- What an append onto the row vx of world w0 has made: the row v, of the bytes l. -/
structure Grew (w0 W : World) (B : Nat) (vx v : Value) (l : List UInt8) : Prop where
  row : FB W B v l
  grown : w0.grownBy W vx.ownBlock
  own : v.ownBlock = vx.ownBlock ∨ ∃ k, v.ownBlock = some k ∧ w0.heap.size ≤ k
theorem Grew.keep {w0 W W' : World} {B : Nat} {vx v : Value} {l : List UInt8} (h : Grew w0 W B vx v l) (hx : Ext W W') : Grew w0 W' B vx v l := ⟨h.row.keep hx, grown_ext h.grown hx, h.own⟩
theorem Grew.stable {w0 : World} {B : Nat} {vx : Value} {l : List UInt8} {Z : World → World → Prop} {i : Nat} : ∀ v W W', (Ext W W' ∨ i ≠ i ∧ Z W W') → Grew w0 W B vx v l → Grew w0 W' B vx v l :=
  fun _ _ _ hs h => hs.elim (fun hx => h.keep hx) fun hz => absurd rfl hz.1
theorem fb_stable {w0 : World} {B : Nat} {v0 : Value} {l0 l : List UInt8} (h0 : FB w0 B v0 l0) {i k : Nat} : ∀ v W W', (Ext W W' ∨ i ≠ k ∧ W.grownBy W' v0.ownBlock) → FB W w0.heap.size v l → FB W' w0.heap.size v l :=
  fun _ _ _ hs h => hs.elim (fun hx => h.keep hx) fun hz => h.fresh_kept h0 hz.2
theorem stepk_z {X Z : World → World → Prop} {k : Nat} {W W' : World} (h : Z W W') : StepK X Z k k W W' := by unfold StepK; rw [if_pos rfl]; exact h
theorem stepk_x {X Z : World → World → Prop} {k i : Nat} {W W' : World} (h : X W W') (hi : i ≠ k) : StepK X Z k i W W' := by unfold StepK; rw [if_neg hi]; exact h
theorem run_grows {P : Program} {t : TypeId} (hT : RowT P t 5 (.int .u8 0) 1 1) {o : Oper} {a : Act} {x y : Operand} (ho : o.op = .call { callee := .builtin .append, args := #[x, y], argTypes := #[t, t] })
    {w0 W : World} {B : Nat} {vx vy : Value} {l m : List UInt8} (ex : a.eval x = vx) (ey : a.eval y = vy) (h0 : FB w0 B vx l) (hx : Ext w0 W) (hy : BV W vy m) (hlen : l.length + m.length ≤ 140737488355328) (hB : B ≤ w0.heap.size) :
    ∃ v W', (execOp a.eval o).run P W = .ok (.value v) W' ∧ W.grownBy W' vx.ownBlock ∧ Grew w0 W' B vx v (l ++ m) := by
  subst ex; subst ey
  obtain ⟨v', w', hr, h1, h2, h3⟩ := run_append_bytes hT ho (h0.keep hx) hy hlen (Nat.le_trans hB hx.size)
  refine ⟨v', w', hr, h2, h1, (hx.grownBy _).trans h2, ?_⟩
  rcases h3 with h3 | h3
  · exact .inl h3
  · exact .inr ⟨_, h3, hx.size⟩
theorem FB.cut0 {w : World} {B : Nat} {p : Option Addr} {n c : Nat} {l : List UInt8} (h : FB w B (.slice p n c) l) : FB w B (.slice p 0 c) [] := by
  refine ⟨by simp [bs], ?_⟩
  rcases h.2 with ⟨e, hn⟩ | ⟨g, cap, cur, e, hb, hg, hnc, hcm, hcs, ht⟩
  · cases e; exact .inl ⟨rfl, rfl⟩
  · cases e
    exact .inr ⟨g, c, cur, rfl, hb, hg, Nat.zero_le _, hcm, hcs, by simp [bs]⟩
end Go.Proofs.Ytpejdompanhieaa
