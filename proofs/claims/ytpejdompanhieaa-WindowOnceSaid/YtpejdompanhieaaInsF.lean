/- Rows of things that are made and grown in regions that draw their order. -/
import Derived.Test.YtpejdompanhieaaIns
namespace Go.Proofs.Ytpejdompanhieaa
open Go.RowKit

section
variable {α : Type} {e sz : Nat} {R : World → List Value → α → Prop}
theorem ORow.resT (T : Nat → Prop) (n : Nat) (xs : List α) : Res n (fun v W => ORow e sz R (fun k => T k ∧ k < n) W n v xs) :=
  ⟨fun v W W' h k => by
    have ho := h.own_eq
    obtain ⟨css, h1, h2, h3⟩ := h
    refine ⟨css, h1, ⟨h2.1, ?_⟩, h3.later (k.mono fun _ _ hh => .inl hh.1.2) fun _ _ hh => hh⟩
    rcases h2.2 with hn | ⟨g, cap, cur, rfl, hb, hg, r⟩
    · exact .inl hn
    · exact .inr ⟨g, cap, cur, rfl, hb, by rw [k.2 g (Array.getElem?_eq_some_iff.1 hg).1 (.inr rfl)]; exact hg, r⟩, fun v W k h e => h.own k (by rw [← h.own_eq]; exact e)⟩
variable {P : Program} {t : TypeId} {z : Value} {bytes : Nat}
/-- 'append(x, y...)': a row of the region's own grows. -/
theorem fapp_items (hT : RowT P t e z sz bytes) {o : Oper} {a : Act} {x y : Operand} (ho : o.op = .call { callee := .builtin .append, args := #[x, y], argTypes := #[t, t] })
    {T : Nat → Prop} {W : World} {n : Nat} {vx vy : Value} {xs ys : List α} (ex : a.eval x = vx) (ey : a.eval y = vy) (hx : ORow e sz R (fun k => T k ∧ k < n) W n vx xs) (hy : SRow sz R (fun k => T k ∧ k < n) W vy ys) (h63 : xs.length + ys.length ≤ maxLen) (hby : (xs.length + ys.length) * bytes ≤ 140737488355328) (hB : n ≤ W.heap.size) :
    ∃ v W', (execOp a.eval o).run P W = .ok (.value v) W' ∧ W.grownBy W' (ownOf vx) ∧ ORow e sz R (fun k => T k ∧ k < n) W' n v (xs ++ ys) ∧ (ownOf v = ownOf vx ∨ ∀ k, ownOf v = some k → W.heap.size ≤ k) := by
  obtain ⟨v', w', hr, h1, h2, h3⟩ := run_append_items hT o.type hx (hy.mono fun k _ hk => ⟨hk, fun e => by have := (hx.own k e.symm).1; omega⟩) h63 hby hB
  refine ⟨v', w', run_op_append ho ex ey hr, by rw [hx.own_eq]; exact h2, h1, ?_⟩
  rw [h1.own_eq, hx.own_eq]
  exact h3.imp (fun e => e) fun e k hk => by rw [e] at hk; cases hk; exact Nat.le_refl _
/-- 'append(nil, y...)': a row is made. -/
theorem frow_items (hT : RowT P t e z sz bytes) {o : Oper} {a : Act} {x y : Operand} (ho : o.op = .call { callee := .builtin .append, args := #[x, y], argTypes := #[t, t] })
    {T : Nat → Prop} {W : World} {n : Nat} {vy : Value} {ys : List α} (ex : a.eval x = .slice none 0 0) (ey : a.eval y = vy) (hy : SRow sz R (fun k => T k ∧ k < n) W vy ys) (h63 : ys.length ≤ maxLen) (hby : ys.length * bytes ≤ 140737488355328) (hB : n ≤ W.heap.size) :
    ∃ v W', (execOp a.eval o).run P W = .ok (.value v) W' ∧ Ext W W' ∧ ORow e sz R (fun k => T k ∧ k < n) W' n v ys ∧ ∀ k, ownOf v = some k → W.heap.size ≤ k := by
  obtain ⟨v', w', hr, h1, h2, h3⟩ := run_append_items hT o.type (ORow.nil (e := e) (sz := sz) (R := R) (fun k => T k ∧ k < n) W n) (hy.mono fun k _ hk => ⟨hk, fun e => by cases e⟩) (by simpa using h63) (by simpa using hby) hB
  refine ⟨v', w', run_op_append ho ex ey hr, (Below.refl W.heap.size W).grown h2 (Nat.le_refl _) (fun _ h => by cases h), by simpa using h1, ?_⟩
  rw [h1.own_eq]
  intro k hk
  rcases h3 with h3 | h3
  · rw [h3] at hk; cases hk
  · rw [h3] at hk; cases hk; exact Nat.le_refl _
/-- A literal row of one element. -/
theorem frow_lit1 {o : Oper} {a : Act} {T : Nat → Prop} {W : World} {n : Nat} {cs : List Value} {x : α} (h1 : cs.length = sz) (h2 : ∀ u ∈ cs, u.oneCell' = true) (h : Under (fun k => T k ∧ k < n) (fun w' => R w' cs x) W) (hB : n ≤ W.heap.size)
    (hr : (execOp a.eval o).run P W = .ok (.value (.slice (some ⟨W.heap.size, 0, none⟩) 1 1)) (W.alloc (.cells cs.toArray e))) :
    ∃ v W', (execOp a.eval o).run P W = .ok (.value v) W' ∧ Ext W W' ∧ ORow e sz R (fun k => T k ∧ k < n) W' n v [x] ∧ ∀ k, ownOf v = some k → W.heap.size ≤ k := by
  refine ⟨_, _, hr, Ext.alloc _ _, ⟨[cs], fun c hc => by rw [List.mem_singleton] at hc; subst hc; exact ⟨h1, h2⟩, ?_, ?_⟩, fun k hk => by have e : W.heap.size = k := Option.some.inj hk; omega⟩
  · refine ⟨by simp [h1], .inr ⟨W.heap.size, 1, cs.toArray, rfl, hB, heap_alloc_new W _, Nat.le_refl _, by simp [maxLen], by simp [h1], ?_⟩⟩
    simp [← h1]
  · exact Items.later (S := fun k => T k ∧ k < n) (Items.one h) ((Ext.alloc W _).keeps _) fun k hk hs => ⟨hs, fun e => by have e2 : k = W.heap.size := Option.some.inj e; omega⟩
end
def w_set (W : World) (g : Nat) (vs : List Value) : World := W.setRow g vs.toArray
/-- A box of the region's own is written over. -/
theorem fupd_store {P : Program} {o : Oper} {a : Act} {x y : Operand} {ty t : TypeId} {W : World} {n : Nat} {vj : Value} {cs vs : List Value} (ho : o.op = .store ty x y) (ex : a.eval x = vj) (ey : a.eval y = .agg vs.toArray) (hi : (P.info? ty).map (·.size) = some vs.length) (hl : cs.length = vs.length) (h1 : ∀ v ∈ vs, v.oneCell' = true)
    (h : ∃ g, vj = .pointer (some ⟨g, 0, none⟩) ∧ n ≤ g ∧ ObjAt W g t cs) :
    ∃ W', (execOp a.eval o).run P W = .ok .skip W' ∧ W.grownBy W' (ownOf vj) ∧ ∃ g, vj = .pointer (some ⟨g, 0, none⟩) ∧ n ≤ g ∧ ObjAt W' g t vs := by
  obtain ⟨g, rfl, hn, hg⟩ := h
  have hr := run_store_put (P := P) (o := 0) hg hi (by omega) h1
  have e : putIn cs 0 vs = vs := by unfold putIn; rw [List.drop_eq_nil_of_le (by omega)]; simp
  rw [e] at hr
  refine ⟨w_set W g vs, ?_, ?_, g, rfl, hn, setRow_heap W g cs.toArray _ t (0, 0) hg⟩
  · simp [execOp, ho, ex, ey, Instr.storeAt, Instr.sureAddr, hr, Result.andThen, w_set]
  · exact ⟨rfl, rfl, rfl, by simp [w_set, World.setRow], fun k _ hk => setRow_other W g k _ (fun e => hk (by rw [e]; rfl))⟩
end Go.Proofs.Ytpejdompanhieaa
