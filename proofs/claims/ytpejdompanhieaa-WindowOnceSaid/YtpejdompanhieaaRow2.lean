/- Rows that grow: the row as it stood ahead of it is read as before. -/
import Derived.Test.YtpejdompanhieaaRow
import Derived.ArgAppend
namespace Go.Proofs.Ytpejdompanhieaa
open Go.RowKit

section
variable {α : Type} {sz : Nat} {R : World → List Value → α → Prop}
theorem SRow.front {S : Nat → Prop} {w : World} {p : Option Addr} {n c n' c' : Nat} {xs ys : List α} (h : SRow sz R S w (.slice p n' c') (xs ++ ys)) (hn : n = xs.length) (hc : n ≤ c) (hcc : c ≤ c') : SRow sz R S w (.slice p n c) xs := by
  subst hn
  have := h.take (k := xs.length) (c' := c) (by simp) hc hcc
  simpa using this
theorem run_append_items_old {P : Program} {t e : TypeId} {z : Value} {bytes : Nat} (hT : RowT P t e z sz bytes) (ty : TypeId) {S : Nat → Prop} {w : World} {B : Nat} {vx vy : Value} {xs ys : List α} (hx : ORow e sz R S w B vx xs) (hy : SRow sz R (fun k => S k ∧ some k ≠ vx.ownBlock) w vy ys)
    (h63 : xs.length + ys.length ≤ maxLen) (hby : (xs.length + ys.length) * bytes ≤ 140737488355328) (hB : B ≤ w.heap.size) (hpos : 0 < ys.length) :
    ∃ v' w', (Builtin.append_ #[t, t] ty #[vx, vy]).run P w = .ok v' w' ∧ ORow e sz R S w' B v' (xs ++ ys) ∧ w.grownBy w' vx.ownBlock ∧ (v'.ownBlock = vx.ownBlock ∨ v'.ownBlock = some w.heap.size) ∧
      SRow sz R (fun k => S k ∧ some k ≠ vx.ownBlock) w' vx xs := by
  obtain ⟨v', w', hr, h1, h2, h3⟩ := run_append_items hT ty hx hy h63 hby hB
  refine ⟨v', w', hr, h1, h2, h3, ?_⟩
  obtain ⟨i, hi, hz, hs, hb⟩ := hT.info
  have hview := hx.view
  obtain ⟨css, k1, k2, k3⟩ := hx
  obtain ⟨cys, p, c, l1, rfl, l3, l4, l5, l6⟩ := hy
  have hcy : cys.flatten.length = ys.length * sz := by rw [chunks_length l1]; exact congrArg (· * sz) l6.1
  have hcx : css.flatten.length = xs.length * sz := by rw [chunks_length k1]; exact congrArg (· * sz) k3.1
  have hm : 0 < ys.length * sz := Nat.mul_pos hpos hT.pos
  obtain ⟨b, o, rfl, hcell⟩ := l5 (by intro e; rw [e, List.length_nil] at hcy; omega)
  have hnews : ∀ j u, cys.flatten[j]? = some u → w.cell? ((⟨b, o, none⟩ : Addr).add j) = some u := fun j u hu => by rw [add_lit]; exact hcell j u hu
  rcases k2.2 with ⟨rfl, hn⟩ | ⟨g, cap, cur, rfl, hg0, hg, hnc, hcm, hcs, htk⟩
  · have : xs = [] := List.eq_nil_of_length_eq_zero hn
    subst this
    exact SRow.nil _ _
  · by_cases hroom : xs.length + ys.length ≤ cap
    · have hr2 := run_append_room (P := P) w t ty e i hT.und hi g xs.length cap cur hg ⟨b, o, none⟩ ys.length c cys.flatten (by rw [hs]; exact hcy) hnews (chunks_one l1) hroom
        (by rw [hs, hcy, hcs, ← Nat.add_mul]; exact Nat.mul_le_mul_right _ hroom)
      rw [hr] at hr2
      injection hr2 with e1 e2
      subst e1; subst e2
      exact h1.view.front rfl hnc (Nat.le_refl _)
    · obtain ⟨v2, w2, hr2, _, hg2⟩ := run_append_arg_grows (P := P) w t ty e i z sz bytes hT.und hi hz hs hb hT.zs hT.pos ⟨g, 0, none⟩ xs.length cap css.flatten hcx
        (fun j u hu => World.ownsRow.cells k2 (g := g) rfl j u hu) ⟨b, o, none⟩ ys.length c cys.flatten hcy hnews (by omega) h63 hby
      rw [hr] at hr2
      injection hr2 with e1 e2
      subst e1; subst e2
      exact hview.ext ((Below.refl w.heap.size w).grown hg2 (Nat.le_refl _) (fun _ h => by cases h))
end
section
variable {P : Program} {t e : TypeId} {z : Value} {sz bytes : Nat} {ops : Array Oper} {Q : Exit → Act → World → Prop} {rest : List Oper} {a : Act} {w : World} {dst : Option Tmp} {ty : TypeId} {pos : String} {after : Array Edge} {guard : Option (Nat × Bool)}
theorem st_items_old {α : Type} {R : World → List Value → α → Prop} (hT : RowT P t e z sz bytes) {S : Nat → Prop} {x y : Operand} {vx vy : Value} {B : Nat} {xs ys : List α} (hx : ORow e sz R S w B vx xs) (hy : SRow sz R (fun k => S k ∧ some k ≠ vx.ownBlock) w vy ys)
    (h : ∀ v' w', ORow e sz R S w' B v' (xs ++ ys) → w.grownBy w' vx.ownBlock → (v'.ownBlock = vx.ownBlock ∨ v'.ownBlock = some w.heap.size) → SRow sz R (fun k => S k ∧ some k ≠ vx.ownBlock) w' vx xs → wpList P ops Q rest (a.put dst v') w')
    (h63 : xs.length + ys.length ≤ maxLen) (hby : (xs.length + ys.length) * bytes ≤ 140737488355328) (hB : B ≤ w.heap.size) (hpos : 0 < ys.length)
    (hg : Region.wanted ⟨dst, .call { callee := .builtin .append, args := #[x, y], argTypes := #[t, t] }, ty, pos, after, guard⟩ (yielded ops a.tmps) = true := by exact rfl) (ex : a.eval x = vx := by exact rfl) (ey : a.eval y = vy := by exact rfl) :
    wpList P ops Q (⟨dst, .call { callee := .builtin .append, args := #[x, y], argTypes := #[t, t] }, ty, pos, after, guard⟩ :: rest) a w := by
  obtain ⟨v', w', hr, h1, h2, h3, h4⟩ := run_append_items_old hT ty hx hy h63 hby hB hpos
  exact wpList_run hg (run_op_append rfl ex ey hr) (h v' w' h1 h2 h3 h4)
end
end Go.Proofs.Ytpejdompanhieaa
