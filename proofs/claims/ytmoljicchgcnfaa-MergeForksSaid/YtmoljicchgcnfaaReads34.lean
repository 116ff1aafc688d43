/- How the arguments of layer 34's statements are read: pairs of items, rows of rows of batches. -/
import Derived.Test.YtmoljicchgcnfaaMgI
namespace Go.Proofs.Ytmoljicchgcnfaa
open Go.RowKit Go.ChangeShapes Go.WideShapes

theorem okWide_array {P : Program} {w : World} {r : Reach} {base : Nat} {t e : TypeId} {n : Nat} {v : Value} (ht : P.underlying t = some (.array n e)) (h : Value.okWide P w r base t v) : ∃ cs, v = .agg cs ∧ cs.size = P.cellsOf t := by
  unfold Value.okWide at h
  rw [ht] at h
  obtain ⟨cs, h1, h2, _⟩ := h
  exact ⟨cs, h1, h2⟩
theorem itm_struct : ∃ f0 f1 f2 f3 : Field, Try.prog.underlying 26 = some (.struct #[f0, f1, f2, f3]) ∧ (f0.type = 3 ∧ f0.offset = 0) ∧ (f1.type = 3 ∧ f1.offset = 1) ∧ (f2.type = 3 ∧ f2.offset = 2) ∧ (f3.type = 24 ∧ f3.offset = 3) :=
  ⟨_, _, _, _, Try.underlying26, ⟨rfl, rfl⟩, ⟨rfl, rfl⟩, ⟨rfl, rfl⟩, ⟨rfl, rfl⟩⟩
theorem T.itmN : Try.prog.cellsOf 26 = 9 := by kernel_rfl
theorem T.pairN : Try.prog.cellsOf 27 = 18 := by kernel_rfl
section
variable {H : Type} {enc : TypeId × Value → H} {W : World} {held : Bool}
theorem reads_itm : Reads enc Try.prog W held 26 9 RItm := fun n cs y h => by
  obtain ⟨f0, f1, f2, f3, hs, ⟨t0, o0⟩, ⟨t1, o1⟩, ⟨t2, o2⟩, ⟨t3, o3⟩⟩ := itm_struct
  obtain ⟨xs, m, _, rfl, hl, hlen, hf⟩ := DataW.trod_struct hs h
  rw [T.itmN] at hl
  match cs, hl, xs, hlen with
  | [u0, u1, u2, u3, u4, u5, u6, u7, u8], _, [y0, y1, y2, y3], _ =>
  have r0 := hf 0 f0 rfl
  have r1 := hf 1 f1 rfl
  have r2 := hf 2 f2 rfl
  have r3 := hf 3 f3 rfl
  rw [t0, o0, T.intN] at r0
  rw [t1, o1, T.intN] at r1
  rw [t2, o2, T.intN] at r2
  rw [t3, o3, T.recN] at r3
  obtain ⟨_, ⟨x0, e0, _⟩, _⟩ := reads_int Try.underlying3 _ _ _ r0
  obtain ⟨_, ⟨x1, e1, _⟩, _⟩ := reads_int Try.underlying3 _ _ _ r1
  obtain ⟨_, ⟨x2, e2, _⟩, _⟩ := reads_int Try.underlying3 _ _ _ r2
  obtain ⟨_, ⟨x3, e3, _, _⟩, _⟩ := reads_rec _ _ _ r3
  simp at e0 e1 e2
  have e3' : [u3, u4, u5, u6, u7, u8] = recCells x3 := e3
  unfold recCells at e3'
  simp only [List.cons.injEq, and_true] at e3'
  obtain ⟨q0, q1, q2, q3, q4, q5⟩ := e3'
  subst e0; subst e1; subst e2; subst q0; subst q1; subst q2; subst q3; subst q4; subst q5
  refine ⟨rfl, ⟨⟨x0, x1, x2, x3⟩, rfl⟩, fun u hu => ?_⟩
  simp only [List.mem_cons, List.not_mem_nil, or_false] at hu
  rcases hu with rfl | rfl | rfl | rfl | rfl | rfl | rfl | rfl | rfl <;> rfl
theorem open_pair {cs : Array Value} {d : DataW H} {ps : List MemPlace} (h : DataW.Trod enc Try.prog W 0 (fun _ => true) held 27 (.agg cs) d ps) : ∃ x y : Itm, cs = (itmCells x ++ itmCells y).toArray := by
  obtain ⟨fuel, hf⟩ := h
  obtain ⟨xs, m, _, _, hl, hlen, hel⟩ := DataW.trod_array Try.underlying27 hf
  rw [T.pairN] at hl
  simp only [Value.cells] at hl hel
  match xs, hlen with
  | [y0, y1], _ =>
  have r0 := hel 0 (by omega)
  have r1 := hel 1 (by omega)
  rw [T.itmN] at r0 r1
  obtain ⟨_, ⟨x, e0⟩, _⟩ := reads_itm _ _ _ r0
  obtain ⟨_, ⟨y, e1⟩, _⟩ := reads_itm _ _ _ r1
  unfold RItm at e0 e1
  refine ⟨x, y, Array.toList_inj.1 ?_⟩
  rw [← e0, ← e1]
  simp only [Nat.zero_mul, List.drop_zero, Nat.one_mul]
  have h2 : (cs.toList.drop 9).take 9 = cs.toList.drop 9 := List.take_of_length_le (by rw [List.length_drop, hl]; exact Nat.le_refl _)
  rw [h2, List.take_append_drop]
theorem open_batls {a : Option Addr} {n c : Nat} {d : DataW H} {ps : List MemPlace} (h : DataW.Trod enc Try.prog W 0 (fun _ => true) held 29 (.slice a n c) d ps) : ∃ l, BatsV W (.slice a n c) l := by
  obtain ⟨fuel, hf⟩ := h
  obtain ⟨v, l, e, hv⟩ := open_row (R := RBats) Try.underlying29 T.batsN (by decide) RBats.keeps (fun n cs y hy _ => by
    obtain ⟨v, l, e, hv⟩ := reads_bats hy
    exact ⟨⟨l, v, e, hv⟩, fun u hu => by rw [e, List.mem_singleton] at hu; subst hu; exact hv.slice1⟩) hf
  simp [Value.cells] at e
  subst e
  exact ⟨l, hv⟩
end
end Go.Proofs.Ytmoljicchgcnfaa
