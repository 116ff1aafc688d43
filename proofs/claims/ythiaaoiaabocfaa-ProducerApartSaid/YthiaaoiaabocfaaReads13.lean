/- How the arguments of layer 13's statements are read: tables, batches. -/
import Derived.Test.YthiaaoiaabocfaaPrR
namespace Go.Proofs.Ythiaaoiaabocfaa
open Go.RowKit Go.ChangeShapes Go.WideShapes

theorem rsn_struct : ∃ f0 f1 f2 : Field, Try.prog.underlying 68 = some (.struct #[f0, f1, f2]) ∧ (f0.type = 3 ∧ f0.offset = 0) ∧ (f1.type = 3 ∧ f1.offset = 1) ∧ (f2.type = 3 ∧ f2.offset = 2) :=
  ⟨_, _, _, Try.underlying68, ⟨rfl, rfl⟩, ⟨rfl, rfl⟩, ⟨rfl, rfl⟩⟩
theorem rent_struct : ∃ f0 f1 f2 : Field, Try.prog.underlying 48 = some (.struct #[f0, f1, f2]) ∧ (f0.type = 3 ∧ f0.offset = 0) ∧ (f1.type = 3 ∧ f1.offset = 1) ∧ (f2.type = 46 ∧ f2.offset = 2) :=
  ⟨_, _, _, Try.underlying48, ⟨rfl, rfl⟩, ⟨rfl, rfl⟩, ⟨rfl, rfl⟩⟩
theorem rtab_struct : ∃ f0 : Field, Try.prog.underlying 24 = some (.struct #[f0]) ∧ (f0.type = 22 ∧ f0.offset = 0) :=
  ⟨_, Try.underlying24, ⟨rfl, rfl⟩⟩
theorem T.rsnN : Try.prog.cellsOf 68 = 3 := by kernel_rfl
theorem T.rentN : Try.prog.cellsOf 48 = 3 := by kernel_rfl
theorem T.rtabN : Try.prog.cellsOf 24 = 1 := by kernel_rfl
theorem T.rsnsN : Try.prog.cellsOf 46 = 1 := by kernel_rfl
theorem T.rentsN : Try.prog.cellsOf 22 = 1 := by kernel_rfl
section
variable {H : Type} {enc : TypeId × Value → H} {W : World} {held : Bool}
theorem reads_rsn : Reads enc Try.prog W held 68 3 RSn := fun n cs y h => by
  obtain ⟨f0, f1, f2, hs, ⟨t0, o0⟩, ⟨t1, o1⟩, ⟨t2, o2⟩⟩ := rsn_struct
  obtain ⟨xs, m, _, rfl, hl, hlen, hf⟩ := DataW.trod_struct hs h
  rw [T.rsnN] at hl
  match cs, hl, xs, hlen with
  | [u0, u1, u2], _, [y0, y1, y2], _ =>
  have r0 := hf 0 f0 rfl
  have r1 := hf 1 f1 rfl
  have r2 := hf 2 f2 rfl
  rw [t0, o0, T.intN] at r0
  rw [t1, o1, T.intN] at r1
  rw [t2, o2, T.intN] at r2
  obtain ⟨_, ⟨x0, e0, _⟩, _⟩ := reads_int Try.underlying3 _ _ _ r0
  obtain ⟨_, ⟨x1, e1, _⟩, _⟩ := reads_int Try.underlying3 _ _ _ r1
  obtain ⟨_, ⟨x2, e2, _⟩, _⟩ := reads_int Try.underlying3 _ _ _ r2
  simp at e0 e1 e2
  subst e0; subst e1; subst e2
  refine ⟨rfl, ⟨⟨x0, x1, x2⟩, rfl⟩, fun u hu => ?_⟩
  simp only [List.mem_cons, List.not_mem_nil, or_false] at hu
  rcases hu with rfl | rfl | rfl <;> rfl
theorem reads_rsns {n : Nat} {cs : List Value} {y : DataW H × List MemPlace} (h : DataW.trod enc Try.prog W 0 (fun _ => true) held n 46 cs = some y) : ∃ v l, cs = [v] ∧ SnV W v l :=
  open_row (R := RSn) Try.underlying46 T.rsnN (by decide) RSn.keeps (fun n cs y hy _ => (reads_rsn n cs y hy).2) h
theorem reads_rent : Reads enc Try.prog W held 48 3 REnt := fun n cs y h => by
  obtain ⟨f0, f1, f2, hs, ⟨t0, o0⟩, ⟨t1, o1⟩, ⟨t2, o2⟩⟩ := rent_struct
  obtain ⟨xs, m, _, rfl, hl, hlen, hf⟩ := DataW.trod_struct hs h
  rw [T.rentN] at hl
  match cs, hl, xs, hlen with
  | [u0, u1, u2], _, [y0, y1, y2], _ =>
  have r0 := hf 0 f0 rfl
  have r1 := hf 1 f1 rfl
  have r2 := hf 2 f2 rfl
  rw [t0, o0, T.intN] at r0
  rw [t1, o1, T.intN] at r1
  rw [t2, o2, T.rsnsN] at r2
  obtain ⟨_, ⟨x0, e0, _⟩, _⟩ := reads_int Try.underlying3 _ _ _ r0
  obtain ⟨_, ⟨x1, e1, _⟩, _⟩ := reads_int Try.underlying3 _ _ _ r1
  obtain ⟨v, l, e2, hv⟩ := reads_rsns r2
  simp at e0 e1 e2
  subst e0; subst e1; subst e2
  refine ⟨rfl, ⟨⟨x0, x1, l⟩, u2, rfl, hv⟩, fun u hu => ?_⟩
  simp only [List.mem_cons, List.not_mem_nil, or_false] at hu
  rcases hu with rfl | rfl | rfl
  · rfl
  · rfl
  · exact hv.slice1
theorem open_table {cs : Array Value} {d : DataW H} {ps : List MemPlace} (h : DataW.Trod enc Try.prog W 0 (fun _ => true) held 24 (.agg cs) d ps) : ∃ (v : Value) (t : List Ent), cs = #[v] ∧ TabV W v t := by
  obtain ⟨fuel, hf⟩ := h
  obtain ⟨f0, hs, ⟨t0, o0⟩⟩ := rtab_struct
  obtain ⟨xs, m, _, _, hl, hlen, hf⟩ := DataW.trod_struct hs hf
  rw [T.rtabN] at hl
  simp only [Value.cells] at hl hf
  match xs, hlen with
  | [y0], _ =>
  have r0 := hf 0 f0 rfl
  rw [t0, o0, T.rentsN] at r0
  obtain ⟨v, t, e, hv⟩ := open_row (R := REnt) Try.underlying22 T.rentN (by decide) REnt.keeps (fun n cs y hy _ => (reads_rent n cs y hy).2) r0
  refine ⟨v, t, Array.toList_inj.1 ?_, hv⟩
  rw [List.drop_zero, List.take_of_length_le (by rw [hl]; exact Nat.le_refl _)] at e
  exact e
theorem open_bat {cs : Array Value} {d : DataW H} {ps : List MemPlace} (h : DataW.Trod enc Try.prog W 0 (fun _ => true) held 27 (.agg cs) d ps) : ∃ (b : Bat) (v : Value), cs = #[.int .i64 b.base, .int .i64 b.count, .int .i64 b.prod, .int .i64 b.epoch, .int .i64 b.seq, v] ∧ RecV W v b.recs := by
  obtain ⟨fuel, hf⟩ := h
  obtain ⟨_, ⟨b, v, e, hv⟩, _⟩ := reads_bat _ _ _ hf
  refine ⟨b, v, Array.toList_inj.1 ?_, hv⟩
  simp only [Value.cells] at e
  exact e
end
end Go.Proofs.Ythiaaoiaabocfaa
