/- How the arguments of layer 21's statements are read: commits, rows of them, records, batches. -/
import Derived.Test.YtdklpenpmeplfaaCmR
namespace Go.Proofs.Ytdklpenpmeplfaa
open Go.RowKit Go.ChangeShapes Go.WideShapes

theorem rcm_struct : ∃ f0 f1 f2 f3 : Field, Try.prog.underlying 23 = some (.struct #[f0, f1, f2, f3]) ∧ (f0.type = 9 ∧ f0.offset = 0) ∧ (f1.type = 9 ∧ f1.offset = 1) ∧ (f2.type = 3 ∧ f2.offset = 2) ∧ (f3.type = 3 ∧ f3.offset = 3) :=
  ⟨_, _, _, _, Try.underlying23, ⟨rfl, rfl⟩, ⟨rfl, rfl⟩, ⟨rfl, rfl⟩, ⟨rfl, rfl⟩⟩
theorem T.rcmN : Try.prog.cellsOf 23 = 4 := by kernel_rfl
section
variable {H : Type} {enc : TypeId × Value → H} {W : World} {held : Bool}
set_option maxRecDepth 20000 in
theorem reads_rcm : Reads enc Try.prog W held 23 4 RCm := fun n cs y h => by
  obtain ⟨f0, f1, f2, f3, hs, ⟨t0, o0⟩, ⟨t1, o1⟩, ⟨t2, o2⟩, ⟨t3, o3⟩⟩ := rcm_struct
  obtain ⟨xs, m, _, rfl, hl, hlen, hf⟩ := DataW.trod_struct hs h
  rw [T.rcmN] at hl
  match cs, hl, xs, hlen with
  | [u0, u1, u2, u3], _, [y0, y1, y2, y3], _ =>
  have r0 := hf 0 f0 rfl
  have r1 := hf 1 f1 rfl
  have r2 := hf 2 f2 rfl
  have r3 := hf 3 f3 rfl
  rw [t0, o0, T.strN] at r0
  rw [t1, o1, T.strN] at r1
  rw [t2, o2, T.intN] at r2
  rw [t3, o3, T.intN] at r3
  obtain ⟨_, ⟨x0, e0, _⟩, _⟩ := reads_string Try.underlying9 _ _ _ r0
  obtain ⟨_, ⟨x1, e1, _⟩, _⟩ := reads_string Try.underlying9 _ _ _ r1
  obtain ⟨_, ⟨x2, e2, _⟩, _⟩ := reads_int Try.underlying3 _ _ _ r2
  obtain ⟨_, ⟨x3, e3, _⟩, _⟩ := reads_int Try.underlying3 _ _ _ r3
  simp at e0 e1 e2 e3
  subst e0; subst e1; subst e2; subst e3
  refine ⟨rfl, ⟨⟨x0, x1, x2, x3⟩, rfl⟩, fun u hu => ?_⟩
  simp only [List.mem_cons, List.not_mem_nil, or_false] at hu
  rcases hu with rfl | rfl | rfl | rfl <;> rfl
theorem open_cm {cs : Array Value} {d : DataW H} {ps : List MemPlace} (h : DataW.Trod enc Try.prog W 0 (fun _ => true) held 23 (.agg cs) d ps) : ∃ c : Cm, cs = #[.string ⟨c.group.toArray⟩, .string ⟨c.topic.toArray⟩, .int .i64 c.index, .int .i64 c.offset] := by
  obtain ⟨fuel, hf⟩ := h
  obtain ⟨_, ⟨c, e⟩, _⟩ := reads_rcm _ _ _ hf
  refine ⟨c, Array.toList_inj.1 ?_⟩
  simp only [Value.cells] at e
  exact e
theorem open_rec {cs : Array Value} {d : DataW H} {ps : List MemPlace} (h : DataW.Trod enc Try.prog W 0 (fun _ => true) held 25 (.agg cs) d ps) : ∃ r : Rec, cs = #[.int .i64 r.delta, .int .i64 r.time, .bool r.keyed, .string ⟨r.key.toArray⟩, .bool r.dead, .string ⟨r.value.toArray⟩] := by
  obtain ⟨fuel, hf⟩ := h
  obtain ⟨_, ⟨c, e, _, _⟩, _⟩ := reads_rec _ _ _ hf
  refine ⟨c, Array.toList_inj.1 ?_⟩
  simp only [Value.cells] at e
  exact e
theorem open_cms {a : Option Addr} {n c : Nat} {d : DataW H} {ps : List MemPlace} (h : DataW.Trod enc Try.prog W 0 (fun _ => true) held 27 (.slice a n c) d ps) : ∃ l, CmV W (.slice a n c) l := by
  obtain ⟨fuel, hf⟩ := h
  obtain ⟨v, l, e, hv⟩ := open_row (R := RCm) Try.underlying27 T.rcmN (by decide) RCm.keeps (fun n cs y hy _ => (reads_rcm n cs y hy).2) hf
  simp [Value.cells] at e
  subst e
  exact ⟨l, hv⟩
theorem open_bat {cs : Array Value} {d : DataW H} {ps : List MemPlace} (h : DataW.Trod enc Try.prog W 0 (fun _ => true) held 46 (.agg cs) d ps) : ∃ (b : Bat) (v : Value), cs = #[.int .i64 b.base, .int .i64 b.count, .int .i64 b.prod, .int .i64 b.epoch, .int .i64 b.seq, v] ∧ RecV W v b.recs := by
  obtain ⟨fuel, hf⟩ := h
  obtain ⟨_, ⟨b, v, e, hv⟩, _⟩ := reads_bat _ _ _ hf
  refine ⟨b, v, Array.toList_inj.1 ?_, hv⟩
  simp only [Value.cells] at e
  exact e
end
end Go.Proofs.Ytdklpenpmeplfaa
