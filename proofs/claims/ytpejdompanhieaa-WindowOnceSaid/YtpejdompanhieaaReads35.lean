/- How the arguments of layer 35's statements are read: sums, states, numbers that are fed. -/
import Derived.Test.YtpejdompanhieaaReads2
import Derived.Test.YtpejdompanhieaaWnR
import Derived.Test.YtpejdompanhieaaLaw35
namespace Go.Proofs.Ytpejdompanhieaa
open Go.RowKit Go.ChangeShapes Go.WideShapes

theorem rsm_struct : ∃ f0 f1 f2 f3 f4 f5 : Field, Try.prog.underlying 69 = some (.struct #[f0, f1, f2, f3, f4, f5]) ∧ (f0.type = 3 ∧ f0.offset = 0) ∧ (f1.type = 9 ∧ f1.offset = 1) ∧ (f2.type = 3 ∧ f2.offset = 2) ∧ (f3.type = 3 ∧ f3.offset = 3) ∧ (f4.type = 3 ∧ f4.offset = 4) ∧ (f5.type = 3 ∧ f5.offset = 5) :=
  ⟨_, _, _, _, _, _, Try.underlying69, ⟨rfl, rfl⟩, ⟨rfl, rfl⟩, ⟨rfl, rfl⟩, ⟨rfl, rfl⟩, ⟨rfl, rfl⟩, ⟨rfl, rfl⟩⟩
theorem rst_struct : ∃ f0 f1 f2 f3 f4 : Field, Try.prog.underlying 24 = some (.struct #[f0, f1, f2, f3, f4]) ∧ (f0.type = 3 ∧ f0.offset = 0) ∧ (f1.type = 3 ∧ f1.offset = 1) ∧ (f2.type = 3 ∧ f2.offset = 2) ∧ (f3.type = 3 ∧ f3.offset = 3) ∧ (f4.type = 22 ∧ f4.offset = 4) :=
  ⟨_, _, _, _, _, Try.underlying24, ⟨rfl, rfl⟩, ⟨rfl, rfl⟩, ⟨rfl, rfl⟩, ⟨rfl, rfl⟩, ⟨rfl, rfl⟩⟩
theorem fd_struct : ∃ f0 f1 f2 : Field, Try.prog.underlying 26 = some (.struct #[f0, f1, f2]) ∧ (f0.type = 9 ∧ f0.offset = 0) ∧ (f1.type = 3 ∧ f1.offset = 1) ∧ (f2.type = 3 ∧ f2.offset = 2) :=
  ⟨_, _, _, Try.underlying26, ⟨rfl, rfl⟩, ⟨rfl, rfl⟩, ⟨rfl, rfl⟩⟩
theorem T.rsmN : Try.prog.cellsOf 69 = 6 := by kernel_rfl
theorem T.rstN : Try.prog.cellsOf 24 = 5 := by kernel_rfl
theorem T.fdN : Try.prog.cellsOf 26 = 3 := by kernel_rfl
theorem T.intN : Try.prog.cellsOf 3 = 1 := by kernel_rfl
theorem T.strN : Try.prog.cellsOf 9 = 1 := by kernel_rfl
theorem T.rsmsN : Try.prog.cellsOf 22 = 1 := by kernel_rfl
/-- Three cells, that hold a number that is fed. -/
def RFd (_ : World) (cs : List Value) (x : Fd) : Prop := cs = fdCells x
theorem RFd.keeps : ∀ (w w' : World) (cs : List Value) (x : Fd), Keeps (fun _ => True) w w' → RFd w cs x → RFd w' cs x := fun _ _ _ _ _ h => h
abbrev FdV (w : World) (v : Value) (l : List Fd) : Prop := SRow 3 RFd (fun _ => True) w v l
/-- Five cells, that hold a state. -/
def RWt (w : World) (cs : List Value) (s : Wt) : Prop := ∃ v, cs = wtC s v ∧ SmV w v s.opn
section
variable {H : Type} {enc : TypeId × Value → H} {W : World} {held : Bool}
set_option maxRecDepth 20000 in
theorem reads_rsm : Reads enc Try.prog W held 69 6 RSm := fun n cs y h => by
  obtain ⟨f0, f1, f2, f3, f4, f5, hs, ⟨t0, o0⟩, ⟨t1, o1⟩, ⟨t2, o2⟩, ⟨t3, o3⟩, ⟨t4, o4⟩, ⟨t5, o5⟩⟩ := rsm_struct
  obtain ⟨xs, m, _, rfl, hl, hlen, hf⟩ := DataW.trod_struct hs h
  rw [T.rsmN] at hl
  match cs, hl, xs, hlen with
  | [u0, u1, u2, u3, u4, u5], _, [y0, y1, y2, y3, y4, y5], _ =>
  have r0 := hf 0 f0 rfl
  have r1 := hf 1 f1 rfl
  have r2 := hf 2 f2 rfl
  have r3 := hf 3 f3 rfl
  have r4 := hf 4 f4 rfl
  have r5 := hf 5 f5 rfl
  rw [t0, o0, T.intN] at r0
  rw [t1, o1, T.strN] at r1
  rw [t2, o2, T.intN] at r2
  rw [t3, o3, T.intN] at r3
  rw [t4, o4, T.intN] at r4
  rw [t5, o5, T.intN] at r5
  obtain ⟨_, ⟨x0, e0, _⟩, _⟩ := reads_int Try.underlying3 _ _ _ r0
  obtain ⟨_, ⟨x1, e1, _⟩, _⟩ := reads_string Try.underlying9 _ _ _ r1
  obtain ⟨_, ⟨x2, e2, _⟩, _⟩ := reads_int Try.underlying3 _ _ _ r2
  obtain ⟨_, ⟨x3, e3, _⟩, _⟩ := reads_int Try.underlying3 _ _ _ r3
  obtain ⟨_, ⟨x4, e4, _⟩, _⟩ := reads_int Try.underlying3 _ _ _ r4
  obtain ⟨_, ⟨x5, e5, _⟩, _⟩ := reads_int Try.underlying3 _ _ _ r5
  simp at e0 e1 e2 e3 e4 e5
  subst e0; subst e1; subst e2; subst e3; subst e4; subst e5
  refine ⟨rfl, ⟨⟨x0, x1, x2, x3, x4, x5⟩, rfl⟩, fun u hu => ?_⟩
  simp only [List.mem_cons, List.not_mem_nil, or_false] at hu
  rcases hu with rfl | rfl | rfl | rfl | rfl | rfl <;> rfl
theorem reads_rsms {n : Nat} {cs : List Value} {y : DataW H × List MemPlace} (h : DataW.trod enc Try.prog W 0 (fun _ => true) held n 22 cs = some y) : ∃ v l, cs = [v] ∧ SmV W v l :=
  open_row (R := RSm) Try.underlying22 T.rsmN (by decide) RSm.keeps (fun n cs y hy _ => (reads_rsm n cs y hy).2) h
set_option maxRecDepth 20000 in
theorem reads_rst : Reads enc Try.prog W held 24 5 RWt := fun n cs y h => by
  obtain ⟨f0, f1, f2, f3, f4, hs, ⟨t0, o0⟩, ⟨t1, o1⟩, ⟨t2, o2⟩, ⟨t3, o3⟩, ⟨t4, o4⟩⟩ := rst_struct
  obtain ⟨xs, m, _, rfl, hl, hlen, hf⟩ := DataW.trod_struct hs h
  rw [T.rstN] at hl
  match cs, hl, xs, hlen with
  | [u0, u1, u2, u3, u4], _, [y0, y1, y2, y3, y4], _ =>
  have r0 := hf 0 f0 rfl
  have r1 := hf 1 f1 rfl
  have r2 := hf 2 f2 rfl
  have r3 := hf 3 f3 rfl
  have r4 := hf 4 f4 rfl
  rw [t0, o0, T.intN] at r0
  rw [t1, o1, T.intN] at r1
  rw [t2, o2, T.intN] at r2
  rw [t3, o3, T.intN] at r3
  rw [t4, o4, T.rsmsN] at r4
  obtain ⟨_, ⟨x0, e0, _⟩, _⟩ := reads_int Try.underlying3 _ _ _ r0
  obtain ⟨_, ⟨x1, e1, _⟩, _⟩ := reads_int Try.underlying3 _ _ _ r1
  obtain ⟨_, ⟨x2, e2, _⟩, _⟩ := reads_int Try.underlying3 _ _ _ r2
  obtain ⟨_, ⟨x3, e3, _⟩, _⟩ := reads_int Try.underlying3 _ _ _ r3
  obtain ⟨v, l, e4, hv⟩ := reads_rsms r4
  simp at e0 e1 e2 e3 e4
  subst e0; subst e1; subst e2; subst e3; subst e4
  refine ⟨rfl, ⟨⟨x0, x1, x2, x3, l⟩, u4, rfl, hv⟩, fun u hu => ?_⟩
  simp only [List.mem_cons, List.not_mem_nil, or_false] at hu
  rcases hu with rfl | rfl | rfl | rfl | rfl
  · rfl
  · rfl
  · rfl
  · rfl
  · obtain ⟨p, n, c, rfl⟩ : ∃ p n c, u = .slice p n c := by obtain ⟨p, c, e, _⟩ := hv.slice; exact ⟨p, _, c, e⟩
    rfl
set_option maxRecDepth 20000 in
theorem reads_fd : Reads enc Try.prog W held 26 3 RFd := fun n cs y h => by
  obtain ⟨f0, f1, f2, hs, ⟨t0, o0⟩, ⟨t1, o1⟩, ⟨t2, o2⟩⟩ := fd_struct
  obtain ⟨xs, m, _, rfl, hl, hlen, hf⟩ := DataW.trod_struct hs h
  rw [T.fdN] at hl
  match cs, hl, xs, hlen with
  | [u0, u1, u2], _, [y0, y1, y2], _ =>
  have r0 := hf 0 f0 rfl
  have r1 := hf 1 f1 rfl
  have r2 := hf 2 f2 rfl
  rw [t0, o0, T.strN] at r0
  rw [t1, o1, T.intN] at r1
  rw [t2, o2, T.intN] at r2
  obtain ⟨_, ⟨x0, e0, _⟩, _⟩ := reads_string Try.underlying9 _ _ _ r0
  obtain ⟨_, ⟨x1, e1, _⟩, _⟩ := reads_int Try.underlying3 _ _ _ r1
  obtain ⟨_, ⟨x2, e2, _⟩, _⟩ := reads_int Try.underlying3 _ _ _ r2
  simp at e0 e1 e2
  subst e0; subst e1; subst e2
  refine ⟨rfl, ⟨⟨x0, x1, x2⟩, rfl⟩, fun u hu => ?_⟩
  simp only [List.mem_cons, List.not_mem_nil, or_false] at hu
  rcases hu with rfl | rfl | rfl <;> rfl
theorem open_st {cs : Array Value} {d : DataW H} {ps : List MemPlace} (h : DataW.Trod enc Try.prog W 0 (fun _ => true) held 24 (.agg cs) d ps) : ∃ (s : Wt) (v : Value), cs = #[.int .i64 s.size, .int .i64 s.late, .int .i64 s.mark, .int .i64 s.drops, v] ∧ SmV W v s.opn := by
  obtain ⟨fuel, hf⟩ := h
  obtain ⟨_, ⟨s, v, e, hv⟩, _⟩ := reads_rst _ _ _ hf
  refine ⟨s, v, Array.toList_inj.1 ?_, hv⟩
  simp only [Value.cells] at e
  exact e
theorem open_fd {cs : Array Value} {d : DataW H} {ps : List MemPlace} (h : DataW.Trod enc Try.prog W 0 (fun _ => true) held 26 (.agg cs) d ps) : ∃ x : Fd, cs = #[.string ⟨x.key.toArray⟩, .int .i64 x.time, .int .i64 x.n] := by
  obtain ⟨fuel, hf⟩ := h
  obtain ⟨_, ⟨x, e⟩, _⟩ := reads_fd _ _ _ hf
  refine ⟨x, Array.toList_inj.1 ?_⟩
  simp only [Value.cells] at e
  exact e
theorem open_fds {a : Option Addr} {n c : Nat} {d : DataW H} {ps : List MemPlace} (h : DataW.Trod enc Try.prog W 0 (fun _ => true) held 62 (.slice a n c) d ps) : ∃ l, FdV W (.slice a n c) l := by
  obtain ⟨fuel, hf⟩ := h
  obtain ⟨v, l, e, hv⟩ := open_row (R := RFd) Try.underlying62 T.fdN (by decide) RFd.keeps (fun n cs y hy _ => (reads_fd n cs y hy).2) hf
  simp [Value.cells] at e
  subst e
  exact ⟨l, hv⟩
end
end Go.Proofs.Ytpejdompanhieaa
