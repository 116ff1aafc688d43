/- How arguments that came in are read: by the shape of their types: numbers, bytes, structs, rows of them. -/
import Derived.Test.YtpejdompanhieaaOpen2
import Derived.ChangeSame
namespace Go.Proofs.Ytpejdompanhieaa
open Go.RowKit Go.ChangeShapes Go.WideShapes

/-- Whatever is of the type t reads as R says, in sz cells. -/
def Reads {α H : Type} (enc : TypeId × Value → H) (P : Program) (W : World) (held : Bool) (t : TypeId) (sz : Nat) (R : World → List Value → α → Prop) : Prop :=
  ∀ n cs y, DataW.trod enc P W 0 (fun _ => true) held n t cs = some y → cs.length = sz ∧ (∃ x, R W cs x) ∧ ∀ u ∈ cs, u.oneCell' = true
section
variable {H : Type} {enc : TypeId × Value → H} {P : Program} {W : World} {held : Bool}
theorem reads_bytes {t e : TypeId} (ht : P.underlying t = some (.slice e)) (he : P.underlying e = some (.int .u8)) (hc : P.cellsOf e = 1) : Reads enc P W held t 1 RB := fun n cs y h => by
  obtain ⟨⟨l, v, e, hb⟩, h2⟩ := bytes_cells (base := 0) ht he hc h
  exact ⟨by rw [e]; rfl, ⟨l, v, e, hb⟩, h2⟩
/-- One cell, that holds a number. -/
def RI (_ : World) (cs : List Value) (x : Int) : Prop := cs = [.int .i64 x] ∧ (Lit.int .i64 x).wf = true
theorem reads_int {t : TypeId} (ht : P.underlying t = some (.int .i64)) : Reads enc P W held t 1 RI := fun n cs y h => by
  obtain ⟨x, rfl, _, hw⟩ := DataW.trod_int ht h
  exact ⟨rfl, ⟨x, rfl, hw⟩, fun u hu => by rw [List.mem_singleton] at hu; subst hu; rfl⟩
/-- A place and a body. -/
def RFw (w : World) (cs : List Value) (x : Int × List UInt8) : Prop := ∃ v, cs = [.int .i64 x.1, v] ∧ BV w v x.2
theorem reads_found {t e : TypeId} {f0 f1 : Field} (ht : P.underlying t = some (.struct #[f0, f1])) (hi : P.underlying f0.type = some (.int .i64)) (hb : P.underlying f1.type = some (.slice e)) (he : P.underlying e = some (.int .u8)) (hc : P.cellsOf e = 1)
    (h0 : f0.offset = 0) (h1 : f1.offset = 1) (c0 : P.cellsOf f0.type = 1) (c1 : P.cellsOf f1.type = 1) (ct : P.cellsOf t = 2) : Reads enc P W held t 2 RFw := fun n cs y h => by
  obtain ⟨y0, y1, m, _, hl, r0, r1⟩ := trod_struct2 ht h
  rw [ct] at hl
  match cs, hl with
  | [u0, u1], _ =>
    rw [h0, c0] at r0
    rw [h1, c1] at r1
    obtain ⟨_, ⟨x, e1, _⟩, q1⟩ := reads_int hi _ _ _ r0
    obtain ⟨_, ⟨l, v, e2, b⟩, q2⟩ := reads_bytes hb he hc _ _ _ r1
    simp at e1 e2
    subst e1; subst e2
    refine ⟨rfl, ⟨(x, l), u1, rfl, b⟩, fun u hu => ?_⟩
    rcases List.mem_cons.1 hu with rfl | hu
    · rfl
    · rw [List.mem_singleton] at hu; subst hu; exact b.one
theorem open_found {t e : TypeId} {f0 f1 : Field} (ht : P.underlying t = some (.struct #[f0, f1])) (hi : P.underlying f0.type = some (.int .i64)) (hb : P.underlying f1.type = some (.slice e)) (he : P.underlying e = some (.int .u8)) (hc : P.cellsOf e = 1)
    (h0 : f0.offset = 0) (h1 : f1.offset = 1) (c0 : P.cellsOf f0.type = 1) (c1 : P.cellsOf f1.type = 1) (ct : P.cellsOf t = 2)
    {cs : Array Value} {d : DataW H} {ps : List MemPlace} (h : DataW.Trod enc P W 0 (fun _ => true) held t (.agg cs) d ps) : ∃ (x : Int × List UInt8) (u : Value), cs = #[.int .i64 x.1, u] ∧ BV W u x.2 := by
  obtain ⟨fuel, hf⟩ := h
  obtain ⟨_, ⟨x, v, e1, b⟩, _⟩ := reads_found ht hi hb he hc h0 h1 c0 c1 ct _ _ _ hf
  refine ⟨x, v, ?_, b⟩
  simp only [Value.cells] at e1
  exact Array.toList_inj.1 (by simpa using e1)
end
end Go.Proofs.Ytpejdompanhieaa
