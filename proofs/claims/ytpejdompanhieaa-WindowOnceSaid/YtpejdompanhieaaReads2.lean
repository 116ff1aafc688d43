/- How arguments that came in are read: texts, rows of texts, structs of bytes and two numbers. -/
import Derived.Test.YtpejdompanhieaaReads
import Derived.Deep.Strs
namespace Go.Proofs.Ytpejdompanhieaa
open Go.RowKit Go.ChangeShapes Go.WideShapes

/-- One cell, that holds a text. -/
def RS (_ : World) (cs : List Value) (x : List UInt8) : Prop := cs = [.string ⟨x.toArray⟩] ∧ x.length ≤ maxLen
theorem bytes_text (s : ByteArray) : ∃ l : List UInt8, s = ⟨l.toArray⟩ := ⟨s.data.toList, by cases s; simp⟩
theorem text_size (l : List UInt8) : (ByteArray.mk l.toArray).size = l.length := by show l.toArray.size = _; simp
section
variable {H : Type} {enc : TypeId × Value → H} {P : Program} {W : World} {held : Bool}
theorem reads_string {t : TypeId} (ht : P.underlying t = some .string) : Reads enc P W held t 1 RS := fun n cs y h => by
  obtain ⟨s, rfl, _, hs⟩ := DataW.trod_string ht h
  obtain ⟨l, rfl⟩ := bytes_text s
  rw [text_size] at hs
  exact ⟨rfl, ⟨l, rfl, hs⟩, fun u hu => by rw [List.mem_singleton] at hu; subst hu; rfl⟩
theorem open_strs {t e : TypeId} (ht : P.underlying t = some (.slice e)) (he : P.underlying e = some .string) (hc : P.cellsOf e = 1)
    {a : Option Addr} {n c : Nat} {d : DataW H} {ps : List MemPlace} (h : DataW.Trod enc P W 0 (fun _ => true) held t (.slice a n c) d ps) : ∃ ls, SRow 1 RS (fun _ => True) W (.slice a n c) ls := by
  obtain ⟨fuel, hf2⟩ := h
  obtain ⟨v', xs, e1, hs⟩ := open_row (R := RS) ht hc (by decide) (fun _ _ _ _ _ h => h) (fun n cs y hy _ => by obtain ⟨_, h1, h2⟩ := reads_string he n cs y hy; exact ⟨h1, h2⟩) hf2
  simp [Value.cells] at e1
  subst e1
  exact ⟨xs, hs⟩
theorem open_text {t : TypeId} {r : Reach} {b0 : Nat} {v : Value} {d : DataW H} {ps : List MemPlace} (ht : P.underlying t = some .string) (hval : Value.okWide P W r b0 t v) (h : DataW.Trod enc P W 0 (fun _ => true) held t v d ps) :
    ∃ l : List UInt8, v = .string ⟨l.toArray⟩ ∧ d = .lit (.string (ByteArray.mk l.toArray).data.toList) ∧ ps = [] ∧ l.length ≤ maxLen := by
  obtain ⟨s, rfl, rfl, rfl, hs⟩ := ChangeMaps.open_string ht hval h
  obtain ⟨l, rfl⟩ := bytes_text s
  rw [text_size] at hs
  exact ⟨l, rfl, rfl, rfl, hs⟩
theorem shut_text {t : TypeId} {seen : Nat → Bool} {l : List UInt8} (ht : P.underlying t = some .string) (hs : l.length ≤ maxLen) : DataW.Trod enc P W 0 seen held t (.string ⟨l.toArray⟩) (.lit (.string (ByteArray.mk l.toArray).data.toList)) [] :=
  ChangeMaps.shut_string ht (by rw [text_size]; exact hs)
theorem open_set {t e : TypeId} {f0 f1 f2 : Field} (ht : P.underlying t = some (.struct #[f0, f1, f2])) (hb : P.underlying f0.type = some (.slice e)) (he : P.underlying e = some (.int .u8)) (hc : P.cellsOf e = 1) (h1 : P.underlying f1.type = some (.int .i64)) (h2 : P.underlying f2.type = some (.int .i64))
    (o0 : f0.offset = 0) (o1 : f1.offset = 1) (o2 : f2.offset = 2) (c0 : P.cellsOf f0.type = 1) (c1 : P.cellsOf f1.type = 1) (c2 : P.cellsOf f2.type = 1) (ct : P.cellsOf t = 3)
    {cs : Array Value} {d : DataW H} {ps : List MemPlace} (h : DataW.Trod enc P W 0 (fun _ => true) held t (.agg cs) d ps) :
    ∃ (x : List UInt8 × Int × Int) (u : Value), cs = #[u, .int .i64 x.2.1, .int .i64 x.2.2] ∧ BV W u x.1 ∧ (Lit.int .i64 x.2.1).wf = true ∧ (Lit.int .i64 x.2.2).wf = true := by
  obtain ⟨fuel, hf⟩ := h
  obtain ⟨y0, y1, y2, m, _, hl, r0, r1, r2⟩ := Deep.trod_struct3 ht hf
  rw [ct] at hl
  simp only [Value.cells] at hl r0 r1 r2
  obtain ⟨u0, u1, u2, hcs⟩ : ∃ u0 u1 u2, cs.toList = [u0, u1, u2] := by
    match h' : cs.toList, hl with
    | [u0, u1, u2], _ => exact ⟨u0, u1, u2, rfl⟩
  rw [hcs, o0, c0] at r0
  rw [hcs, o1, c1] at r1
  rw [hcs, o2, c2] at r2
  obtain ⟨_, ⟨l, v, e0, b⟩, _⟩ := reads_bytes hb he hc _ _ _ r0
  obtain ⟨_, ⟨x, e1, w1⟩, _⟩ := reads_int h1 _ _ _ r1
  obtain ⟨_, ⟨y, e2, w2⟩, _⟩ := reads_int h2 _ _ _ r2
  simp at e0 e1 e2
  subst e0; subst e1; subst e2
  exact ⟨(l, x, y), u0, Array.toList_inj.1 (by simpa using hcs), b, w1, w2⟩
end
end Go.Proofs.Ytpejdompanhieaa
