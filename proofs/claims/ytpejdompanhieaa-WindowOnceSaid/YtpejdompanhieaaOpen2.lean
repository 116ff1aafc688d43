/- How arguments that came in are read: rows of byte rows. -/
import Derived.Test.YtpejdompanhieaaOpen
import Derived.Test.YtpejdompanhieaaRow
namespace Go.Proofs.Ytpejdompanhieaa
open Go.RowKit Go.ChangeShapes Go.WideShapes

theorem RB.keeps : ∀ (w w' : World) (cs : List Value) (x : List UInt8), Keeps (fun _ => True) w w' → RB w cs x → RB w' cs x := fun _ _ _ _ hk ⟨v, e, h⟩ => ⟨v, e, h.under _ hk⟩
theorem bytes_cells {H : Type} {enc : TypeId × Value → H} {P : Program} {W : World} {base : Nat} {held : Bool} {t e fuel : Nat} {cs : List Value} {x : DataW H × List MemPlace} (ht : P.underlying t = some (.slice e)) (he : P.underlying e = some (.int .u8)) (hc : P.cellsOf e = 1)
    (h : DataW.trod enc P W base (fun _ => true) held fuel t cs = some x) : (∃ l, RB W cs l) ∧ ∀ u ∈ cs, u.oneCell' = true := by
  have hv : ∃ a n c, cs = [.slice a n c] := by
    rcases open_ints ht he hc h with ⟨hcs, _⟩ | ⟨a, l, c', zs, hcs, _⟩
    · exact ⟨_, _, _, hcs⟩
    · exact ⟨_, _, _, hcs⟩
  obtain ⟨a, n, c, rfl⟩ := hv
  obtain ⟨l, hl⟩ := open_bytes (enc := enc) (d := x.1) (ps := x.2) ht he hc (a := a) (n := n) (c := c) ⟨fuel, by simpa [Value.cells] using h⟩
  exact ⟨⟨l, _, rfl, hl⟩, fun u hu => by rw [List.mem_singleton] at hu; subst hu; rfl⟩
theorem open_lists {H : Type} {enc : TypeId × Value → H} {P : Program} {W : World} {held : Bool} {t e f : TypeId} (ht : P.underlying t = some (.slice e)) (he : P.underlying e = some (.slice f)) (hf : P.underlying f = some (.int .u8)) (hc : P.cellsOf e = 1) (hc' : P.cellsOf f = 1)
    {a : Option Addr} {n c : Nat} {d : DataW H} {ps : List MemPlace} (h : DataW.Trod enc P W 0 (fun _ => true) held t (.slice a n c) d ps) : ∃ ls, LV W (.slice a n c) ls := by
  obtain ⟨fuel, hf2⟩ := h
  obtain ⟨v', xs, e1, hs⟩ := open_row (R := RB) ht hc (by decide) RB.keeps (fun n cs y hy _ => bytes_cells he hf hc' hy) hf2
  simp [Value.cells] at e1
  subst e1
  exact ⟨xs, hs⟩
end Go.Proofs.Ytpejdompanhieaa
