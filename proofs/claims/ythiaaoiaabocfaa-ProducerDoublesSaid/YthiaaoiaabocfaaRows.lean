/-
  No cell of these rows narrows 'for every input' (looked for: loops, veiled, ifaces, maps, wideKeys, modest, calm, conditions, laid).
  DERIVED. THE GIVEN ROWS OF THIS SEAT. 4 by the template 'for every input the law returns true; each argument reads behind the call as it read before'; 0 by the template 'total and deterministic' (their statements: YthiaaoiaabocfaaTotals.lean).
  GIVEN WITH THE SEED: the statements are not yours to turn. If you find one false, say at which input.
  Laid BY PROGRAM, IN A SANDBOX (cutbox-rows.mjs): the forced cells as the released guide's own fill.sh prints them over the translation 5c65177da32a6138… (all of the seat's roots in one cut). By AI agents, Wed Nov 11 2026. No macro, syntax, notation, axiom, sorry.
-/
import Derived.Test.YthiaaoiaabocfaaChecked
import GoSem.Claim
import GoSem.ClaimJoined
import GoSem.ClaimMapViews
import Derived.JoinedTies
import Derived.KernelRfl
namespace Go.Proofs.Ythiaaoiaabocfaa
/- THE CELL 'sum', in the pinned program and in every row, IS THE sha256 OF THE DUMP (.gsa) THAT YthiaaoiaabocfaaProg.lean LOADS. Nothing in Lean hashes anything: it is a label: what it is worth is what the hold of that sum in a sandbox is worth. -/
noncomputable def Try.pinned : Pinned := { name := "ythiaaoiaabocfaa", sum := "5c65177da32a6138d877112776fb8b66442c2d75a062fef1fe7baa0dc22410ac", checked := Try.checked }
namespace Rows
def none {H : Type} : Left H := { results := [], args := [] }

/-- 'bilanderlaw13.ProducerAsks': WHATEVER THE INPUT: true; the input reads as it did. -/
def producerAsksSpec : ChangeSpec := { name := "producerAsks", fn := fun _ => fun
  | [d1, d2] => { results := [.lit (.bool true)], args := [d1, d2] }
  | _ => none }
def producerAsksRow : OpenClaim := { program := "ythiaaoiaabocfaa", sum := "5c65177da32a6138d877112776fb8b66442c2d75a062fef1fe7baa0dc22410ac", func := "bilander/bilanderlaw13.ProducerAsks", spec := "producerAsks", inPlace := ["slices.overlaps[bilander/producer.Entry]"], unfollowed := true, recurses := true, apart := false }
def ProducerAsksSaid : Prop := producerAsksRow.holds Try.pinned (OpenSpec.ofChange producerAsksSpec)

/-- ITS FALSE NEIGHBOUR: 'it returns false'. Refute it at one input. -/
def producerAsksWrong : ChangeSpec := { name := "producerAsks", fn := fun _ => fun
  | [d1, d2] => { results := [.lit (.bool false)], args := [d1, d2] }
  | _ => none }
def ProducerAsksWrongFalsely : Prop := producerAsksRow.holds Try.pinned (OpenSpec.ofChange producerAsksWrong)

/-- 'bilanderlaw13.ProducerDoubles': WHATEVER THE INPUT: true; the input reads as it did. -/
def producerDoublesSpec : ChangeSpec := { name := "producerDoubles", fn := fun _ => fun
  | [d1, d2, d3] => { results := [.lit (.bool true)], args := [d1, d2, d3] }
  | _ => none }
def producerDoublesRow : OpenClaim := { program := "ythiaaoiaabocfaa", sum := "5c65177da32a6138d877112776fb8b66442c2d75a062fef1fe7baa0dc22410ac", func := "bilander/bilanderlaw13.ProducerDoubles", spec := "producerDoubles", inPlace := ["slices.overlaps[bilander/producer.Entry]"], unfollowed := true, recurses := true, apart := false }
def ProducerDoublesSaid : Prop := producerDoublesRow.holds Try.pinned (OpenSpec.ofChange producerDoublesSpec)

/-- ITS FALSE NEIGHBOUR: 'it returns false'. Refute it at one input. -/
def producerDoublesWrong : ChangeSpec := { name := "producerDoubles", fn := fun _ => fun
  | [d1, d2, d3] => { results := [.lit (.bool false)], args := [d1, d2, d3] }
  | _ => none }
def ProducerDoublesWrongFalsely : Prop := producerDoublesRow.holds Try.pinned (OpenSpec.ofChange producerDoublesWrong)

/-- 'bilanderlaw13.ProducerApart': WHATEVER THE INPUT: true; the input reads as it did. -/
def producerApartSpec : ChangeSpec := { name := "producerApart", fn := fun _ => fun
  | [d1, d2] => { results := [.lit (.bool true)], args := [d1, d2] }
  | _ => none }
def producerApartRow : OpenClaim := { program := "ythiaaoiaabocfaa", sum := "5c65177da32a6138d877112776fb8b66442c2d75a062fef1fe7baa0dc22410ac", func := "bilander/bilanderlaw13.ProducerApart", spec := "producerApart", inPlace := ["slices.overlaps[bilander/producer.Entry]"], unfollowed := true, recurses := true, apart := false }
def ProducerApartSaid : Prop := producerApartRow.holds Try.pinned (OpenSpec.ofChange producerApartSpec)

/-- ITS FALSE NEIGHBOUR: 'it returns false'. Refute it at one input. -/
def producerApartWrong : ChangeSpec := { name := "producerApart", fn := fun _ => fun
  | [d1, d2] => { results := [.lit (.bool false)], args := [d1, d2] }
  | _ => none }
def ProducerApartWrongFalsely : Prop := producerApartRow.holds Try.pinned (OpenSpec.ofChange producerApartWrong)

/-- 'bilanderlaw13.ProducerCuts': WHATEVER THE INPUT: true; the input reads as it did. -/
def producerCutsSpec : ChangeSpec := { name := "producerCuts", fn := fun _ => fun
  | [d1, d2, d3] => { results := [.lit (.bool true)], args := [d1, d2, d3] }
  | _ => none }
def producerCutsRow : OpenClaim := { program := "ythiaaoiaabocfaa", sum := "5c65177da32a6138d877112776fb8b66442c2d75a062fef1fe7baa0dc22410ac", func := "bilander/bilanderlaw13.ProducerCuts", spec := "producerCuts", inPlace := ["slices.overlaps[bilander/producer.Entry]"], unfollowed := true, recurses := true, apart := false }
def ProducerCutsSaid : Prop := producerCutsRow.holds Try.pinned (OpenSpec.ofChange producerCutsSpec)

/-- ITS FALSE NEIGHBOUR: 'it returns false'. Refute it at one input. -/
def producerCutsWrong : ChangeSpec := { name := "producerCuts", fn := fun _ => fun
  | [d1, d2, d3] => { results := [.lit (.bool false)], args := [d1, d2, d3] }
  | _ => none }
def ProducerCutsWrongFalsely : Prop := producerCutsRow.holds Try.pinned (OpenSpec.ofChange producerCutsWrong)

/- THE SECOND FORM. 'bulk': how many values and letters a reading holds, each counted each time it is reached (what is shared counts as often as it is met; a slice's spare places count too). A statement '..UptoSaid' is the law's where the arguments, and the package variables that the reading takes, are together of bulk at most 1048576: NARROWER than '..Said'. Prove '..Said' where nothing that the law and all that it calls make is longer than what came in: it says more and counts as full. Else prove '..UptoSaid'. A law counts once. -/
mutual
def uptoBulk {H : Type} : DataW H → Nat
  | .lit (.string bytes) => bytes.length + 1
  | .lit _ => 1
  | .nil => 1
  | .ptr d => uptoBulk d + 1
  | .slice elems spare => uptoBulkAll elems + uptoBulkAll spare + 1
  | .agg parts => uptoBulkAll parts + 1
  | .iface _ d => uptoBulk d + 1
  | .map entries => uptoBulkEntries entries + 1
  | .held _ => 1
def uptoBulkAll {H : Type} : List (DataW H) → Nat
  | [] => 0
  | d :: r => uptoBulk d + uptoBulkAll r
def uptoBulkEntries {H : Type} : List (Lit × DataW H) → Nat
  | [] => 0
  | x :: r => uptoBulkEntry x + uptoBulkEntries r
def uptoBulkEntry {H : Type} : Lit × DataW H → Nat
  | (.string bytes, d) => bytes.length + uptoBulk d + 1
  | (_, d) => uptoBulk d + 1
 end
def uptoSmall : (H : Type) → List (DataW H) → Bool := fun _ ds => decide (uptoBulkAll ds ≤ 1048576)
def OpenSpec.upto (s : _root_.Go.ChangeSpec) : _root_.Go.OpenSpec := { _root_.Go.OpenSpec.ofChange s with cond := some uptoSmall }

/-- 'bilanderlaw13.ProducerAsks', WHERE WHAT IT READS IS OF BULK AT MOST 1048576: true; the input reads as it did. -/
def producerAsksUptoRow : OpenClaim := { program := "ythiaaoiaabocfaa", sum := "5c65177da32a6138d877112776fb8b66442c2d75a062fef1fe7baa0dc22410ac", func := "bilander/bilanderlaw13.ProducerAsks", spec := "producerAsks", inPlace := ["slices.overlaps[bilander/producer.Entry]"], unfollowed := true, recurses := true, apart := false, narrowed := true }
def ProducerAsksUptoSaid : Prop := producerAsksUptoRow.holds Try.pinned (OpenSpec.upto producerAsksSpec)

/-- 'bilanderlaw13.ProducerDoubles', WHERE WHAT IT READS IS OF BULK AT MOST 1048576: true; the input reads as it did. -/
def producerDoublesUptoRow : OpenClaim := { program := "ythiaaoiaabocfaa", sum := "5c65177da32a6138d877112776fb8b66442c2d75a062fef1fe7baa0dc22410ac", func := "bilander/bilanderlaw13.ProducerDoubles", spec := "producerDoubles", inPlace := ["slices.overlaps[bilander/producer.Entry]"], unfollowed := true, recurses := true, apart := false, narrowed := true }
def ProducerDoublesUptoSaid : Prop := producerDoublesUptoRow.holds Try.pinned (OpenSpec.upto producerDoublesSpec)

/-- 'bilanderlaw13.ProducerApart', WHERE WHAT IT READS IS OF BULK AT MOST 1048576: true; the input reads as it did. -/
def producerApartUptoRow : OpenClaim := { program := "ythiaaoiaabocfaa", sum := "5c65177da32a6138d877112776fb8b66442c2d75a062fef1fe7baa0dc22410ac", func := "bilander/bilanderlaw13.ProducerApart", spec := "producerApart", inPlace := ["slices.overlaps[bilander/producer.Entry]"], unfollowed := true, recurses := true, apart := false, narrowed := true }
def ProducerApartUptoSaid : Prop := producerApartUptoRow.holds Try.pinned (OpenSpec.upto producerApartSpec)

/-- 'bilanderlaw13.ProducerCuts', WHERE WHAT IT READS IS OF BULK AT MOST 1048576: true; the input reads as it did. -/
def producerCutsUptoRow : OpenClaim := { program := "ythiaaoiaabocfaa", sum := "5c65177da32a6138d877112776fb8b66442c2d75a062fef1fe7baa0dc22410ac", func := "bilander/bilanderlaw13.ProducerCuts", spec := "producerCuts", inPlace := ["slices.overlaps[bilander/producer.Entry]"], unfollowed := true, recurses := true, apart := false, narrowed := true }
def ProducerCutsUptoSaid : Prop := producerCutsUptoRow.holds Try.pinned (OpenSpec.upto producerCutsSpec)

end Rows
end Go.Proofs.Ythiaaoiaabocfaa
