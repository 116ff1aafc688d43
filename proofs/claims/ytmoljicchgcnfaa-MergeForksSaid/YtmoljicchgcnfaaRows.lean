/-
  No cell of these rows narrows 'for every input' (looked for: loops, veiled, ifaces, maps, wideKeys, modest, calm, conditions, laid).
  DERIVED. THE GIVEN ROWS OF THIS SEAT. 3 by the template 'for every input the law returns true; each argument reads behind the call as it read before'; 0 by the template 'total and deterministic' (their statements: YtmoljicchgcnfaaTotals.lean).
  GIVEN WITH THE SEED: the statements are not yours to turn. If you find one false, say at which input.
  Laid BY PROGRAM, IN A SANDBOX (cutbox-rows.mjs): the forced cells as the released guide's own fill.sh prints them over the translation 53f9655e006948a7… (all of the seat's roots in one cut). By AI agents, Wed Nov 11 2026. No macro, syntax, notation, axiom, sorry.
-/
import Derived.Test.YtmoljicchgcnfaaChecked
import GoSem.Claim
import GoSem.ClaimJoined
import GoSem.ClaimMapViews
import Derived.JoinedTies
import Derived.KernelRfl
namespace Go.Proofs.Ytmoljicchgcnfaa
/- THE CELL 'sum', in the pinned program and in every row, IS THE sha256 OF THE DUMP (.gsa) THAT YtmoljicchgcnfaaProg.lean LOADS. Nothing in Lean hashes anything: it is a label: what it is worth is what the hold of that sum in a sandbox is worth. -/
noncomputable def Try.pinned : Pinned := { name := "ytmoljicchgcnfaa", sum := "53f9655e006948a728518e11cae9c7c31faec8e641a4080573ad934b72d8781f", checked := Try.checked }
namespace Rows
def none {H : Type} : Left H := { results := [], args := [] }

/-- 'bilanderlaw34.MergeItems': WHATEVER THE INPUT: true; the input reads as it did. -/
def mergeItemsSpec : ChangeSpec := { name := "mergeItems", fn := fun _ => fun
  | [d1, d2, d3] => { results := [.lit (.bool true)], args := [d1, d2, d3] }
  | _ => none }
def mergeItemsRow : OpenClaim := { program := "ytmoljicchgcnfaa", sum := "53f9655e006948a728518e11cae9c7c31faec8e641a4080573ad934b72d8781f", func := "bilander/bilanderlaw34.MergeItems", spec := "mergeItems", unfollowed := true, recurses := true, apart := false }
def MergeItemsSaid : Prop := mergeItemsRow.holds Try.pinned (OpenSpec.ofChange mergeItemsSpec)

/-- ITS FALSE NEIGHBOUR: 'it returns false'. Refute it at one input. -/
def mergeItemsWrong : ChangeSpec := { name := "mergeItems", fn := fun _ => fun
  | [d1, d2, d3] => { results := [.lit (.bool false)], args := [d1, d2, d3] }
  | _ => none }
def MergeItemsWrongFalsely : Prop := mergeItemsRow.holds Try.pinned (OpenSpec.ofChange mergeItemsWrong)

/-- 'bilanderlaw34.MergeOnce': WHATEVER THE INPUT: true; the input reads as it did. -/
def mergeOnceSpec : ChangeSpec := { name := "mergeOnce", fn := fun _ => fun
  | [d] => { results := [.lit (.bool true)], args := [d] }
  | _ => none }
def mergeOnceRow : OpenClaim := { program := "ytmoljicchgcnfaa", sum := "53f9655e006948a728518e11cae9c7c31faec8e641a4080573ad934b72d8781f", func := "bilander/bilanderlaw34.MergeOnce", spec := "mergeOnce", unfollowed := true, recurses := true, apart := false }
def MergeOnceSaid : Prop := mergeOnceRow.holds Try.pinned (OpenSpec.ofChange mergeOnceSpec)

/-- ITS FALSE NEIGHBOUR: 'it returns false'. Refute it at one input. -/
def mergeOnceWrong : ChangeSpec := { name := "mergeOnce", fn := fun _ => fun
  | [d] => { results := [.lit (.bool false)], args := [d] }
  | _ => none }
def MergeOnceWrongFalsely : Prop := mergeOnceRow.holds Try.pinned (OpenSpec.ofChange mergeOnceWrong)

/-- 'bilanderlaw34.MergeForks': WHATEVER THE INPUT: true; the input reads as it did. -/
def mergeForksSpec : ChangeSpec := { name := "mergeForks", fn := fun _ => fun
  | [d1, d2] => { results := [.lit (.bool true)], args := [d1, d2] }
  | _ => none }
def mergeForksRow : OpenClaim := { program := "ytmoljicchgcnfaa", sum := "53f9655e006948a728518e11cae9c7c31faec8e641a4080573ad934b72d8781f", func := "bilander/bilanderlaw34.MergeForks", spec := "mergeForks", unfollowed := true, recurses := true, apart := false }
def MergeForksSaid : Prop := mergeForksRow.holds Try.pinned (OpenSpec.ofChange mergeForksSpec)

/-- ITS FALSE NEIGHBOUR: 'it returns false'. Refute it at one input. -/
def mergeForksWrong : ChangeSpec := { name := "mergeForks", fn := fun _ => fun
  | [d1, d2] => { results := [.lit (.bool false)], args := [d1, d2] }
  | _ => none }
def MergeForksWrongFalsely : Prop := mergeForksRow.holds Try.pinned (OpenSpec.ofChange mergeForksWrong)

/- THE SECOND FORM. 'bulk': how many values and letters a reading holds, each counted each time it is reached (what is shared counts as often as it is met; a slice's spare places count too). A statement '..UptoSaid' is the law's where the arguments, and the package variables that the reading takes, are together of bulk at most 1048576: NARROWER than '..Said'. Prove '..Said' where nothing that the law and all that it calls make is longer than what came in: it says more and counts as full. Else prove '..UptoSaid'. A law counts once. -/
mutual
def uptoBulk {H : Type} : DataW H → Nat
  | .lit (.string bytes) => bytes.length + 1
  | .lit _ => 1
  | .nil => 1
  | .ptr d => uptoBulk d + 1
  | .slice elems spare => uptoBulkAll elems + uptoBulkAll spare + 1
  | .agg parts => uptoBulkAll parts + 1
  | .iface _ d => uptoBulk d + 1
  | .map entries => uptoBulkEntries entries + 1
  | .held _ => 1
def uptoBulkAll {H : Type} : List (DataW H) → Nat
  | [] => 0
  | d :: r => uptoBulk d + uptoBulkAll r
def uptoBulkEntries {H : Type} : List (Lit × DataW H) → Nat
  | [] => 0
  | x :: r => uptoBulkEntry x + uptoBulkEntries r
def uptoBulkEntry {H : Type} : Lit × DataW H → Nat
  | (.string bytes, d) => bytes.length + uptoBulk d + 1
  | (_, d) => uptoBulk d + 1
 end
def uptoSmall : (H : Type) → List (DataW H) → Bool := fun _ ds => decide (uptoBulkAll ds ≤ 1048576)
def OpenSpec.upto (s : _root_.Go.ChangeSpec) : _root_.Go.OpenSpec := { _root_.Go.OpenSpec.ofChange s with cond := some uptoSmall }

/-- 'bilanderlaw34.MergeItems', WHERE WHAT IT READS IS OF BULK AT MOST 1048576: true; the input reads as it did. -/
def mergeItemsUptoRow : OpenClaim := { program := "ytmoljicchgcnfaa", sum := "53f9655e006948a728518e11cae9c7c31faec8e641a4080573ad934b72d8781f", func := "bilander/bilanderlaw34.MergeItems", spec := "mergeItems", unfollowed := true, recurses := true, apart := false, narrowed := true }
def MergeItemsUptoSaid : Prop := mergeItemsUptoRow.holds Try.pinned (OpenSpec.upto mergeItemsSpec)

/-- 'bilanderlaw34.MergeOnce', WHERE WHAT IT READS IS OF BULK AT MOST 1048576: true; the input reads as it did. -/
def mergeOnceUptoRow : OpenClaim := { program := "ytmoljicchgcnfaa", sum := "53f9655e006948a728518e11cae9c7c31faec8e641a4080573ad934b72d8781f", func := "bilander/bilanderlaw34.MergeOnce", spec := "mergeOnce", unfollowed := true, recurses := true, apart := false, narrowed := true }
def MergeOnceUptoSaid : Prop := mergeOnceUptoRow.holds Try.pinned (OpenSpec.upto mergeOnceSpec)

/-- 'bilanderlaw34.MergeForks', WHERE WHAT IT READS IS OF BULK AT MOST 1048576: true; the input reads as it did. -/
def mergeForksUptoRow : OpenClaim := { program := "ytmoljicchgcnfaa", sum := "53f9655e006948a728518e11cae9c7c31faec8e641a4080573ad934b72d8781f", func := "bilander/bilanderlaw34.MergeForks", spec := "mergeForks", unfollowed := true, recurses := true, apart := false, narrowed := true }
def MergeForksUptoSaid : Prop := mergeForksUptoRow.holds Try.pinned (OpenSpec.upto mergeForksSpec)

end Rows
end Go.Proofs.Ytmoljicchgcnfaa
