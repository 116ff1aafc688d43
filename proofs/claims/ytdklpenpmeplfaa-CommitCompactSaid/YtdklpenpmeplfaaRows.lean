/-
  No cell of these rows narrows 'for every input' (looked for: loops, veiled, ifaces, maps, wideKeys, modest, calm, conditions, laid).
  DERIVED. THE GIVEN ROWS OF THIS SEAT. 4 by the template 'for every input the law returns true; each argument reads behind the call as it read before'; 0 by the template 'total and deterministic' (their statements: YtdklpenpmeplfaaTotals.lean).
  GIVEN WITH THE SEED: the statements are not yours to turn. If you find one false, say at which input.
  Laid BY PROGRAM, IN A SANDBOX (cutbox-rows.mjs): the forced cells as the released guide's own fill.sh prints them over the translation 314d22a6cec41e01… (all of the seat's roots in one cut). By AI agents, Wed Nov 11 2026. No macro, syntax, notation, axiom, sorry.
-/
import Derived.Test.YtdklpenpmeplfaaChecked
import GoSem.Claim
import GoSem.ClaimJoined
import GoSem.ClaimMapViews
import Derived.JoinedTies
import Derived.KernelRfl
namespace Go.Proofs.Ytdklpenpmeplfaa
/- THE CELL 'sum', in the pinned program and in every row, IS THE sha256 OF THE DUMP (.gsa) THAT YtdklpenpmeplfaaProg.lean LOADS. Nothing in Lean hashes anything: it is a label: what it is worth is what the hold of that sum in a sandbox is worth. -/
noncomputable def Try.pinned : Pinned := { name := "ytdklpenpmeplfaa", sum := "314d22a6cec41e0136b184ca2bb9a69dab4f05dbed2674b1d99a294b13d6e6ae", checked := Try.checked }
namespace Rows
def none {H : Type} : Left H := { results := [], args := [] }

/-- 'bilanderlaw21.CommitPuts': WHATEVER THE INPUT: true; the input reads as it did. -/
def commitPutsSpec : ChangeSpec := { name := "commitPuts", fn := fun _ => fun
  | [d1, d2, d3] => { results := [.lit (.bool true)], args := [d1, d2, d3] }
  | _ => none }
def commitPutsRow : OpenClaim := { program := "ytdklpenpmeplfaa", sum := "314d22a6cec41e0136b184ca2bb9a69dab4f05dbed2674b1d99a294b13d6e6ae", func := "bilander/bilanderlaw21.CommitPuts", spec := "commitPuts", inPlace := ["slices.overlaps[bilander/commit.Commit]"], unfollowed := true, recurses := true, apart := false }
def CommitPutsSaid : Prop := commitPutsRow.holds Try.pinned (OpenSpec.ofChange commitPutsSpec)

/-- ITS FALSE NEIGHBOUR: 'it returns false'. Refute it at one input. -/
def commitPutsWrong : ChangeSpec := { name := "commitPuts", fn := fun _ => fun
  | [d1, d2, d3] => { results := [.lit (.bool false)], args := [d1, d2, d3] }
  | _ => none }
def CommitPutsWrongFalsely : Prop := commitPutsRow.holds Try.pinned (OpenSpec.ofChange commitPutsWrong)

/-- 'bilanderlaw21.CommitPlays': WHATEVER THE INPUT: true; the input reads as it did. -/
def commitPlaysSpec : ChangeSpec := { name := "commitPlays", fn := fun _ => fun
  | [d1, d2, d3] => { results := [.lit (.bool true)], args := [d1, d2, d3] }
  | _ => none }
def commitPlaysRow : OpenClaim := { program := "ytdklpenpmeplfaa", sum := "314d22a6cec41e0136b184ca2bb9a69dab4f05dbed2674b1d99a294b13d6e6ae", func := "bilander/bilanderlaw21.CommitPlays", spec := "commitPlays", inPlace := ["slices.overlaps[bilander/commit.Commit]"], unfollowed := true, recurses := true, apart := false }
def CommitPlaysSaid : Prop := commitPlaysRow.holds Try.pinned (OpenSpec.ofChange commitPlaysSpec)

/-- ITS FALSE NEIGHBOUR: 'it returns false'. Refute it at one input. -/
def commitPlaysWrong : ChangeSpec := { name := "commitPlays", fn := fun _ => fun
  | [d1, d2, d3] => { results := [.lit (.bool false)], args := [d1, d2, d3] }
  | _ => none }
def CommitPlaysWrongFalsely : Prop := commitPlaysRow.holds Try.pinned (OpenSpec.ofChange commitPlaysWrong)

/-- 'bilanderlaw21.CommitBack': WHATEVER THE INPUT: true; the input reads as it did. -/
def commitBackSpec : ChangeSpec := { name := "commitBack", fn := fun _ => fun
  | [d1, d2, d3] => { results := [.lit (.bool true)], args := [d1, d2, d3] }
  | _ => none }
def commitBackRow : OpenClaim := { program := "ytdklpenpmeplfaa", sum := "314d22a6cec41e0136b184ca2bb9a69dab4f05dbed2674b1d99a294b13d6e6ae", func := "bilander/bilanderlaw21.CommitBack", spec := "commitBack", inPlace := ["slices.overlaps[bilander/commit.Commit]"], unfollowed := true, recurses := true, apart := false }
def CommitBackSaid : Prop := commitBackRow.holds Try.pinned (OpenSpec.ofChange commitBackSpec)

/-- ITS FALSE NEIGHBOUR: 'it returns false'. Refute it at one input. -/
def commitBackWrong : ChangeSpec := { name := "commitBack", fn := fun _ => fun
  | [d1, d2, d3] => { results := [.lit (.bool false)], args := [d1, d2, d3] }
  | _ => none }
def CommitBackWrongFalsely : Prop := commitBackRow.holds Try.pinned (OpenSpec.ofChange commitBackWrong)

/-- 'bilanderlaw21.CommitCompact': WHATEVER THE INPUT: true; the input reads as it did. -/
def commitCompactSpec : ChangeSpec := { name := "commitCompact", fn := fun _ => fun
  | [d1, d2] => { results := [.lit (.bool true)], args := [d1, d2] }
  | _ => none }
def commitCompactRow : OpenClaim := { program := "ytdklpenpmeplfaa", sum := "314d22a6cec41e0136b184ca2bb9a69dab4f05dbed2674b1d99a294b13d6e6ae", func := "bilander/bilanderlaw21.CommitCompact", spec := "commitCompact", inPlace := ["slices.overlaps[bilander/commit.Commit]"], unfollowed := true, recurses := true, apart := false }
def CommitCompactSaid : Prop := commitCompactRow.holds Try.pinned (OpenSpec.ofChange commitCompactSpec)

/-- ITS FALSE NEIGHBOUR: 'it returns false'. Refute it at one input. -/
def commitCompactWrong : ChangeSpec := { name := "commitCompact", fn := fun _ => fun
  | [d1, d2] => { results := [.lit (.bool false)], args := [d1, d2] }
  | _ => none }
def CommitCompactWrongFalsely : Prop := commitCompactRow.holds Try.pinned (OpenSpec.ofChange commitCompactWrong)

/- THE SECOND FORM. 'bulk': how many values and letters a reading holds, each counted each time it is reached (what is shared counts as often as it is met; a slice's spare places count too). A statement '..UptoSaid' is the law's where the arguments, and the package variables that the reading takes, are together of bulk at most 1048576: NARROWER than '..Said'. Prove '..Said' where nothing that the law and all that it calls make is longer than what came in: it says more and counts as full. Else prove '..UptoSaid'. A law counts once. -/
mutual
def uptoBulk {H : Type} : DataW H → Nat
  | .lit (.string bytes) => bytes.length + 1
  | .lit _ => 1
  | .nil => 1
  | .ptr d => uptoBulk d + 1
  | .slice elems spare => uptoBulkAll elems + uptoBulkAll spare + 1
  | .agg parts => uptoBulkAll parts + 1
  | .iface _ d => uptoBulk d + 1
  | .map entries => uptoBulkEntries entries + 1
  | .held _ => 1
def uptoBulkAll {H : Type} : List (DataW H) → Nat
  | [] => 0
  | d :: r => uptoBulk d + uptoBulkAll r
def uptoBulkEntries {H : Type} : List (Lit × DataW H) → Nat
  | [] => 0
  | x :: r => uptoBulkEntry x + uptoBulkEntries r
def uptoBulkEntry {H : Type} : Lit × DataW H → Nat
  | (.string bytes, d) => bytes.length + uptoBulk d + 1
  | (_, d) => uptoBulk d + 1
 end
def uptoSmall : (H : Type) → List (DataW H) → Bool := fun _ ds => decide (uptoBulkAll ds ≤ 1048576)
def OpenSpec.upto (s : _root_.Go.ChangeSpec) : _root_.Go.OpenSpec := { _root_.Go.OpenSpec.ofChange s with cond := some uptoSmall }

/-- 'bilanderlaw21.CommitPuts', WHERE WHAT IT READS IS OF BULK AT MOST 1048576: true; the input reads as it did. -/
def commitPutsUptoRow : OpenClaim := { program := "ytdklpenpmeplfaa", sum := "314d22a6cec41e0136b184ca2bb9a69dab4f05dbed2674b1d99a294b13d6e6ae", func := "bilander/bilanderlaw21.CommitPuts", spec := "commitPuts", inPlace := ["slices.overlaps[bilander/commit.Commit]"], unfollowed := true, recurses := true, apart := false, narrowed := true }
def CommitPutsUptoSaid : Prop := commitPutsUptoRow.holds Try.pinned (OpenSpec.upto commitPutsSpec)

/-- 'bilanderlaw21.CommitPlays', WHERE WHAT IT READS IS OF BULK AT MOST 1048576: true; the input reads as it did. -/
def commitPlaysUptoRow : OpenClaim := { program := "ytdklpenpmeplfaa", sum := "314d22a6cec41e0136b184ca2bb9a69dab4f05dbed2674b1d99a294b13d6e6ae", func := "bilander/bilanderlaw21.CommitPlays", spec := "commitPlays", inPlace := ["slices.overlaps[bilander/commit.Commit]"], unfollowed := true, recurses := true, apart := false, narrowed := true }
def CommitPlaysUptoSaid : Prop := commitPlaysUptoRow.holds Try.pinned (OpenSpec.upto commitPlaysSpec)

/-- 'bilanderlaw21.CommitBack', WHERE WHAT IT READS IS OF BULK AT MOST 1048576: true; the input reads as it did. -/
def commitBackUptoRow : OpenClaim := { program := "ytdklpenpmeplfaa", sum := "314d22a6cec41e0136b184ca2bb9a69dab4f05dbed2674b1d99a294b13d6e6ae", func := "bilander/bilanderlaw21.CommitBack", spec := "commitBack", inPlace := ["slices.overlaps[bilander/commit.Commit]"], unfollowed := true, recurses := true, apart := false, narrowed := true }
def CommitBackUptoSaid : Prop := commitBackUptoRow.holds Try.pinned (OpenSpec.upto commitBackSpec)

/-- 'bilanderlaw21.CommitCompact', WHERE WHAT IT READS IS OF BULK AT MOST 1048576: true; the input reads as it did. -/
def commitCompactUptoRow : OpenClaim := { program := "ytdklpenpmeplfaa", sum := "314d22a6cec41e0136b184ca2bb9a69dab4f05dbed2674b1d99a294b13d6e6ae", func := "bilander/bilanderlaw21.CommitCompact", spec := "commitCompact", inPlace := ["slices.overlaps[bilander/commit.Commit]"], unfollowed := true, recurses := true, apart := false, narrowed := true }
def CommitCompactUptoSaid : Prop := commitCompactUptoRow.holds Try.pinned (OpenSpec.upto commitCompactSpec)

end Rows
end Go.Proofs.Ytdklpenpmeplfaa
