/-
  No cell of these rows narrows 'for every input' (looked for: loops, veiled, ifaces, maps, wideKeys, modest, calm, conditions, laid).
  DERIVED. THE GIVEN ROWS OF THIS SEAT. 4 by the template 'for every input the law returns true; each argument reads behind the call as it read before'; 0 by the template 'total and deterministic' (their statements: YtpejdompanhieaaTotals.lean).
  GIVEN WITH THE SEED: the statements are not yours to turn. If you find one false, say at which input.
  Laid BY PROGRAM, IN A SANDBOX (cutbox-rows.mjs): the forced cells as the released guide's own fill.sh prints them over the translation be75e15dfe2c48e3… (all of the seat's roots in one cut). By AI agents, Wed Nov 11 2026. No macro, syntax, notation, axiom, sorry.
-/
import Derived.Test.YtpejdompanhieaaChecked
import GoSem.Claim
import GoSem.ClaimJoined
import GoSem.ClaimMapViews
import Derived.JoinedTies
import Derived.KernelRfl
namespace Go.Proofs.Ytpejdompanhieaa
/- THE CELL 'sum', in the pinned program and in every row, IS THE sha256 OF THE DUMP (.gsa) THAT YtpejdompanhieaaProg.lean LOADS. Nothing in Lean hashes anything: it is a label: what it is worth is what the hold of that sum in a sandbox is worth. -/
noncomputable def Try.pinned : Pinned := { name := "ytpejdompanhieaa", sum := "be75e15dfe2c48e36eca49d1d0d7ceb5810648b6a64c65c75c982af70c444e96", checked := Try.checked }
namespace Rows
def none {H : Type} : Left H := { results := [], args := [] }

/-- 'bilanderlaw35.WindowFeeds': WHATEVER THE INPUT: true; the input reads as it did. -/
def windowFeedsSpec : ChangeSpec := { name := "windowFeeds", fn := fun _ => fun
  | [d1, d2] => { results := [.lit (.bool true)], args := [d1, d2] }
  | _ => none }
def windowFeedsRow : OpenClaim := { program := "ytpejdompanhieaa", sum := "be75e15dfe2c48e36eca49d1d0d7ceb5810648b6a64c65c75c982af70c444e96", func := "bilander/bilanderlaw35.WindowFeeds", spec := "windowFeeds", inPlace := ["slices.overlaps[bilander/window.Sum]"], unfollowed := true, recurses := true, plainKeys := false, apart := false }
def WindowFeedsSaid : Prop := windowFeedsRow.holds Try.pinned (OpenSpec.ofChange windowFeedsSpec)

/-- ITS FALSE NEIGHBOUR: 'it returns false'. Refute it at one input. -/
def windowFeedsWrong : ChangeSpec := { name := "windowFeeds", fn := fun _ => fun
  | [d1, d2] => { results := [.lit (.bool false)], args := [d1, d2] }
  | _ => none }
def WindowFeedsWrongFalsely : Prop := windowFeedsRow.holds Try.pinned (OpenSpec.ofChange windowFeedsWrong)

/-- 'bilanderlaw35.WindowPuts': WHATEVER THE INPUT: true; the input reads as it did. -/
def windowPutsSpec : ChangeSpec := { name := "windowPuts", fn := fun _ => fun
  | [d1, d2, d3] => { results := [.lit (.bool true)], args := [d1, d2, d3] }
  | _ => none }
def windowPutsRow : OpenClaim := { program := "ytpejdompanhieaa", sum := "be75e15dfe2c48e36eca49d1d0d7ceb5810648b6a64c65c75c982af70c444e96", func := "bilander/bilanderlaw35.WindowPuts", spec := "windowPuts", inPlace := ["slices.overlaps[bilander/window.Sum]"], unfollowed := true, recurses := true, plainKeys := false, apart := false }
def WindowPutsSaid : Prop := windowPutsRow.holds Try.pinned (OpenSpec.ofChange windowPutsSpec)

/-- ITS FALSE NEIGHBOUR: 'it returns false'. Refute it at one input. -/
def windowPutsWrong : ChangeSpec := { name := "windowPuts", fn := fun _ => fun
  | [d1, d2, d3] => { results := [.lit (.bool false)], args := [d1, d2, d3] }
  | _ => none }
def WindowPutsWrongFalsely : Prop := windowPutsRow.holds Try.pinned (OpenSpec.ofChange windowPutsWrong)

/-- 'bilanderlaw35.WindowOnce': WHATEVER THE INPUT: true; the input reads as it did. -/
def windowOnceSpec : ChangeSpec := { name := "windowOnce", fn := fun _ => fun
  | [d1, d2, d3] => { results := [.lit (.bool true)], args := [d1, d2, d3] }
  | _ => none }
def windowOnceRow : OpenClaim := { program := "ytpejdompanhieaa", sum := "be75e15dfe2c48e36eca49d1d0d7ceb5810648b6a64c65c75c982af70c444e96", func := "bilander/bilanderlaw35.WindowOnce", spec := "windowOnce", inPlace := ["slices.overlaps[bilander/window.Sum]"], unfollowed := true, recurses := true, plainKeys := false, apart := false }
def WindowOnceSaid : Prop := windowOnceRow.holds Try.pinned (OpenSpec.ofChange windowOnceSpec)

/-- ITS FALSE NEIGHBOUR: 'it returns false'. Refute it at one input. -/
def windowOnceWrong : ChangeSpec := { name := "windowOnce", fn := fun _ => fun
  | [d1, d2, d3] => { results := [.lit (.bool false)], args := [d1, d2, d3] }
  | _ => none }
def WindowOnceWrongFalsely : Prop := windowOnceRow.holds Try.pinned (OpenSpec.ofChange windowOnceWrong)

/-- 'bilanderlaw35.WindowBack': WHATEVER THE INPUT: true; the input reads as it did. -/
def windowBackSpec : ChangeSpec := { name := "windowBack", fn := fun _ => fun
  | [d1, d2, d3] => { results := [.lit (.bool true)], args := [d1, d2, d3] }
  | _ => none }
def windowBackRow : OpenClaim := { program := "ytpejdompanhieaa", sum := "be75e15dfe2c48e36eca49d1d0d7ceb5810648b6a64c65c75c982af70c444e96", func := "bilander/bilanderlaw35.WindowBack", spec := "windowBack", inPlace := ["slices.overlaps[bilander/window.Sum]"], unfollowed := true, recurses := true, plainKeys := false, apart := false }
def WindowBackSaid : Prop := windowBackRow.holds Try.pinned (OpenSpec.ofChange windowBackSpec)

/-- ITS FALSE NEIGHBOUR: 'it returns false'. Refute it at one input. -/
def windowBackWrong : ChangeSpec := { name := "windowBack", fn := fun _ => fun
  | [d1, d2, d3] => { results := [.lit (.bool false)], args := [d1, d2, d3] }
  | _ => none }
def WindowBackWrongFalsely : Prop := windowBackRow.holds Try.pinned (OpenSpec.ofChange windowBackWrong)

/- THE SECOND FORM. 'bulk': how many values and letters a reading holds, each counted each time it is reached (what is shared counts as often as it is met; a slice's spare places count too). A statement '..UptoSaid' is the law's where the arguments, and the package variables that the reading takes, are together of bulk at most 1048576: NARROWER than '..Said'. Prove '..Said' where nothing that the law and all that it calls make is longer than what came in: it says more and counts as full. Else prove '..UptoSaid'. A law counts once. -/
mutual
def uptoBulk {H : Type} : DataW H → Nat
  | .lit (.string bytes) => bytes.length + 1
  | .lit _ => 1
  | .nil => 1
  | .ptr d => uptoBulk d + 1
  | .slice elems spare => uptoBulkAll elems + uptoBulkAll spare + 1
  | .agg parts => uptoBulkAll parts + 1
  | .iface _ d => uptoBulk d + 1
  | .map entries => uptoBulkEntries entries + 1
  | .held _ => 1
def uptoBulkAll {H : Type} : List (DataW H) → Nat
  | [] => 0
  | d :: r => uptoBulk d + uptoBulkAll r
def uptoBulkEntries {H : Type} : List (Lit × DataW H) → Nat
  | [] => 0
  | x :: r => uptoBulkEntry x + uptoBulkEntries r
def uptoBulkEntry {H : Type} : Lit × DataW H → Nat
  | (.string bytes, d) => bytes.length + uptoBulk d + 1
  | (_, d) => uptoBulk d + 1
 end
def uptoSmall : (H : Type) → List (DataW H) → Bool := fun _ ds => decide (uptoBulkAll ds ≤ 1048576)
def OpenSpec.upto (s : _root_.Go.ChangeSpec) : _root_.Go.OpenSpec := { _root_.Go.OpenSpec.ofChange s with cond := some uptoSmall }

/-- 'bilanderlaw35.WindowFeeds', WHERE WHAT IT READS IS OF BULK AT MOST 1048576: true; the input reads as it did. -/
def windowFeedsUptoRow : OpenClaim := { program := "ytpejdompanhieaa", sum := "be75e15dfe2c48e36eca49d1d0d7ceb5810648b6a64c65c75c982af70c444e96", func := "bilander/bilanderlaw35.WindowFeeds", spec := "windowFeeds", inPlace := ["slices.overlaps[bilander/window.Sum]"], unfollowed := true, recurses := true, plainKeys := false, apart := false, narrowed := true }
def WindowFeedsUptoSaid : Prop := windowFeedsUptoRow.holds Try.pinned (OpenSpec.upto windowFeedsSpec)

/-- 'bilanderlaw35.WindowPuts', WHERE WHAT IT READS IS OF BULK AT MOST 1048576: true; the input reads as it did. -/
def windowPutsUptoRow : OpenClaim := { program := "ytpejdompanhieaa", sum := "be75e15dfe2c48e36eca49d1d0d7ceb5810648b6a64c65c75c982af70c444e96", func := "bilander/bilanderlaw35.WindowPuts", spec := "windowPuts", inPlace := ["slices.overlaps[bilander/window.Sum]"], unfollowed := true, recurses := true, plainKeys := false, apart := false, narrowed := true }
def WindowPutsUptoSaid : Prop := windowPutsUptoRow.holds Try.pinned (OpenSpec.upto windowPutsSpec)

/-- 'bilanderlaw35.WindowOnce', WHERE WHAT IT READS IS OF BULK AT MOST 1048576: true; the input reads as it did. -/
def windowOnceUptoRow : OpenClaim := { program := "ytpejdompanhieaa", sum := "be75e15dfe2c48e36eca49d1d0d7ceb5810648b6a64c65c75c982af70c444e96", func := "bilander/bilanderlaw35.WindowOnce", spec := "windowOnce", inPlace := ["slices.overlaps[bilander/window.Sum]"], unfollowed := true, recurses := true, plainKeys := false, apart := false, narrowed := true }
def WindowOnceUptoSaid : Prop := windowOnceUptoRow.holds Try.pinned (OpenSpec.upto windowOnceSpec)

/-- 'bilanderlaw35.WindowBack', WHERE WHAT IT READS IS OF BULK AT MOST 1048576: true; the input reads as it did. -/
def windowBackUptoRow : OpenClaim := { program := "ytpejdompanhieaa", sum := "be75e15dfe2c48e36eca49d1d0d7ceb5810648b6a64c65c75c982af70c444e96", func := "bilander/bilanderlaw35.WindowBack", spec := "windowBack", inPlace := ["slices.overlaps[bilander/window.Sum]"], unfollowed := true, recurses := true, plainKeys := false, apart := false, narrowed := true }
def WindowBackUptoSaid : Prop := windowBackUptoRow.holds Try.pinned (OpenSpec.upto windowBackSpec)

end Rows
end Go.Proofs.Ytpejdompanhieaa
