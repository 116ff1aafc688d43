/-
  No cell of these rows narrows 'for every input' (looked for: loops, veiled, ifaces, maps, wideKeys, modest, calm, conditions, laid).
  DERIVED. THE GIVEN ROWS OF THIS SEAT. 5 by the template 'for every input the law returns true; each argument reads behind the call as it read before'; 0 by the template 'total and deterministic' (their statements: YthlhhnkalknidaaTotals.lean).
  GIVEN WITH THE SEED: the statements are not yours to turn. If you find one false, say at which input.
  Laid BY PROGRAM, IN A SANDBOX (cutbox-rows.mjs): the forced cells as the released guide's own fill.sh prints them over the translation 5c70c6ec879522ad… (all of the seat's roots in one cut). By AI agents, Wed Nov 11 2026. No macro, syntax, notation, axiom, sorry.
-/
import Derived.Test.YthlhhnkalknidaaChecked
import GoSem.Claim
import GoSem.ClaimJoined
import GoSem.ClaimMapViews
import Derived.JoinedTies
import Derived.KernelRfl
namespace Go.Proofs.Ythlhhnkalknidaa
/- THE CELL 'sum', in the pinned program and in every row, IS THE sha256 OF THE DUMP (.gsa) THAT YthlhhnkalknidaaProg.lean LOADS. Nothing in Lean hashes anything: it is a label: what it is worth is what the hold of that sum in a sandbox is worth. -/
noncomputable def Try.pinned : Pinned := { name := "ythlhhnkalknidaa", sum := "5c70c6ec879522ad42449da93d79a5195097dda9c948b5509f0f8442659bb860", checked := Try.checked }
namespace Rows
def none {H : Type} : Left H := { results := [], args := [] }

/-- 'bilanderlaw33.BloomAdds': WHATEVER THE INPUT: true; the input reads as it did. -/
def bloomAddsSpec : ChangeSpec := { name := "bloomAdds", fn := fun _ => fun
  | [d1, d2, d3] => { results := [.lit (.bool true)], args := [d1, d2, d3] }
  | _ => none }
def bloomAddsRow : OpenClaim := { program := "ythlhhnkalknidaa", sum := "5c70c6ec879522ad42449da93d79a5195097dda9c948b5509f0f8442659bb860", func := "bilander/bilanderlaw33.BloomAdds", spec := "bloomAdds", unfollowed := true, recurses := true, apart := false }
def BloomAddsSaid : Prop := bloomAddsRow.holds Try.pinned (OpenSpec.ofChange bloomAddsSpec)

/-- ITS FALSE NEIGHBOUR: 'it returns false'. Refute it at one input. -/
def bloomAddsWrong : ChangeSpec := { name := "bloomAdds", fn := fun _ => fun
  | [d1, d2, d3] => { results := [.lit (.bool false)], args := [d1, d2, d3] }
  | _ => none }
def BloomAddsWrongFalsely : Prop := bloomAddsRow.holds Try.pinned (OpenSpec.ofChange bloomAddsWrong)

/-- 'bilanderlaw33.BloomJoins': WHATEVER THE INPUT: true; the input reads as it did. -/
def bloomJoinsSpec : ChangeSpec := { name := "bloomJoins", fn := fun _ => fun
  | [d1, d2] => { results := [.lit (.bool true)], args := [d1, d2] }
  | _ => none }
def bloomJoinsRow : OpenClaim := { program := "ythlhhnkalknidaa", sum := "5c70c6ec879522ad42449da93d79a5195097dda9c948b5509f0f8442659bb860", func := "bilander/bilanderlaw33.BloomJoins", spec := "bloomJoins", unfollowed := true, recurses := true, apart := false }
def BloomJoinsSaid : Prop := bloomJoinsRow.holds Try.pinned (OpenSpec.ofChange bloomJoinsSpec)

/-- ITS FALSE NEIGHBOUR: 'it returns false'. Refute it at one input. -/
def bloomJoinsWrong : ChangeSpec := { name := "bloomJoins", fn := fun _ => fun
  | [d1, d2] => { results := [.lit (.bool false)], args := [d1, d2] }
  | _ => none }
def BloomJoinsWrongFalsely : Prop := bloomJoinsRow.holds Try.pinned (OpenSpec.ofChange bloomJoinsWrong)

/-- 'bilanderlaw33.BloomPuts': WHATEVER THE INPUT: true; the input reads as it did. -/
def bloomPutsSpec : ChangeSpec := { name := "bloomPuts", fn := fun _ => fun
  | [d1, d2] => { results := [.lit (.bool true)], args := [d1, d2] }
  | _ => none }
def bloomPutsRow : OpenClaim := { program := "ythlhhnkalknidaa", sum := "5c70c6ec879522ad42449da93d79a5195097dda9c948b5509f0f8442659bb860", func := "bilander/bilanderlaw33.BloomPuts", spec := "bloomPuts", unfollowed := true, recurses := true, apart := false }
def BloomPutsSaid : Prop := bloomPutsRow.holds Try.pinned (OpenSpec.ofChange bloomPutsSpec)

/-- ITS FALSE NEIGHBOUR: 'it returns false'. Refute it at one input. -/
def bloomPutsWrong : ChangeSpec := { name := "bloomPuts", fn := fun _ => fun
  | [d1, d2] => { results := [.lit (.bool false)], args := [d1, d2] }
  | _ => none }
def BloomPutsWrongFalsely : Prop := bloomPutsRow.holds Try.pinned (OpenSpec.ofChange bloomPutsWrong)

/-- 'bilanderlaw33.BloomKeeps': WHATEVER THE INPUT: true; the input reads as it did. -/
def bloomKeepsSpec : ChangeSpec := { name := "bloomKeeps", fn := fun _ => fun
  | [d1, d2, d3] => { results := [.lit (.bool true)], args := [d1, d2, d3] }
  | _ => none }
def bloomKeepsRow : OpenClaim := { program := "ythlhhnkalknidaa", sum := "5c70c6ec879522ad42449da93d79a5195097dda9c948b5509f0f8442659bb860", func := "bilander/bilanderlaw33.BloomKeeps", spec := "bloomKeeps", unfollowed := true, recurses := true, apart := false }
def BloomKeepsSaid : Prop := bloomKeepsRow.holds Try.pinned (OpenSpec.ofChange bloomKeepsSpec)

/-- ITS FALSE NEIGHBOUR: 'it returns false'. Refute it at one input. -/
def bloomKeepsWrong : ChangeSpec := { name := "bloomKeeps", fn := fun _ => fun
  | [d1, d2, d3] => { results := [.lit (.bool false)], args := [d1, d2, d3] }
  | _ => none }
def BloomKeepsWrongFalsely : Prop := bloomKeepsRow.holds Try.pinned (OpenSpec.ofChange bloomKeepsWrong)

/-- 'bilanderlaw33.BloomOrder': WHATEVER THE INPUT: true; the input reads as it did. -/
def bloomOrderSpec : ChangeSpec := { name := "bloomOrder", fn := fun _ => fun
  | [d1, d2] => { results := [.lit (.bool true)], args := [d1, d2] }
  | _ => none }
def bloomOrderRow : OpenClaim := { program := "ythlhhnkalknidaa", sum := "5c70c6ec879522ad42449da93d79a5195097dda9c948b5509f0f8442659bb860", func := "bilander/bilanderlaw33.BloomOrder", spec := "bloomOrder", unfollowed := true, recurses := true, apart := false }
def BloomOrderSaid : Prop := bloomOrderRow.holds Try.pinned (OpenSpec.ofChange bloomOrderSpec)

/-- ITS FALSE NEIGHBOUR: 'it returns false'. Refute it at one input. -/
def bloomOrderWrong : ChangeSpec := { name := "bloomOrder", fn := fun _ => fun
  | [d1, d2] => { results := [.lit (.bool false)], args := [d1, d2] }
  | _ => none }
def BloomOrderWrongFalsely : Prop := bloomOrderRow.holds Try.pinned (OpenSpec.ofChange bloomOrderWrong)

/- THE SECOND FORM. 'bulk': how many values and letters a reading holds, each counted each time it is reached (what is shared counts as often as it is met; a slice's spare places count too). A statement '..UptoSaid' is the law's where the arguments, and the package variables that the reading takes, are together of bulk at most 1048576: NARROWER than '..Said'. Prove '..Said' where nothing that the law and all that it calls make is longer than what came in: it says more and counts as full. Else prove '..UptoSaid'. A law counts once. -/
mutual
def uptoBulk {H : Type} : DataW H → Nat
  | .lit (.string bytes) => bytes.length + 1
  | .lit _ => 1
  | .nil => 1
  | .ptr d => uptoBulk d + 1
  | .slice elems spare => uptoBulkAll elems + uptoBulkAll spare + 1
  | .agg parts => uptoBulkAll parts + 1
  | .iface _ d => uptoBulk d + 1
  | .map entries => uptoBulkEntries entries + 1
  | .held _ => 1
def uptoBulkAll {H : Type} : List (DataW H) → Nat
  | [] => 0
  | d :: r => uptoBulk d + uptoBulkAll r
def uptoBulkEntries {H : Type} : List (Lit × DataW H) → Nat
  | [] => 0
  | x :: r => uptoBulkEntry x + uptoBulkEntries r
def uptoBulkEntry {H : Type} : Lit × DataW H → Nat
  | (.string bytes, d) => bytes.length + uptoBulk d + 1
  | (_, d) => uptoBulk d + 1
 end
def uptoSmall : (H : Type) → List (DataW H) → Bool := fun _ ds => decide (uptoBulkAll ds ≤ 1048576)
def OpenSpec.upto (s : _root_.Go.ChangeSpec) : _root_.Go.OpenSpec := { _root_.Go.OpenSpec.ofChange s with cond := some uptoSmall }

/-- 'bilanderlaw33.BloomAdds', WHERE WHAT IT READS IS OF BULK AT MOST 1048576: true; the input reads as it did. -/
def bloomAddsUptoRow : OpenClaim := { program := "ythlhhnkalknidaa", sum := "5c70c6ec879522ad42449da93d79a5195097dda9c948b5509f0f8442659bb860", func := "bilander/bilanderlaw33.BloomAdds", spec := "bloomAdds", unfollowed := true, recurses := true, apart := false, narrowed := true }
def BloomAddsUptoSaid : Prop := bloomAddsUptoRow.holds Try.pinned (OpenSpec.upto bloomAddsSpec)

/-- 'bilanderlaw33.BloomJoins', WHERE WHAT IT READS IS OF BULK AT MOST 1048576: true; the input reads as it did. -/
def bloomJoinsUptoRow : OpenClaim := { program := "ythlhhnkalknidaa", sum := "5c70c6ec879522ad42449da93d79a5195097dda9c948b5509f0f8442659bb860", func := "bilander/bilanderlaw33.BloomJoins", spec := "bloomJoins", unfollowed := true, recurses := true, apart := false, narrowed := true }
def BloomJoinsUptoSaid : Prop := bloomJoinsUptoRow.holds Try.pinned (OpenSpec.upto bloomJoinsSpec)

/-- 'bilanderlaw33.BloomPuts', WHERE WHAT IT READS IS OF BULK AT MOST 1048576: true; the input reads as it did. -/
def bloomPutsUptoRow : OpenClaim := { program := "ythlhhnkalknidaa", sum := "5c70c6ec879522ad42449da93d79a5195097dda9c948b5509f0f8442659bb860", func := "bilander/bilanderlaw33.BloomPuts", spec := "bloomPuts", unfollowed := true, recurses := true, apart := false, narrowed := true }
def BloomPutsUptoSaid : Prop := bloomPutsUptoRow.holds Try.pinned (OpenSpec.upto bloomPutsSpec)

/-- 'bilanderlaw33.BloomKeeps', WHERE WHAT IT READS IS OF BULK AT MOST 1048576: true; the input reads as it did. -/
def bloomKeepsUptoRow : OpenClaim := { program := "ythlhhnkalknidaa", sum := "5c70c6ec879522ad42449da93d79a5195097dda9c948b5509f0f8442659bb860", func := "bilander/bilanderlaw33.BloomKeeps", spec := "bloomKeeps", unfollowed := true, recurses := true, apart := false, narrowed := true }
def BloomKeepsUptoSaid : Prop := bloomKeepsUptoRow.holds Try.pinned (OpenSpec.upto bloomKeepsSpec)

/-- 'bilanderlaw33.BloomOrder', WHERE WHAT IT READS IS OF BULK AT MOST 1048576: true; the input reads as it did. -/
def bloomOrderUptoRow : OpenClaim := { program := "ythlhhnkalknidaa", sum := "5c70c6ec879522ad42449da93d79a5195097dda9c948b5509f0f8442659bb860", func := "bilander/bilanderlaw33.BloomOrder", spec := "bloomOrder", unfollowed := true, recurses := true, apart := false, narrowed := true }
def BloomOrderUptoSaid : Prop := bloomOrderUptoRow.holds Try.pinned (OpenSpec.upto bloomOrderSpec)

end Rows
end Go.Proofs.Ythlhhnkalknidaa
