/-
  No cell of these rows narrows 'for every input' (looked for: loops, veiled, ifaces, maps, wideKeys, modest, calm, conditions, laid).
  DERIVED. THE GIVEN ROWS OF THIS SEAT. 7 by the template 'for every input the law returns true; each argument reads behind the call as it read before'; 0 by the template 'total and deterministic' (their statements: YtpdcgjpkcjhbjaaTotals.lean).
  GIVEN WITH THE SEED: the statements are not yours to turn. If you find one false, say at which input.
  Laid BY PROGRAM, IN A SANDBOX (cutbox-rows.mjs): the forced cells as the released guide's own fill.sh prints them over the translation e278d47691ed6895… (all of the seat's roots in one cut). By AI agents, Wed Nov 11 2026. No macro, syntax, notation, axiom, sorry.
-/
import Derived.Test.YtpdcgjpkcjhbjaaChecked
import GoSem.Claim
import GoSem.ClaimJoined
import GoSem.ClaimMapViews
import Derived.JoinedTies
import Derived.KernelRfl
namespace Go.Proofs.Ytpdcgjpkcjhbjaa
/- THE CELL 'sum', in the pinned program and in every row, IS THE sha256 OF THE DUMP (.gsa) THAT YtpdcgjpkcjhbjaaProg.lean LOADS. Nothing in Lean hashes anything: it is a label: what it is worth is what the hold of that sum in a sandbox is worth. -/
noncomputable def Try.pinned : Pinned := { name := "ytpdcgjpkcjhbjaa", sum := "e278d47691ed6895dc3f61b9b855d94de4d09f56756f3a7f06ae59b1d6818ac2", checked := Try.checked }
namespace Rows
def none {H : Type} : Left H := { results := [], args := [] }

/-- 'pontagelaw16.SpanNodes': WHATEVER THE INPUT: true; the input reads as it did. -/
def spanNodesSpec : ChangeSpec := { name := "spanNodes", fn := fun _ => fun
  | [d1, d2] => { results := [.lit (.bool true)], args := [d1, d2] }
  | _ => none }
def spanNodesRow : OpenClaim := { program := "ytpdcgjpkcjhbjaa", sum := "e278d47691ed6895dc3f61b9b855d94de4d09f56756f3a7f06ae59b1d6818ac2", func := "pontage/pontagelaw16.SpanNodes", spec := "spanNodes", unfollowed := true, recurses := true, apart := false }
def SpanNodesSaid : Prop := spanNodesRow.holds Try.pinned (OpenSpec.ofChange spanNodesSpec)

/-- ITS FALSE NEIGHBOUR: 'it returns false'. Refute it at one input. -/
def spanNodesWrong : ChangeSpec := { name := "spanNodes", fn := fun _ => fun
  | [d1, d2] => { results := [.lit (.bool false)], args := [d1, d2] }
  | _ => none }
def SpanNodesWrongFalsely : Prop := spanNodesRow.holds Try.pinned (OpenSpec.ofChange spanNodesWrong)

/-- 'pontagelaw16.SpanEnds': WHATEVER THE INPUT: true; the input reads as it did. -/
def spanEndsSpec : ChangeSpec := { name := "spanEnds", fn := fun _ => fun
  | [d1, d2] => { results := [.lit (.bool true)], args := [d1, d2] }
  | _ => none }
def spanEndsRow : OpenClaim := { program := "ytpdcgjpkcjhbjaa", sum := "e278d47691ed6895dc3f61b9b855d94de4d09f56756f3a7f06ae59b1d6818ac2", func := "pontage/pontagelaw16.SpanEnds", spec := "spanEnds", unfollowed := true, recurses := true, apart := false }
def SpanEndsSaid : Prop := spanEndsRow.holds Try.pinned (OpenSpec.ofChange spanEndsSpec)

/-- ITS FALSE NEIGHBOUR: 'it returns false'. Refute it at one input. -/
def spanEndsWrong : ChangeSpec := { name := "spanEnds", fn := fun _ => fun
  | [d1, d2] => { results := [.lit (.bool false)], args := [d1, d2] }
  | _ => none }
def SpanEndsWrongFalsely : Prop := spanEndsRow.holds Try.pinned (OpenSpec.ofChange spanEndsWrong)

/-- 'pontagelaw16.SpanTree': WHATEVER THE INPUT: true; the input reads as it did. -/
def spanTreeSpec : ChangeSpec := { name := "spanTree", fn := fun _ => fun
  | [d1, d2] => { results := [.lit (.bool true)], args := [d1, d2] }
  | _ => none }
def spanTreeRow : OpenClaim := { program := "ytpdcgjpkcjhbjaa", sum := "e278d47691ed6895dc3f61b9b855d94de4d09f56756f3a7f06ae59b1d6818ac2", func := "pontage/pontagelaw16.SpanTree", spec := "spanTree", unfollowed := true, recurses := true, apart := false }
def SpanTreeSaid : Prop := spanTreeRow.holds Try.pinned (OpenSpec.ofChange spanTreeSpec)

/-- ITS FALSE NEIGHBOUR: 'it returns false'. Refute it at one input. -/
def spanTreeWrong : ChangeSpec := { name := "spanTree", fn := fun _ => fun
  | [d1, d2] => { results := [.lit (.bool false)], args := [d1, d2] }
  | _ => none }
def SpanTreeWrongFalsely : Prop := spanTreeRow.holds Try.pinned (OpenSpec.ofChange spanTreeWrong)

/-- 'pontagelaw16.SpanFits': WHATEVER THE INPUT: true; the input reads as it did. -/
def spanFitsSpec : ChangeSpec := { name := "spanFits", fn := fun _ => fun
  | [d1, d2] => { results := [.lit (.bool true)], args := [d1, d2] }
  | _ => none }
def spanFitsRow : OpenClaim := { program := "ytpdcgjpkcjhbjaa", sum := "e278d47691ed6895dc3f61b9b855d94de4d09f56756f3a7f06ae59b1d6818ac2", func := "pontage/pontagelaw16.SpanFits", spec := "spanFits", unfollowed := true, recurses := true, apart := false }
def SpanFitsSaid : Prop := spanFitsRow.holds Try.pinned (OpenSpec.ofChange spanFitsSpec)

/-- ITS FALSE NEIGHBOUR: 'it returns false'. Refute it at one input. -/
def spanFitsWrong : ChangeSpec := { name := "spanFits", fn := fun _ => fun
  | [d1, d2] => { results := [.lit (.bool false)], args := [d1, d2] }
  | _ => none }
def SpanFitsWrongFalsely : Prop := spanFitsRow.holds Try.pinned (OpenSpec.ofChange spanFitsWrong)

/-- 'pontagelaw16.SpanLeast': WHATEVER THE INPUT: true; the input reads as it did. -/
def spanLeastSpec : ChangeSpec := { name := "spanLeast", fn := fun _ => fun
  | [d1, d2] => { results := [.lit (.bool true)], args := [d1, d2] }
  | _ => none }
def spanLeastRow : OpenClaim := { program := "ytpdcgjpkcjhbjaa", sum := "e278d47691ed6895dc3f61b9b855d94de4d09f56756f3a7f06ae59b1d6818ac2", func := "pontage/pontagelaw16.SpanLeast", spec := "spanLeast", unfollowed := true, recurses := true, apart := false }
def SpanLeastSaid : Prop := spanLeastRow.holds Try.pinned (OpenSpec.ofChange spanLeastSpec)

/-- ITS FALSE NEIGHBOUR: 'it returns false'. Refute it at one input. -/
def spanLeastWrong : ChangeSpec := { name := "spanLeast", fn := fun _ => fun
  | [d1, d2] => { results := [.lit (.bool false)], args := [d1, d2] }
  | _ => none }
def SpanLeastWrongFalsely : Prop := spanLeastRow.holds Try.pinned (OpenSpec.ofChange spanLeastWrong)

/-- 'pontagelaw16.SpanTurned': WHATEVER THE INPUT: true; the input reads as it did. -/
def spanTurnedSpec : ChangeSpec := { name := "spanTurned", fn := fun _ => fun
  | [d1, d2, d3] => { results := [.lit (.bool true)], args := [d1, d2, d3] }
  | _ => none }
def spanTurnedRow : OpenClaim := { program := "ytpdcgjpkcjhbjaa", sum := "e278d47691ed6895dc3f61b9b855d94de4d09f56756f3a7f06ae59b1d6818ac2", func := "pontage/pontagelaw16.SpanTurned", spec := "spanTurned", unfollowed := true, recurses := true, apart := false }
def SpanTurnedSaid : Prop := spanTurnedRow.holds Try.pinned (OpenSpec.ofChange spanTurnedSpec)

/-- ITS FALSE NEIGHBOUR: 'it returns false'. Refute it at one input. -/
def spanTurnedWrong : ChangeSpec := { name := "spanTurned", fn := fun _ => fun
  | [d1, d2, d3] => { results := [.lit (.bool false)], args := [d1, d2, d3] }
  | _ => none }
def SpanTurnedWrongFalsely : Prop := spanTurnedRow.holds Try.pinned (OpenSpec.ofChange spanTurnedWrong)

/-- 'pontagelaw16.SpanStable': WHATEVER THE INPUT: true; the input reads as it did. -/
def spanStableSpec : ChangeSpec := { name := "spanStable", fn := fun _ => fun
  | [d1, d2] => { results := [.lit (.bool true)], args := [d1, d2] }
  | _ => none }
def spanStableRow : OpenClaim := { program := "ytpdcgjpkcjhbjaa", sum := "e278d47691ed6895dc3f61b9b855d94de4d09f56756f3a7f06ae59b1d6818ac2", func := "pontage/pontagelaw16.SpanStable", spec := "spanStable", unfollowed := true, recurses := true, apart := false }
def SpanStableSaid : Prop := spanStableRow.holds Try.pinned (OpenSpec.ofChange spanStableSpec)

/-- ITS FALSE NEIGHBOUR: 'it returns false'. Refute it at one input. -/
def spanStableWrong : ChangeSpec := { name := "spanStable", fn := fun _ => fun
  | [d1, d2] => { results := [.lit (.bool false)], args := [d1, d2] }
  | _ => none }
def SpanStableWrongFalsely : Prop := spanStableRow.holds Try.pinned (OpenSpec.ofChange spanStableWrong)

/- THE SECOND FORM. 'bulk': how many values and letters a reading holds, each counted each time it is reached (what is shared counts as often as it is met; a slice's spare places count too). A statement '..UptoSaid' is the law's where the arguments, and the package variables that the reading takes, are together of bulk at most 1048576: NARROWER than '..Said'. Prove '..Said' where nothing that the law and all that it calls make is longer than what came in: it says more and counts as full. Else prove '..UptoSaid'. A law counts once. -/
mutual
def uptoBulk {H : Type} : DataW H → Nat
  | .lit (.string bytes) => bytes.length + 1
  | .lit _ => 1
  | .nil => 1
  | .ptr d => uptoBulk d + 1
  | .slice elems spare => uptoBulkAll elems + uptoBulkAll spare + 1
  | .agg parts => uptoBulkAll parts + 1
  | .iface _ d => uptoBulk d + 1
  | .map entries => uptoBulkEntries entries + 1
  | .held _ => 1
def uptoBulkAll {H : Type} : List (DataW H) → Nat
  | [] => 0
  | d :: r => uptoBulk d + uptoBulkAll r
def uptoBulkEntries {H : Type} : List (Lit × DataW H) → Nat
  | [] => 0
  | x :: r => uptoBulkEntry x + uptoBulkEntries r
def uptoBulkEntry {H : Type} : Lit × DataW H → Nat
  | (.string bytes, d) => bytes.length + uptoBulk d + 1
  | (_, d) => uptoBulk d + 1
 end
def uptoSmall : (H : Type) → List (DataW H) → Bool := fun _ ds => decide (uptoBulkAll ds ≤ 1048576)
def OpenSpec.upto (s : _root_.Go.ChangeSpec) : _root_.Go.OpenSpec := { _root_.Go.OpenSpec.ofChange s with cond := some uptoSmall }

/-- 'pontagelaw16.SpanNodes', WHERE WHAT IT READS IS OF BULK AT MOST 1048576: true; the input reads as it did. -/
def spanNodesUptoRow : OpenClaim := { program := "ytpdcgjpkcjhbjaa", sum := "e278d47691ed6895dc3f61b9b855d94de4d09f56756f3a7f06ae59b1d6818ac2", func := "pontage/pontagelaw16.SpanNodes", spec := "spanNodes", unfollowed := true, recurses := true, apart := false, narrowed := true }
def SpanNodesUptoSaid : Prop := spanNodesUptoRow.holds Try.pinned (OpenSpec.upto spanNodesSpec)

/-- 'pontagelaw16.SpanEnds', WHERE WHAT IT READS IS OF BULK AT MOST 1048576: true; the input reads as it did. -/
def spanEndsUptoRow : OpenClaim := { program := "ytpdcgjpkcjhbjaa", sum := "e278d47691ed6895dc3f61b9b855d94de4d09f56756f3a7f06ae59b1d6818ac2", func := "pontage/pontagelaw16.SpanEnds", spec := "spanEnds", unfollowed := true, recurses := true, apart := false, narrowed := true }
def SpanEndsUptoSaid : Prop := spanEndsUptoRow.holds Try.pinned (OpenSpec.upto spanEndsSpec)

/-- 'pontagelaw16.SpanTree', WHERE WHAT IT READS IS OF BULK AT MOST 1048576: true; the input reads as it did. -/
def spanTreeUptoRow : OpenClaim := { program := "ytpdcgjpkcjhbjaa", sum := "e278d47691ed6895dc3f61b9b855d94de4d09f56756f3a7f06ae59b1d6818ac2", func := "pontage/pontagelaw16.SpanTree", spec := "spanTree", unfollowed := true, recurses := true, apart := false, narrowed := true }
def SpanTreeUptoSaid : Prop := spanTreeUptoRow.holds Try.pinned (OpenSpec.upto spanTreeSpec)

/-- 'pontagelaw16.SpanFits', WHERE WHAT IT READS IS OF BULK AT MOST 1048576: true; the input reads as it did. -/
def spanFitsUptoRow : OpenClaim := { program := "ytpdcgjpkcjhbjaa", sum := "e278d47691ed6895dc3f61b9b855d94de4d09f56756f3a7f06ae59b1d6818ac2", func := "pontage/pontagelaw16.SpanFits", spec := "spanFits", unfollowed := true, recurses := true, apart := false, narrowed := true }
def SpanFitsUptoSaid : Prop := spanFitsUptoRow.holds Try.pinned (OpenSpec.upto spanFitsSpec)

/-- 'pontagelaw16.SpanLeast', WHERE WHAT IT READS IS OF BULK AT MOST 1048576: true; the input reads as it did. -/
def spanLeastUptoRow : OpenClaim := { program := "ytpdcgjpkcjhbjaa", sum := "e278d47691ed6895dc3f61b9b855d94de4d09f56756f3a7f06ae59b1d6818ac2", func := "pontage/pontagelaw16.SpanLeast", spec := "spanLeast", unfollowed := true, recurses := true, apart := false, narrowed := true }
def SpanLeastUptoSaid : Prop := spanLeastUptoRow.holds Try.pinned (OpenSpec.upto spanLeastSpec)

/-- 'pontagelaw16.SpanTurned', WHERE WHAT IT READS IS OF BULK AT MOST 1048576: true; the input reads as it did. -/
def spanTurnedUptoRow : OpenClaim := { program := "ytpdcgjpkcjhbjaa", sum := "e278d47691ed6895dc3f61b9b855d94de4d09f56756f3a7f06ae59b1d6818ac2", func := "pontage/pontagelaw16.SpanTurned", spec := "spanTurned", unfollowed := true, recurses := true, apart := false, narrowed := true }
def SpanTurnedUptoSaid : Prop := spanTurnedUptoRow.holds Try.pinned (OpenSpec.upto spanTurnedSpec)

/-- 'pontagelaw16.SpanStable', WHERE WHAT IT READS IS OF BULK AT MOST 1048576: true; the input reads as it did. -/
def spanStableUptoRow : OpenClaim := { program := "ytpdcgjpkcjhbjaa", sum := "e278d47691ed6895dc3f61b9b855d94de4d09f56756f3a7f06ae59b1d6818ac2", func := "pontage/pontagelaw16.SpanStable", spec := "spanStable", unfollowed := true, recurses := true, apart := false, narrowed := true }
def SpanStableUptoSaid : Prop := spanStableUptoRow.holds Try.pinned (OpenSpec.upto spanStableSpec)

end Rows
end Go.Proofs.Ytpdcgjpkcjhbjaa
