/-
  No cell of these rows narrows 'for every input' (looked for: loops, veiled, ifaces, maps, wideKeys, modest, calm, conditions, laid).
  DERIVED. THE GIVEN ROWS OF THIS SEAT. 4 by the template 'for every input the law returns true; each argument reads behind the call as it read before'; 0 by the template 'total and deterministic' (their statements: YtcgmmigjeghmnaaTotals.lean).
  GIVEN WITH THE SEED: the statements are not yours to turn. If you find one false, say at which input.
  Laid BY PROGRAM, IN A SANDBOX (cutbox-rows.mjs): the forced cells as the released guide's own fill.sh prints them over the translation 38dd6bb3ca8134f9… (all of the seat's roots in one cut). By AI agents, Wed Nov 11 2026. No macro, syntax, notation, axiom, sorry.
-/
import Derived.Test.YtcgmmigjeghmnaaChecked
import GoSem.Claim
import GoSem.ClaimJoined
import GoSem.ClaimMapViews
import Derived.JoinedTies
import Derived.KernelRfl
namespace Go.Proofs.Ytcgmmigjeghmnaa
/- THE CELL 'sum', in the pinned program and in every row, IS THE sha256 OF THE DUMP (.gsa) THAT YtcgmmigjeghmnaaProg.lean LOADS. Nothing in Lean hashes anything: it is a label: what it is worth is what the hold of that sum in a sandbox is worth. -/
noncomputable def Try.pinned : Pinned := { name := "ytcgmmigjeghmnaa", sum := "38dd6bb3ca8134f9b757722518d8298570fb336e33ec583b137f59fb196a4b11", checked := Try.checked }
namespace Rows
def none {H : Type} : Left H := { results := [], args := [] }

/-- 'pontagelaw05.BpduBytes': WHATEVER THE INPUT: true; the input reads as it did. -/
def bpduBytesSpec : ChangeSpec := { name := "bpduBytes", fn := fun _ => fun
  | [d] => { results := [.lit (.bool true)], args := [d] }
  | _ => none }
def bpduBytesRow : OpenClaim := { program := "ytcgmmigjeghmnaa", sum := "38dd6bb3ca8134f9b757722518d8298570fb336e33ec583b137f59fb196a4b11", func := "pontage/pontagelaw05.BpduBytes", spec := "bpduBytes", unfollowed := true, recurses := true, apart := false }
def BpduBytesSaid : Prop := bpduBytesRow.holds Try.pinned (OpenSpec.ofChange bpduBytesSpec)

/-- ITS FALSE NEIGHBOUR: 'it returns false'. Refute it at one input. -/
def bpduBytesWrong : ChangeSpec := { name := "bpduBytes", fn := fun _ => fun
  | [d] => { results := [.lit (.bool false)], args := [d] }
  | _ => none }
def BpduBytesWrongFalsely : Prop := bpduBytesRow.holds Try.pinned (OpenSpec.ofChange bpduBytesWrong)

/-- 'pontagelaw05.BpduReads': WHATEVER THE INPUT: true; the input reads as it did. -/
def bpduReadsSpec : ChangeSpec := { name := "bpduReads", fn := fun _ => fun
  | [d] => { results := [.lit (.bool true)], args := [d] }
  | _ => none }
def bpduReadsRow : OpenClaim := { program := "ytcgmmigjeghmnaa", sum := "38dd6bb3ca8134f9b757722518d8298570fb336e33ec583b137f59fb196a4b11", func := "pontage/pontagelaw05.BpduReads", spec := "bpduReads", unfollowed := true, recurses := true, apart := false }
def BpduReadsSaid : Prop := bpduReadsRow.holds Try.pinned (OpenSpec.ofChange bpduReadsSpec)

/-- ITS FALSE NEIGHBOUR: 'it returns false'. Refute it at one input. -/
def bpduReadsWrong : ChangeSpec := { name := "bpduReads", fn := fun _ => fun
  | [d] => { results := [.lit (.bool false)], args := [d] }
  | _ => none }
def BpduReadsWrongFalsely : Prop := bpduReadsRow.holds Try.pinned (OpenSpec.ofChange bpduReadsWrong)

/-- 'pontagelaw05.BpduFrames': WHATEVER THE INPUT: true; the input reads as it did. -/
def bpduFramesSpec : ChangeSpec := { name := "bpduFrames", fn := fun _ => fun
  | [d1, d2, d3] => { results := [.lit (.bool true)], args := [d1, d2, d3] }
  | _ => none }
def bpduFramesRow : OpenClaim := { program := "ytcgmmigjeghmnaa", sum := "38dd6bb3ca8134f9b757722518d8298570fb336e33ec583b137f59fb196a4b11", func := "pontage/pontagelaw05.BpduFrames", spec := "bpduFrames", unfollowed := true, recurses := true, apart := false }
def BpduFramesSaid : Prop := bpduFramesRow.holds Try.pinned (OpenSpec.ofChange bpduFramesSpec)

/-- ITS FALSE NEIGHBOUR: 'it returns false'. Refute it at one input. -/
def bpduFramesWrong : ChangeSpec := { name := "bpduFrames", fn := fun _ => fun
  | [d1, d2, d3] => { results := [.lit (.bool false)], args := [d1, d2, d3] }
  | _ => none }
def BpduFramesWrongFalsely : Prop := bpduFramesRow.holds Try.pinned (OpenSpec.ofChange bpduFramesWrong)

/-- 'pontagelaw05.BpduBack': WHATEVER THE INPUT: true; the input reads as it did. -/
def bpduBackSpec : ChangeSpec := { name := "bpduBack", fn := fun _ => fun
  | [d1, d2, d3] => { results := [.lit (.bool true)], args := [d1, d2, d3] }
  | _ => none }
def bpduBackRow : OpenClaim := { program := "ytcgmmigjeghmnaa", sum := "38dd6bb3ca8134f9b757722518d8298570fb336e33ec583b137f59fb196a4b11", func := "pontage/pontagelaw05.BpduBack", spec := "bpduBack", unfollowed := true, recurses := true, apart := false }
def BpduBackSaid : Prop := bpduBackRow.holds Try.pinned (OpenSpec.ofChange bpduBackSpec)

/-- ITS FALSE NEIGHBOUR: 'it returns false'. Refute it at one input. -/
def bpduBackWrong : ChangeSpec := { name := "bpduBack", fn := fun _ => fun
  | [d1, d2, d3] => { results := [.lit (.bool false)], args := [d1, d2, d3] }
  | _ => none }
def BpduBackWrongFalsely : Prop := bpduBackRow.holds Try.pinned (OpenSpec.ofChange bpduBackWrong)

/- THE SECOND FORM. 'bulk': how many values and letters a reading holds, each counted each time it is reached (what is shared counts as often as it is met; a slice's spare places count too). A statement '..UptoSaid' is the law's where the arguments, and the package variables that the reading takes, are together of bulk at most 1048576: NARROWER than '..Said'. Prove '..Said' where nothing that the law and all that it calls make is longer than what came in: it says more and counts as full. Else prove '..UptoSaid'. A law counts once. -/
mutual
def uptoBulk {H : Type} : DataW H → Nat
  | .lit (.string bytes) => bytes.length + 1
  | .lit _ => 1
  | .nil => 1
  | .ptr d => uptoBulk d + 1
  | .slice elems spare => uptoBulkAll elems + uptoBulkAll spare + 1
  | .agg parts => uptoBulkAll parts + 1
  | .iface _ d => uptoBulk d + 1
  | .map entries => uptoBulkEntries entries + 1
  | .held _ => 1
def uptoBulkAll {H : Type} : List (DataW H) → Nat
  | [] => 0
  | d :: r => uptoBulk d + uptoBulkAll r
def uptoBulkEntries {H : Type} : List (Lit × DataW H) → Nat
  | [] => 0
  | x :: r => uptoBulkEntry x + uptoBulkEntries r
def uptoBulkEntry {H : Type} : Lit × DataW H → Nat
  | (.string bytes, d) => bytes.length + uptoBulk d + 1
  | (_, d) => uptoBulk d + 1
 end
def uptoSmall : (H : Type) → List (DataW H) → Bool := fun _ ds => decide (uptoBulkAll ds ≤ 1048576)
def OpenSpec.upto (s : _root_.Go.ChangeSpec) : _root_.Go.OpenSpec := { _root_.Go.OpenSpec.ofChange s with cond := some uptoSmall }

/-- 'pontagelaw05.BpduBytes', WHERE WHAT IT READS IS OF BULK AT MOST 1048576: true; the input reads as it did. -/
def bpduBytesUptoRow : OpenClaim := { program := "ytcgmmigjeghmnaa", sum := "38dd6bb3ca8134f9b757722518d8298570fb336e33ec583b137f59fb196a4b11", func := "pontage/pontagelaw05.BpduBytes", spec := "bpduBytes", unfollowed := true, recurses := true, apart := false, narrowed := true }
def BpduBytesUptoSaid : Prop := bpduBytesUptoRow.holds Try.pinned (OpenSpec.upto bpduBytesSpec)

/-- 'pontagelaw05.BpduReads', WHERE WHAT IT READS IS OF BULK AT MOST 1048576: true; the input reads as it did. -/
def bpduReadsUptoRow : OpenClaim := { program := "ytcgmmigjeghmnaa", sum := "38dd6bb3ca8134f9b757722518d8298570fb336e33ec583b137f59fb196a4b11", func := "pontage/pontagelaw05.BpduReads", spec := "bpduReads", unfollowed := true, recurses := true, apart := false, narrowed := true }
def BpduReadsUptoSaid : Prop := bpduReadsUptoRow.holds Try.pinned (OpenSpec.upto bpduReadsSpec)

/-- 'pontagelaw05.BpduFrames', WHERE WHAT IT READS IS OF BULK AT MOST 1048576: true; the input reads as it did. -/
def bpduFramesUptoRow : OpenClaim := { program := "ytcgmmigjeghmnaa", sum := "38dd6bb3ca8134f9b757722518d8298570fb336e33ec583b137f59fb196a4b11", func := "pontage/pontagelaw05.BpduFrames", spec := "bpduFrames", unfollowed := true, recurses := true, apart := false, narrowed := true }
def BpduFramesUptoSaid : Prop := bpduFramesUptoRow.holds Try.pinned (OpenSpec.upto bpduFramesSpec)

/-- 'pontagelaw05.BpduBack', WHERE WHAT IT READS IS OF BULK AT MOST 1048576: true; the input reads as it did. -/
def bpduBackUptoRow : OpenClaim := { program := "ytcgmmigjeghmnaa", sum := "38dd6bb3ca8134f9b757722518d8298570fb336e33ec583b137f59fb196a4b11", func := "pontage/pontagelaw05.BpduBack", spec := "bpduBack", unfollowed := true, recurses := true, apart := false, narrowed := true }
def BpduBackUptoSaid : Prop := bpduBackUptoRow.holds Try.pinned (OpenSpec.upto bpduBackSpec)

end Rows
end Go.Proofs.Ytcgmmigjeghmnaa
