/-
  No cell of these rows narrows 'for every input' (looked for: loops, veiled, ifaces, maps, wideKeys, modest, calm, conditions, laid).
  DERIVED. THE GIVEN ROWS OF THIS SEAT. 6 by the template 'for every input the law returns true; each argument reads behind the call as it read before'; 0 by the template 'total and deterministic' (their statements: YtiddoflcajgjjaaTotals.lean).
  GIVEN WITH THE SEED: the statements are not yours to turn. If you find one false, say at which input.
  Laid BY PROGRAM, IN A SANDBOX (cutbox-rows.mjs): the forced cells as the released guide's own fill.sh prints them over the translation 5ed10602ada79824… (all of the seat's roots in one cut). By AI agents, Wed Nov 11 2026. No macro, syntax, notation, axiom, sorry.
-/
import Derived.Test.YtiddoflcajgjjaaChecked
import GoSem.Claim
import GoSem.ClaimJoined
import GoSem.ClaimMapViews
import Derived.JoinedTies
import Derived.KernelRfl
namespace Go.Proofs.Ytiddoflcajgjjaa
/- THE CELL 'sum', in the pinned program and in every row, IS THE sha256 OF THE DUMP (.gsa) THAT YtiddoflcajgjjaaProg.lean LOADS. Nothing in Lean hashes anything: it is a label: what it is worth is what the hold of that sum in a sandbox is worth. -/
noncomputable def Try.pinned : Pinned := { name := "ytiddoflcajgjjaa", sum := "5ed10602ada7982472a219d3768fba6c679446f339fcc140888902ebca7f894d", checked := Try.checked }
namespace Rows
def none {H : Type} : Left H := { results := [], args := [] }

/-- 'pontagelaw32.AuditFrames': WHATEVER THE INPUT: true; the input reads as it did. -/
def auditFramesSpec : ChangeSpec := { name := "auditFrames", fn := fun _ => fun
  | [d1, d2, d3] => { results := [.lit (.bool true)], args := [d1, d2, d3] }
  | _ => none }
def auditFramesRow : OpenClaim := { program := "ytiddoflcajgjjaa", sum := "5ed10602ada7982472a219d3768fba6c679446f339fcc140888902ebca7f894d", func := "pontage/pontagelaw32.AuditFrames", spec := "auditFrames", unfollowed := true, recurses := true, apart := false }
def AuditFramesSaid : Prop := auditFramesRow.holds Try.pinned (OpenSpec.ofChange auditFramesSpec)

/-- ITS FALSE NEIGHBOUR: 'it returns false'. Refute it at one input. -/
def auditFramesWrong : ChangeSpec := { name := "auditFrames", fn := fun _ => fun
  | [d1, d2, d3] => { results := [.lit (.bool false)], args := [d1, d2, d3] }
  | _ => none }
def AuditFramesWrongFalsely : Prop := auditFramesRow.holds Try.pinned (OpenSpec.ofChange auditFramesWrong)

/-- 'pontagelaw32.AuditRight': WHATEVER THE INPUT: true; the input reads as it did. -/
def auditRightSpec : ChangeSpec := { name := "auditRight", fn := fun _ => fun
  | [d1, d2, d3, d4] => { results := [.lit (.bool true)], args := [d1, d2, d3, d4] }
  | _ => none }
def auditRightRow : OpenClaim := { program := "ytiddoflcajgjjaa", sum := "5ed10602ada7982472a219d3768fba6c679446f339fcc140888902ebca7f894d", func := "pontage/pontagelaw32.AuditRight", spec := "auditRight", unfollowed := true, recurses := true, apart := false }
def AuditRightSaid : Prop := auditRightRow.holds Try.pinned (OpenSpec.ofChange auditRightSpec)

/-- ITS FALSE NEIGHBOUR: 'it returns false'. Refute it at one input. -/
def auditRightWrong : ChangeSpec := { name := "auditRight", fn := fun _ => fun
  | [d1, d2, d3, d4] => { results := [.lit (.bool false)], args := [d1, d2, d3, d4] }
  | _ => none }
def AuditRightWrongFalsely : Prop := auditRightRow.holds Try.pinned (OpenSpec.ofChange auditRightWrong)

/-- 'pontagelaw32.AuditCounts': WHATEVER THE INPUT: true; the input reads as it did. -/
def auditCountsSpec : ChangeSpec := { name := "auditCounts", fn := fun _ => fun
  | [d1, d2, d3] => { results := [.lit (.bool true)], args := [d1, d2, d3] }
  | _ => none }
def auditCountsRow : OpenClaim := { program := "ytiddoflcajgjjaa", sum := "5ed10602ada7982472a219d3768fba6c679446f339fcc140888902ebca7f894d", func := "pontage/pontagelaw32.AuditCounts", spec := "auditCounts", unfollowed := true, recurses := true, apart := false }
def AuditCountsSaid : Prop := auditCountsRow.holds Try.pinned (OpenSpec.ofChange auditCountsSpec)

/-- ITS FALSE NEIGHBOUR: 'it returns false'. Refute it at one input. -/
def auditCountsWrong : ChangeSpec := { name := "auditCounts", fn := fun _ => fun
  | [d1, d2, d3] => { results := [.lit (.bool false)], args := [d1, d2, d3] }
  | _ => none }
def AuditCountsWrongFalsely : Prop := auditCountsRow.holds Try.pinned (OpenSpec.ofChange auditCountsWrong)

/-- 'pontagelaw32.AuditOne': WHATEVER THE INPUT: true; the input reads as it did. -/
def auditOneSpec : ChangeSpec := { name := "auditOne", fn := fun _ => fun
  | [d1, d2, d3, d4, d5] => { results := [.lit (.bool true)], args := [d1, d2, d3, d4, d5] }
  | _ => none }
def auditOneRow : OpenClaim := { program := "ytiddoflcajgjjaa", sum := "5ed10602ada7982472a219d3768fba6c679446f339fcc140888902ebca7f894d", func := "pontage/pontagelaw32.AuditOne", spec := "auditOne", unfollowed := true, recurses := true, apart := false }
def AuditOneSaid : Prop := auditOneRow.holds Try.pinned (OpenSpec.ofChange auditOneSpec)

/-- ITS FALSE NEIGHBOUR: 'it returns false'. Refute it at one input. -/
def auditOneWrong : ChangeSpec := { name := "auditOne", fn := fun _ => fun
  | [d1, d2, d3, d4, d5] => { results := [.lit (.bool false)], args := [d1, d2, d3, d4, d5] }
  | _ => none }
def AuditOneWrongFalsely : Prop := auditOneRow.holds Try.pinned (OpenSpec.ofChange auditOneWrong)

/-- 'pontagelaw32.AuditTrees': WHATEVER THE INPUT: true; the input reads as it did. -/
def auditTreesSpec : ChangeSpec := { name := "auditTrees", fn := fun _ => fun
  | [d1, d2, d3] => { results := [.lit (.bool true)], args := [d1, d2, d3] }
  | _ => none }
def auditTreesRow : OpenClaim := { program := "ytiddoflcajgjjaa", sum := "5ed10602ada7982472a219d3768fba6c679446f339fcc140888902ebca7f894d", func := "pontage/pontagelaw32.AuditTrees", spec := "auditTrees", unfollowed := true, recurses := true, apart := false }
def AuditTreesSaid : Prop := auditTreesRow.holds Try.pinned (OpenSpec.ofChange auditTreesSpec)

/-- ITS FALSE NEIGHBOUR: 'it returns false'. Refute it at one input. -/
def auditTreesWrong : ChangeSpec := { name := "auditTrees", fn := fun _ => fun
  | [d1, d2, d3] => { results := [.lit (.bool false)], args := [d1, d2, d3] }
  | _ => none }
def AuditTreesWrongFalsely : Prop := auditTreesRow.holds Try.pinned (OpenSpec.ofChange auditTreesWrong)

/-- 'pontagelaw32.AuditSpans': WHATEVER THE INPUT: true; the input reads as it did. -/
def auditSpansSpec : ChangeSpec := { name := "auditSpans", fn := fun _ => fun
  | [d1, d2, d3, d4] => { results := [.lit (.bool true)], args := [d1, d2, d3, d4] }
  | _ => none }
def auditSpansRow : OpenClaim := { program := "ytiddoflcajgjjaa", sum := "5ed10602ada7982472a219d3768fba6c679446f339fcc140888902ebca7f894d", func := "pontage/pontagelaw32.AuditSpans", spec := "auditSpans", unfollowed := true, recurses := true, apart := false }
def AuditSpansSaid : Prop := auditSpansRow.holds Try.pinned (OpenSpec.ofChange auditSpansSpec)

/-- ITS FALSE NEIGHBOUR: 'it returns false'. Refute it at one input. -/
def auditSpansWrong : ChangeSpec := { name := "auditSpans", fn := fun _ => fun
  | [d1, d2, d3, d4] => { results := [.lit (.bool false)], args := [d1, d2, d3, d4] }
  | _ => none }
def AuditSpansWrongFalsely : Prop := auditSpansRow.holds Try.pinned (OpenSpec.ofChange auditSpansWrong)

/- THE SECOND FORM. 'bulk': how many values and letters a reading holds, each counted each time it is reached (what is shared counts as often as it is met; a slice's spare places count too). A statement '..UptoSaid' is the law's where the arguments, and the package variables that the reading takes, are together of bulk at most 1048576: NARROWER than '..Said'. Prove '..Said' where nothing that the law and all that it calls make is longer than what came in: it says more and counts as full. Else prove '..UptoSaid'. A law counts once. -/
mutual
def uptoBulk {H : Type} : DataW H → Nat
  | .lit (.string bytes) => bytes.length + 1
  | .lit _ => 1
  | .nil => 1
  | .ptr d => uptoBulk d + 1
  | .slice elems spare => uptoBulkAll elems + uptoBulkAll spare + 1
  | .agg parts => uptoBulkAll parts + 1
  | .iface _ d => uptoBulk d + 1
  | .map entries => uptoBulkEntries entries + 1
  | .held _ => 1
def uptoBulkAll {H : Type} : List (DataW H) → Nat
  | [] => 0
  | d :: r => uptoBulk d + uptoBulkAll r
def uptoBulkEntries {H : Type} : List (Lit × DataW H) → Nat
  | [] => 0
  | x :: r => uptoBulkEntry x + uptoBulkEntries r
def uptoBulkEntry {H : Type} : Lit × DataW H → Nat
  | (.string bytes, d) => bytes.length + uptoBulk d + 1
  | (_, d) => uptoBulk d + 1
 end
def uptoSmall : (H : Type) → List (DataW H) → Bool := fun _ ds => decide (uptoBulkAll ds ≤ 1048576)
def OpenSpec.upto (s : _root_.Go.ChangeSpec) : _root_.Go.OpenSpec := { _root_.Go.OpenSpec.ofChange s with cond := some uptoSmall }

/-- 'pontagelaw32.AuditFrames', WHERE WHAT IT READS IS OF BULK AT MOST 1048576: true; the input reads as it did. -/
def auditFramesUptoRow : OpenClaim := { program := "ytiddoflcajgjjaa", sum := "5ed10602ada7982472a219d3768fba6c679446f339fcc140888902ebca7f894d", func := "pontage/pontagelaw32.AuditFrames", spec := "auditFrames", unfollowed := true, recurses := true, apart := false, narrowed := true }
def AuditFramesUptoSaid : Prop := auditFramesUptoRow.holds Try.pinned (OpenSpec.upto auditFramesSpec)

/-- 'pontagelaw32.AuditRight', WHERE WHAT IT READS IS OF BULK AT MOST 1048576: true; the input reads as it did. -/
def auditRightUptoRow : OpenClaim := { program := "ytiddoflcajgjjaa", sum := "5ed10602ada7982472a219d3768fba6c679446f339fcc140888902ebca7f894d", func := "pontage/pontagelaw32.AuditRight", spec := "auditRight", unfollowed := true, recurses := true, apart := false, narrowed := true }
def AuditRightUptoSaid : Prop := auditRightUptoRow.holds Try.pinned (OpenSpec.upto auditRightSpec)

/-- 'pontagelaw32.AuditCounts', WHERE WHAT IT READS IS OF BULK AT MOST 1048576: true; the input reads as it did. -/
def auditCountsUptoRow : OpenClaim := { program := "ytiddoflcajgjjaa", sum := "5ed10602ada7982472a219d3768fba6c679446f339fcc140888902ebca7f894d", func := "pontage/pontagelaw32.AuditCounts", spec := "auditCounts", unfollowed := true, recurses := true, apart := false, narrowed := true }
def AuditCountsUptoSaid : Prop := auditCountsUptoRow.holds Try.pinned (OpenSpec.upto auditCountsSpec)

/-- 'pontagelaw32.AuditOne', WHERE WHAT IT READS IS OF BULK AT MOST 1048576: true; the input reads as it did. -/
def auditOneUptoRow : OpenClaim := { program := "ytiddoflcajgjjaa", sum := "5ed10602ada7982472a219d3768fba6c679446f339fcc140888902ebca7f894d", func := "pontage/pontagelaw32.AuditOne", spec := "auditOne", unfollowed := true, recurses := true, apart := false, narrowed := true }
def AuditOneUptoSaid : Prop := auditOneUptoRow.holds Try.pinned (OpenSpec.upto auditOneSpec)

/-- 'pontagelaw32.AuditTrees', WHERE WHAT IT READS IS OF BULK AT MOST 1048576: true; the input reads as it did. -/
def auditTreesUptoRow : OpenClaim := { program := "ytiddoflcajgjjaa", sum := "5ed10602ada7982472a219d3768fba6c679446f339fcc140888902ebca7f894d", func := "pontage/pontagelaw32.AuditTrees", spec := "auditTrees", unfollowed := true, recurses := true, apart := false, narrowed := true }
def AuditTreesUptoSaid : Prop := auditTreesUptoRow.holds Try.pinned (OpenSpec.upto auditTreesSpec)

/-- 'pontagelaw32.AuditSpans', WHERE WHAT IT READS IS OF BULK AT MOST 1048576: true; the input reads as it did. -/
def auditSpansUptoRow : OpenClaim := { program := "ytiddoflcajgjjaa", sum := "5ed10602ada7982472a219d3768fba6c679446f339fcc140888902ebca7f894d", func := "pontage/pontagelaw32.AuditSpans", spec := "auditSpans", unfollowed := true, recurses := true, apart := false, narrowed := true }
def AuditSpansUptoSaid : Prop := auditSpansUptoRow.holds Try.pinned (OpenSpec.upto auditSpansSpec)

end Rows
end Go.Proofs.Ytiddoflcajgjjaa
