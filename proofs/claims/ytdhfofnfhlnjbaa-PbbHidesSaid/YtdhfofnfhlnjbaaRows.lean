/-
  No cell of these rows narrows 'for every input' (looked for: loops, veiled, ifaces, maps, wideKeys, modest, calm, conditions, laid).
  DERIVED. THE GIVEN ROWS OF THIS SEAT. 11 by the template 'for every input the law returns true; each argument reads behind the call as it read before'; 0 by the template 'total and deterministic' (their statements: YtdhfofnfhlnjbaaTotals.lean).
  GIVEN WITH THE SEED: the statements are not yours to turn. If you find one false, say at which input.
  Laid BY PROGRAM, IN A SANDBOX (cutbox-rows.mjs): the forced cells as the released guide's own fill.sh prints them over the translation 783ec8a177b7f9b6… (all of the seat's roots in one cut). By AI agents, Wed Nov 11 2026. No macro, syntax, notation, axiom, sorry.
-/
import Derived.Test.YtdhfofnfhlnjbaaChecked
import GoSem.Claim
import GoSem.ClaimJoined
import GoSem.ClaimMapViews
import Derived.JoinedTies
import Derived.KernelRfl
namespace Go.Proofs.Ytdhfofnfhlnjbaa
/- THE CELL 'sum', in the pinned program and in every row, IS THE sha256 OF THE DUMP (.gsa) THAT YtdhfofnfhlnjbaaProg.lean LOADS. Nothing in Lean hashes anything: it is a label: what it is worth is what the hold of that sum in a sandbox is worth. -/
noncomputable def Try.pinned : Pinned := { name := "ytdhfofnfhlnjbaa", sum := "783ec8a177b7f9b662a34a6a42e56db0378fd1d5ec0986cc70f1684f9b6777dc", checked := Try.checked }
namespace Rows
def none {H : Type} : Left H := { results := [], args := [] }

/-- 'pontagelaw03.EtherEncodes': WHATEVER THE INPUT: true; the input reads as it did. -/
def etherEncodesSpec : ChangeSpec := { name := "etherEncodes", fn := fun _ => fun
  | [d] => { results := [.lit (.bool true)], args := [d] }
  | _ => none }
def etherEncodesRow : OpenClaim := { program := "ytdhfofnfhlnjbaa", sum := "783ec8a177b7f9b662a34a6a42e56db0378fd1d5ec0986cc70f1684f9b6777dc", func := "pontage/pontagelaw03.EtherEncodes", spec := "etherEncodes", unfollowed := true, recurses := true, apart := false }
def EtherEncodesSaid : Prop := etherEncodesRow.holds Try.pinned (OpenSpec.ofChange etherEncodesSpec)

/-- ITS FALSE NEIGHBOUR: 'it returns false'. Refute it at one input. -/
def etherEncodesWrong : ChangeSpec := { name := "etherEncodes", fn := fun _ => fun
  | [d] => { results := [.lit (.bool false)], args := [d] }
  | _ => none }
def EtherEncodesWrongFalsely : Prop := etherEncodesRow.holds Try.pinned (OpenSpec.ofChange etherEncodesWrong)

/-- 'pontagelaw03.EtherDecodes': WHATEVER THE INPUT: true; the input reads as it did. -/
def etherDecodesSpec : ChangeSpec := { name := "etherDecodes", fn := fun _ => fun
  | [d] => { results := [.lit (.bool true)], args := [d] }
  | _ => none }
def etherDecodesRow : OpenClaim := { program := "ytdhfofnfhlnjbaa", sum := "783ec8a177b7f9b662a34a6a42e56db0378fd1d5ec0986cc70f1684f9b6777dc", func := "pontage/pontagelaw03.EtherDecodes", spec := "etherDecodes", unfollowed := true, recurses := true, apart := false }
def EtherDecodesSaid : Prop := etherDecodesRow.holds Try.pinned (OpenSpec.ofChange etherDecodesSpec)

/-- ITS FALSE NEIGHBOUR: 'it returns false'. Refute it at one input. -/
def etherDecodesWrong : ChangeSpec := { name := "etherDecodes", fn := fun _ => fun
  | [d] => { results := [.lit (.bool false)], args := [d] }
  | _ => none }
def EtherDecodesWrongFalsely : Prop := etherDecodesRow.holds Try.pinned (OpenSpec.ofChange etherDecodesWrong)

/-- 'pontagelaw03.EtherTells': WHATEVER THE INPUT: true; the input reads as it did. -/
def etherTellsSpec : ChangeSpec := { name := "etherTells", fn := fun _ => fun
  | [d1, d2, d3] => { results := [.lit (.bool true)], args := [d1, d2, d3] }
  | _ => none }
def etherTellsRow : OpenClaim := { program := "ytdhfofnfhlnjbaa", sum := "783ec8a177b7f9b662a34a6a42e56db0378fd1d5ec0986cc70f1684f9b6777dc", func := "pontage/pontagelaw03.EtherTells", spec := "etherTells", unfollowed := true, recurses := true, apart := false }
def EtherTellsSaid : Prop := etherTellsRow.holds Try.pinned (OpenSpec.ofChange etherTellsSpec)

/-- ITS FALSE NEIGHBOUR: 'it returns false'. Refute it at one input. -/
def etherTellsWrong : ChangeSpec := { name := "etherTells", fn := fun _ => fun
  | [d1, d2, d3] => { results := [.lit (.bool false)], args := [d1, d2, d3] }
  | _ => none }
def EtherTellsWrongFalsely : Prop := etherTellsRow.holds Try.pinned (OpenSpec.ofChange etherTellsWrong)

/-- 'pontagelaw03.EtherBack': WHATEVER THE INPUT: true; the input reads as it did. -/
def etherBackSpec : ChangeSpec := { name := "etherBack", fn := fun _ => fun
  | [d1, d2] => { results := [.lit (.bool true)], args := [d1, d2] }
  | _ => none }
def etherBackRow : OpenClaim := { program := "ytdhfofnfhlnjbaa", sum := "783ec8a177b7f9b662a34a6a42e56db0378fd1d5ec0986cc70f1684f9b6777dc", func := "pontage/pontagelaw03.EtherBack", spec := "etherBack", unfollowed := true, recurses := true, apart := false }
def EtherBackSaid : Prop := etherBackRow.holds Try.pinned (OpenSpec.ofChange etherBackSpec)

/-- ITS FALSE NEIGHBOUR: 'it returns false'. Refute it at one input. -/
def etherBackWrong : ChangeSpec := { name := "etherBack", fn := fun _ => fun
  | [d1, d2] => { results := [.lit (.bool false)], args := [d1, d2] }
  | _ => none }
def EtherBackWrongFalsely : Prop := etherBackRow.holds Try.pinned (OpenSpec.ofChange etherBackWrong)

/-- 'pontagelaw03.EtherRetagged': WHATEVER THE INPUT: true; the input reads as it did. -/
def etherRetaggedSpec : ChangeSpec := { name := "etherRetagged", fn := fun _ => fun
  | [d1, d2] => { results := [.lit (.bool true)], args := [d1, d2] }
  | _ => none }
def etherRetaggedRow : OpenClaim := { program := "ytdhfofnfhlnjbaa", sum := "783ec8a177b7f9b662a34a6a42e56db0378fd1d5ec0986cc70f1684f9b6777dc", func := "pontage/pontagelaw03.EtherRetagged", spec := "etherRetagged", unfollowed := true, recurses := true, apart := false }
def EtherRetaggedSaid : Prop := etherRetaggedRow.holds Try.pinned (OpenSpec.ofChange etherRetaggedSpec)

/-- ITS FALSE NEIGHBOUR: 'it returns false'. Refute it at one input. -/
def etherRetaggedWrong : ChangeSpec := { name := "etherRetagged", fn := fun _ => fun
  | [d1, d2] => { results := [.lit (.bool false)], args := [d1, d2] }
  | _ => none }
def EtherRetaggedWrongFalsely : Prop := etherRetaggedRow.holds Try.pinned (OpenSpec.ofChange etherRetaggedWrong)

/-- 'pontagelaw04.PbbEncodes': WHATEVER THE INPUT: true; the input reads as it did. -/
def pbbEncodesSpec : ChangeSpec := { name := "pbbEncodes", fn := fun _ => fun
  | [d] => { results := [.lit (.bool true)], args := [d] }
  | _ => none }
def pbbEncodesRow : OpenClaim := { program := "ytdhfofnfhlnjbaa", sum := "783ec8a177b7f9b662a34a6a42e56db0378fd1d5ec0986cc70f1684f9b6777dc", func := "pontage/pontagelaw04.PbbEncodes", spec := "pbbEncodes", unfollowed := true, recurses := true, apart := false }
def PbbEncodesSaid : Prop := pbbEncodesRow.holds Try.pinned (OpenSpec.ofChange pbbEncodesSpec)

/-- ITS FALSE NEIGHBOUR: 'it returns false'. Refute it at one input. -/
def pbbEncodesWrong : ChangeSpec := { name := "pbbEncodes", fn := fun _ => fun
  | [d] => { results := [.lit (.bool false)], args := [d] }
  | _ => none }
def PbbEncodesWrongFalsely : Prop := pbbEncodesRow.holds Try.pinned (OpenSpec.ofChange pbbEncodesWrong)

/-- 'pontagelaw04.PbbDecodes': WHATEVER THE INPUT: true; the input reads as it did. -/
def pbbDecodesSpec : ChangeSpec := { name := "pbbDecodes", fn := fun _ => fun
  | [d] => { results := [.lit (.bool true)], args := [d] }
  | _ => none }
def pbbDecodesRow : OpenClaim := { program := "ytdhfofnfhlnjbaa", sum := "783ec8a177b7f9b662a34a6a42e56db0378fd1d5ec0986cc70f1684f9b6777dc", func := "pontage/pontagelaw04.PbbDecodes", spec := "pbbDecodes", unfollowed := true, recurses := true, apart := false }
def PbbDecodesSaid : Prop := pbbDecodesRow.holds Try.pinned (OpenSpec.ofChange pbbDecodesSpec)

/-- ITS FALSE NEIGHBOUR: 'it returns false'. Refute it at one input. -/
def pbbDecodesWrong : ChangeSpec := { name := "pbbDecodes", fn := fun _ => fun
  | [d] => { results := [.lit (.bool false)], args := [d] }
  | _ => none }
def PbbDecodesWrongFalsely : Prop := pbbDecodesRow.holds Try.pinned (OpenSpec.ofChange pbbDecodesWrong)

/-- 'pontagelaw04.PbbBack': WHATEVER THE INPUT: true; the input reads as it did. -/
def pbbBackSpec : ChangeSpec := { name := "pbbBack", fn := fun _ => fun
  | [d1, d2] => { results := [.lit (.bool true)], args := [d1, d2] }
  | _ => none }
def pbbBackRow : OpenClaim := { program := "ytdhfofnfhlnjbaa", sum := "783ec8a177b7f9b662a34a6a42e56db0378fd1d5ec0986cc70f1684f9b6777dc", func := "pontage/pontagelaw04.PbbBack", spec := "pbbBack", unfollowed := true, recurses := true, apart := false }
def PbbBackSaid : Prop := pbbBackRow.holds Try.pinned (OpenSpec.ofChange pbbBackSpec)

/-- ITS FALSE NEIGHBOUR: 'it returns false'. Refute it at one input. -/
def pbbBackWrong : ChangeSpec := { name := "pbbBack", fn := fun _ => fun
  | [d1, d2] => { results := [.lit (.bool false)], args := [d1, d2] }
  | _ => none }
def PbbBackWrongFalsely : Prop := pbbBackRow.holds Try.pinned (OpenSpec.ofChange pbbBackWrong)

/-- 'pontagelaw04.PbbThrough': WHATEVER THE INPUT: true; the input reads as it did. -/
def pbbThroughSpec : ChangeSpec := { name := "pbbThrough", fn := fun _ => fun
  | [d1, d2, d3, d4, d5, d6] => { results := [.lit (.bool true)], args := [d1, d2, d3, d4, d5, d6] }
  | _ => none }
def pbbThroughRow : OpenClaim := { program := "ytdhfofnfhlnjbaa", sum := "783ec8a177b7f9b662a34a6a42e56db0378fd1d5ec0986cc70f1684f9b6777dc", func := "pontage/pontagelaw04.PbbThrough", spec := "pbbThrough", unfollowed := true, recurses := true, apart := false }
def PbbThroughSaid : Prop := pbbThroughRow.holds Try.pinned (OpenSpec.ofChange pbbThroughSpec)

/-- ITS FALSE NEIGHBOUR: 'it returns false'. Refute it at one input. -/
def pbbThroughWrong : ChangeSpec := { name := "pbbThrough", fn := fun _ => fun
  | [d1, d2, d3, d4, d5, d6] => { results := [.lit (.bool false)], args := [d1, d2, d3, d4, d5, d6] }
  | _ => none }
def PbbThroughWrongFalsely : Prop := pbbThroughRow.holds Try.pinned (OpenSpec.ofChange pbbThroughWrong)

/-- 'pontagelaw04.PbbOwn': WHATEVER THE INPUT: true; the input reads as it did. -/
def pbbOwnSpec : ChangeSpec := { name := "pbbOwn", fn := fun _ => fun
  | [d1, d2, d3] => { results := [.lit (.bool true)], args := [d1, d2, d3] }
  | _ => none }
def pbbOwnRow : OpenClaim := { program := "ytdhfofnfhlnjbaa", sum := "783ec8a177b7f9b662a34a6a42e56db0378fd1d5ec0986cc70f1684f9b6777dc", func := "pontage/pontagelaw04.PbbOwn", spec := "pbbOwn", unfollowed := true, recurses := true, apart := false }
def PbbOwnSaid : Prop := pbbOwnRow.holds Try.pinned (OpenSpec.ofChange pbbOwnSpec)

/-- ITS FALSE NEIGHBOUR: 'it returns false'. Refute it at one input. -/
def pbbOwnWrong : ChangeSpec := { name := "pbbOwn", fn := fun _ => fun
  | [d1, d2, d3] => { results := [.lit (.bool false)], args := [d1, d2, d3] }
  | _ => none }
def PbbOwnWrongFalsely : Prop := pbbOwnRow.holds Try.pinned (OpenSpec.ofChange pbbOwnWrong)

/-- 'pontagelaw04.PbbHides': WHATEVER THE INPUT: true; the input reads as it did. -/
def pbbHidesSpec : ChangeSpec := { name := "pbbHides", fn := fun _ => fun
  | [d1, d2, d3, d4, d5, d6, d7] => { results := [.lit (.bool true)], args := [d1, d2, d3, d4, d5, d6, d7] }
  | _ => none }
def pbbHidesRow : OpenClaim := { program := "ytdhfofnfhlnjbaa", sum := "783ec8a177b7f9b662a34a6a42e56db0378fd1d5ec0986cc70f1684f9b6777dc", func := "pontage/pontagelaw04.PbbHides", spec := "pbbHides", unfollowed := true, recurses := true, apart := false }
def PbbHidesSaid : Prop := pbbHidesRow.holds Try.pinned (OpenSpec.ofChange pbbHidesSpec)

/-- ITS FALSE NEIGHBOUR: 'it returns false'. Refute it at one input. -/
def pbbHidesWrong : ChangeSpec := { name := "pbbHides", fn := fun _ => fun
  | [d1, d2, d3, d4, d5, d6, d7] => { results := [.lit (.bool false)], args := [d1, d2, d3, d4, d5, d6, d7] }
  | _ => none }
def PbbHidesWrongFalsely : Prop := pbbHidesRow.holds Try.pinned (OpenSpec.ofChange pbbHidesWrong)

/- THE SECOND FORM. 'bulk': how many values and letters a reading holds, each counted each time it is reached (what is shared counts as often as it is met; a slice's spare places count too). A statement '..UptoSaid' is the law's where the arguments, and the package variables that the reading takes, are together of bulk at most 1048576: NARROWER than '..Said'. Prove '..Said' where nothing that the law and all that it calls make is longer than what came in: it says more and counts as full. Else prove '..UptoSaid'. A law counts once. -/
mutual
def uptoBulk {H : Type} : DataW H → Nat
  | .lit (.string bytes) => bytes.length + 1
  | .lit _ => 1
  | .nil => 1
  | .ptr d => uptoBulk d + 1
  | .slice elems spare => uptoBulkAll elems + uptoBulkAll spare + 1
  | .agg parts => uptoBulkAll parts + 1
  | .iface _ d => uptoBulk d + 1
  | .map entries => uptoBulkEntries entries + 1
  | .held _ => 1
def uptoBulkAll {H : Type} : List (DataW H) → Nat
  | [] => 0
  | d :: r => uptoBulk d + uptoBulkAll r
def uptoBulkEntries {H : Type} : List (Lit × DataW H) → Nat
  | [] => 0
  | x :: r => uptoBulkEntry x + uptoBulkEntries r
def uptoBulkEntry {H : Type} : Lit × DataW H → Nat
  | (.string bytes, d) => bytes.length + uptoBulk d + 1
  | (_, d) => uptoBulk d + 1
 end
def uptoSmall : (H : Type) → List (DataW H) → Bool := fun _ ds => decide (uptoBulkAll ds ≤ 1048576)
def OpenSpec.upto (s : _root_.Go.ChangeSpec) : _root_.Go.OpenSpec := { _root_.Go.OpenSpec.ofChange s with cond := some uptoSmall }

/-- 'pontagelaw03.EtherEncodes', WHERE WHAT IT READS IS OF BULK AT MOST 1048576: true; the input reads as it did. -/
def etherEncodesUptoRow : OpenClaim := { program := "ytdhfofnfhlnjbaa", sum := "783ec8a177b7f9b662a34a6a42e56db0378fd1d5ec0986cc70f1684f9b6777dc", func := "pontage/pontagelaw03.EtherEncodes", spec := "etherEncodes", unfollowed := true, recurses := true, apart := false, narrowed := true }
def EtherEncodesUptoSaid : Prop := etherEncodesUptoRow.holds Try.pinned (OpenSpec.upto etherEncodesSpec)

/-- 'pontagelaw03.EtherDecodes', WHERE WHAT IT READS IS OF BULK AT MOST 1048576: true; the input reads as it did. -/
def etherDecodesUptoRow : OpenClaim := { program := "ytdhfofnfhlnjbaa", sum := "783ec8a177b7f9b662a34a6a42e56db0378fd1d5ec0986cc70f1684f9b6777dc", func := "pontage/pontagelaw03.EtherDecodes", spec := "etherDecodes", unfollowed := true, recurses := true, apart := false, narrowed := true }
def EtherDecodesUptoSaid : Prop := etherDecodesUptoRow.holds Try.pinned (OpenSpec.upto etherDecodesSpec)

/-- 'pontagelaw03.EtherTells', WHERE WHAT IT READS IS OF BULK AT MOST 1048576: true; the input reads as it did. -/
def etherTellsUptoRow : OpenClaim := { program := "ytdhfofnfhlnjbaa", sum := "783ec8a177b7f9b662a34a6a42e56db0378fd1d5ec0986cc70f1684f9b6777dc", func := "pontage/pontagelaw03.EtherTells", spec := "etherTells", unfollowed := true, recurses := true, apart := false, narrowed := true }
def EtherTellsUptoSaid : Prop := etherTellsUptoRow.holds Try.pinned (OpenSpec.upto etherTellsSpec)

/-- 'pontagelaw03.EtherBack', WHERE WHAT IT READS IS OF BULK AT MOST 1048576: true; the input reads as it did. -/
def etherBackUptoRow : OpenClaim := { program := "ytdhfofnfhlnjbaa", sum := "783ec8a177b7f9b662a34a6a42e56db0378fd1d5ec0986cc70f1684f9b6777dc", func := "pontage/pontagelaw03.EtherBack", spec := "etherBack", unfollowed := true, recurses := true, apart := false, narrowed := true }
def EtherBackUptoSaid : Prop := etherBackUptoRow.holds Try.pinned (OpenSpec.upto etherBackSpec)

/-- 'pontagelaw03.EtherRetagged', WHERE WHAT IT READS IS OF BULK AT MOST 1048576: true; the input reads as it did. -/
def etherRetaggedUptoRow : OpenClaim := { program := "ytdhfofnfhlnjbaa", sum := "783ec8a177b7f9b662a34a6a42e56db0378fd1d5ec0986cc70f1684f9b6777dc", func := "pontage/pontagelaw03.EtherRetagged", spec := "etherRetagged", unfollowed := true, recurses := true, apart := false, narrowed := true }
def EtherRetaggedUptoSaid : Prop := etherRetaggedUptoRow.holds Try.pinned (OpenSpec.upto etherRetaggedSpec)

/-- 'pontagelaw04.PbbEncodes', WHERE WHAT IT READS IS OF BULK AT MOST 1048576: true; the input reads as it did. -/
def pbbEncodesUptoRow : OpenClaim := { program := "ytdhfofnfhlnjbaa", sum := "783ec8a177b7f9b662a34a6a42e56db0378fd1d5ec0986cc70f1684f9b6777dc", func := "pontage/pontagelaw04.PbbEncodes", spec := "pbbEncodes", unfollowed := true, recurses := true, apart := false, narrowed := true }
def PbbEncodesUptoSaid : Prop := pbbEncodesUptoRow.holds Try.pinned (OpenSpec.upto pbbEncodesSpec)

/-- 'pontagelaw04.PbbDecodes', WHERE WHAT IT READS IS OF BULK AT MOST 1048576: true; the input reads as it did. -/
def pbbDecodesUptoRow : OpenClaim := { program := "ytdhfofnfhlnjbaa", sum := "783ec8a177b7f9b662a34a6a42e56db0378fd1d5ec0986cc70f1684f9b6777dc", func := "pontage/pontagelaw04.PbbDecodes", spec := "pbbDecodes", unfollowed := true, recurses := true, apart := false, narrowed := true }
def PbbDecodesUptoSaid : Prop := pbbDecodesUptoRow.holds Try.pinned (OpenSpec.upto pbbDecodesSpec)

/-- 'pontagelaw04.PbbBack', WHERE WHAT IT READS IS OF BULK AT MOST 1048576: true; the input reads as it did. -/
def pbbBackUptoRow : OpenClaim := { program := "ytdhfofnfhlnjbaa", sum := "783ec8a177b7f9b662a34a6a42e56db0378fd1d5ec0986cc70f1684f9b6777dc", func := "pontage/pontagelaw04.PbbBack", spec := "pbbBack", unfollowed := true, recurses := true, apart := false, narrowed := true }
def PbbBackUptoSaid : Prop := pbbBackUptoRow.holds Try.pinned (OpenSpec.upto pbbBackSpec)

/-- 'pontagelaw04.PbbThrough', WHERE WHAT IT READS IS OF BULK AT MOST 1048576: true; the input reads as it did. -/
def pbbThroughUptoRow : OpenClaim := { program := "ytdhfofnfhlnjbaa", sum := "783ec8a177b7f9b662a34a6a42e56db0378fd1d5ec0986cc70f1684f9b6777dc", func := "pontage/pontagelaw04.PbbThrough", spec := "pbbThrough", unfollowed := true, recurses := true, apart := false, narrowed := true }
def PbbThroughUptoSaid : Prop := pbbThroughUptoRow.holds Try.pinned (OpenSpec.upto pbbThroughSpec)

/-- 'pontagelaw04.PbbOwn', WHERE WHAT IT READS IS OF BULK AT MOST 1048576: true; the input reads as it did. -/
def pbbOwnUptoRow : OpenClaim := { program := "ytdhfofnfhlnjbaa", sum := "783ec8a177b7f9b662a34a6a42e56db0378fd1d5ec0986cc70f1684f9b6777dc", func := "pontage/pontagelaw04.PbbOwn", spec := "pbbOwn", unfollowed := true, recurses := true, apart := false, narrowed := true }
def PbbOwnUptoSaid : Prop := pbbOwnUptoRow.holds Try.pinned (OpenSpec.upto pbbOwnSpec)

/-- 'pontagelaw04.PbbHides', WHERE WHAT IT READS IS OF BULK AT MOST 1048576: true; the input reads as it did. -/
def pbbHidesUptoRow : OpenClaim := { program := "ytdhfofnfhlnjbaa", sum := "783ec8a177b7f9b662a34a6a42e56db0378fd1d5ec0986cc70f1684f9b6777dc", func := "pontage/pontagelaw04.PbbHides", spec := "pbbHides", unfollowed := true, recurses := true, apart := false, narrowed := true }
def PbbHidesUptoSaid : Prop := pbbHidesUptoRow.holds Try.pinned (OpenSpec.upto pbbHidesSpec)

end Rows
end Go.Proofs.Ytdhfofnfhlnjbaa
