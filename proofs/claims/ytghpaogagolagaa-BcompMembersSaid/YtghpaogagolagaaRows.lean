/-
  No cell of these rows narrows 'for every input' (looked for: loops, veiled, ifaces, maps, wideKeys, modest, calm, conditions, laid).
  DERIVED. THE GIVEN ROWS OF THIS SEAT. 3 by the template 'for every input the law returns true; each argument reads behind the call as it read before'; 0 by the template 'total and deterministic' (their statements: YtghpaogagolagaaTotals.lean).
  GIVEN WITH THE SEED: the statements are not yours to turn. If you find one false, say at which input.
  Laid BY PROGRAM, IN A SANDBOX (cutbox-rows.mjs): the forced cells as the released guide's own fill.sh prints them over the translation 127f3eeaa0b4ffdf… (all of the seat's roots in one cut). By AI agents, Wed Nov 11 2026. No macro, syntax, notation, axiom, sorry.
-/
import Derived.Test.YtghpaogagolagaaChecked
import GoSem.Claim
import GoSem.ClaimJoined
import GoSem.ClaimMapViews
import Derived.JoinedTies
import Derived.KernelRfl
namespace Go.Proofs.Ytghpaogagolagaa
/- THE CELL 'sum', in the pinned program and in every row, IS THE sha256 OF THE DUMP (.gsa) THAT YtghpaogagolagaaProg.lean LOADS. Nothing in Lean hashes anything: it is a label: what it is worth is what the hold of that sum in a sandbox is worth. -/
noncomputable def Try.pinned : Pinned := { name := "ytghpaogagolagaa", sum := "127f3eeaa0b4ffdfcf02bdd26b6cd076481dd2a1e4563c90e43bc85f85706e2f", checked := Try.checked }
namespace Rows
def none {H : Type} : Left H := { results := [], args := [] }

/-- 'pontagelaw19.BcompMembers': WHATEVER THE INPUT: true; the input reads as it did. -/
def bcompMembersSpec : ChangeSpec := { name := "bcompMembers", fn := fun _ => fun
  | [d1, d2, d3, d4, d5, d6] => { results := [.lit (.bool true)], args := [d1, d2, d3, d4, d5, d6] }
  | _ => none }
def bcompMembersRow : OpenClaim := { program := "ytghpaogagolagaa", sum := "127f3eeaa0b4ffdfcf02bdd26b6cd076481dd2a1e4563c90e43bc85f85706e2f", func := "pontage/pontagelaw19.BcompMembers", spec := "bcompMembers", unfollowed := true, recurses := true, apart := false }
def BcompMembersSaid : Prop := bcompMembersRow.holds Try.pinned (OpenSpec.ofChange bcompMembersSpec)

/-- ITS FALSE NEIGHBOUR: 'it returns false'. Refute it at one input. -/
def bcompMembersWrong : ChangeSpec := { name := "bcompMembers", fn := fun _ => fun
  | [d1, d2, d3, d4, d5, d6] => { results := [.lit (.bool false)], args := [d1, d2, d3, d4, d5, d6] }
  | _ => none }
def BcompMembersWrongFalsely : Prop := bcompMembersRow.holds Try.pinned (OpenSpec.ofChange bcompMembersWrong)

/-- 'pontagelaw19.BcompApart': WHATEVER THE INPUT: true; the input reads as it did. -/
def bcompApartSpec : ChangeSpec := { name := "bcompApart", fn := fun _ => fun
  | [d1, d2, d3, d4, d5, d6, d7] => { results := [.lit (.bool true)], args := [d1, d2, d3, d4, d5, d6, d7] }
  | _ => none }
def bcompApartRow : OpenClaim := { program := "ytghpaogagolagaa", sum := "127f3eeaa0b4ffdfcf02bdd26b6cd076481dd2a1e4563c90e43bc85f85706e2f", func := "pontage/pontagelaw19.BcompApart", spec := "bcompApart", unfollowed := true, recurses := true, apart := false }
def BcompApartSaid : Prop := bcompApartRow.holds Try.pinned (OpenSpec.ofChange bcompApartSpec)

/-- ITS FALSE NEIGHBOUR: 'it returns false'. Refute it at one input. -/
def bcompApartWrong : ChangeSpec := { name := "bcompApart", fn := fun _ => fun
  | [d1, d2, d3, d4, d5, d6, d7] => { results := [.lit (.bool false)], args := [d1, d2, d3, d4, d5, d6, d7] }
  | _ => none }
def BcompApartWrongFalsely : Prop := bcompApartRow.holds Try.pinned (OpenSpec.ofChange bcompApartWrong)

/-- 'pontagelaw19.BcompGates': WHATEVER THE INPUT: true; the input reads as it did. -/
def bcompGatesSpec : ChangeSpec := { name := "bcompGates", fn := fun _ => fun
  | [d] => { results := [.lit (.bool true)], args := [d] }
  | _ => none }
def bcompGatesRow : OpenClaim := { program := "ytghpaogagolagaa", sum := "127f3eeaa0b4ffdfcf02bdd26b6cd076481dd2a1e4563c90e43bc85f85706e2f", func := "pontage/pontagelaw19.BcompGates", spec := "bcompGates", unfollowed := true, recurses := true, apart := false }
def BcompGatesSaid : Prop := bcompGatesRow.holds Try.pinned (OpenSpec.ofChange bcompGatesSpec)

/-- ITS FALSE NEIGHBOUR: 'it returns false'. Refute it at one input. -/
def bcompGatesWrong : ChangeSpec := { name := "bcompGates", fn := fun _ => fun
  | [d] => { results := [.lit (.bool false)], args := [d] }
  | _ => none }
def BcompGatesWrongFalsely : Prop := bcompGatesRow.holds Try.pinned (OpenSpec.ofChange bcompGatesWrong)

/- THE SECOND FORM. 'bulk': how many values and letters a reading holds, each counted each time it is reached (what is shared counts as often as it is met; a slice's spare places count too). A statement '..UptoSaid' is the law's where the arguments, and the package variables that the reading takes, are together of bulk at most 1048576: NARROWER than '..Said'. Prove '..Said' where nothing that the law and all that it calls make is longer than what came in: it says more and counts as full. Else prove '..UptoSaid'. A law counts once. -/
mutual
def uptoBulk {H : Type} : DataW H → Nat
  | .lit (.string bytes) => bytes.length + 1
  | .lit _ => 1
  | .nil => 1
  | .ptr d => uptoBulk d + 1
  | .slice elems spare => uptoBulkAll elems + uptoBulkAll spare + 1
  | .agg parts => uptoBulkAll parts + 1
  | .iface _ d => uptoBulk d + 1
  | .map entries => uptoBulkEntries entries + 1
  | .held _ => 1
def uptoBulkAll {H : Type} : List (DataW H) → Nat
  | [] => 0
  | d :: r => uptoBulk d + uptoBulkAll r
def uptoBulkEntries {H : Type} : List (Lit × DataW H) → Nat
  | [] => 0
  | x :: r => uptoBulkEntry x + uptoBulkEntries r
def uptoBulkEntry {H : Type} : Lit × DataW H → Nat
  | (.string bytes, d) => bytes.length + uptoBulk d + 1
  | (_, d) => uptoBulk d + 1
 end
def uptoSmall : (H : Type) → List (DataW H) → Bool := fun _ ds => decide (uptoBulkAll ds ≤ 1048576)
def OpenSpec.upto (s : _root_.Go.ChangeSpec) : _root_.Go.OpenSpec := { _root_.Go.OpenSpec.ofChange s with cond := some uptoSmall }

/-- 'pontagelaw19.BcompMembers', WHERE WHAT IT READS IS OF BULK AT MOST 1048576: true; the input reads as it did. -/
def bcompMembersUptoRow : OpenClaim := { program := "ytghpaogagolagaa", sum := "127f3eeaa0b4ffdfcf02bdd26b6cd076481dd2a1e4563c90e43bc85f85706e2f", func := "pontage/pontagelaw19.BcompMembers", spec := "bcompMembers", unfollowed := true, recurses := true, apart := false, narrowed := true }
def BcompMembersUptoSaid : Prop := bcompMembersUptoRow.holds Try.pinned (OpenSpec.upto bcompMembersSpec)

/-- 'pontagelaw19.BcompApart', WHERE WHAT IT READS IS OF BULK AT MOST 1048576: true; the input reads as it did. -/
def bcompApartUptoRow : OpenClaim := { program := "ytghpaogagolagaa", sum := "127f3eeaa0b4ffdfcf02bdd26b6cd076481dd2a1e4563c90e43bc85f85706e2f", func := "pontage/pontagelaw19.BcompApart", spec := "bcompApart", unfollowed := true, recurses := true, apart := false, narrowed := true }
def BcompApartUptoSaid : Prop := bcompApartUptoRow.holds Try.pinned (OpenSpec.upto bcompApartSpec)

/-- 'pontagelaw19.BcompGates', WHERE WHAT IT READS IS OF BULK AT MOST 1048576: true; the input reads as it did. -/
def bcompGatesUptoRow : OpenClaim := { program := "ytghpaogagolagaa", sum := "127f3eeaa0b4ffdfcf02bdd26b6cd076481dd2a1e4563c90e43bc85f85706e2f", func := "pontage/pontagelaw19.BcompGates", spec := "bcompGates", unfollowed := true, recurses := true, apart := false, narrowed := true }
def BcompGatesUptoSaid : Prop := bcompGatesUptoRow.holds Try.pinned (OpenSpec.upto bcompGatesSpec)

end Rows
end Go.Proofs.Ytghpaogagolagaa
