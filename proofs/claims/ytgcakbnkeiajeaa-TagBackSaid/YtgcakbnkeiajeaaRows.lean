/-
  No cell of these rows narrows 'for every input' (looked for: loops, veiled, ifaces, maps, wideKeys, modest, calm, conditions, laid).
  DERIVED. THE GIVEN ROWS OF THIS SEAT. 5 by the template 'for every input the law returns true; each argument reads behind the call as it read before'; 0 by the template 'total and deterministic' (their statements: YtgcakbnkeiajeaaTotals.lean).
  GIVEN WITH THE SEED: the statements are not yours to turn. If you find one false, say at which input.
  Laid BY PROGRAM, IN A SANDBOX (cutbox-rows.mjs): the forced cells as the released guide's own fill.sh prints them over the translation 682d35bee4c41a34… (all of the seat's roots in one cut). By AI agents, Wed Nov 11 2026. No macro, syntax, notation, axiom, sorry.
-/
import Derived.Test.YtgcakbnkeiajeaaChecked
import GoSem.Claim
import GoSem.ClaimJoined
import GoSem.ClaimMapViews
import Derived.JoinedTies
import Derived.KernelRfl
namespace Go.Proofs.Ytgcakbnkeiajeaa
/- THE CELL 'sum', in the pinned program and in every row, IS THE sha256 OF THE DUMP (.gsa) THAT YtgcakbnkeiajeaaProg.lean LOADS. Nothing in Lean hashes anything: it is a label: what it is worth is what the hold of that sum in a sandbox is worth. -/
noncomputable def Try.pinned : Pinned := { name := "ytgcakbnkeiajeaa", sum := "682d35bee4c41a3486c646259bdbbe88bdc0f8fe4bdbdcba653a4c0c03777195", checked := Try.checked }
namespace Rows
def none {H : Type} : Left H := { results := [], args := [] }

/-- 'pontagelaw02.TagPuts': WHATEVER THE INPUT: true; the input reads as it did. -/
def tagPutsSpec : ChangeSpec := { name := "tagPuts", fn := fun _ => fun
  | [d1, d2] => { results := [.lit (.bool true)], args := [d1, d2] }
  | _ => none }
def tagPutsRow : OpenClaim := { program := "ytgcakbnkeiajeaa", sum := "682d35bee4c41a3486c646259bdbbe88bdc0f8fe4bdbdcba653a4c0c03777195", func := "pontage/pontagelaw02.TagPuts", spec := "tagPuts", apart := false }
def TagPutsSaid : Prop := tagPutsRow.holds Try.pinned (OpenSpec.ofChange tagPutsSpec)

/-- ITS FALSE NEIGHBOUR: 'it returns false'. Refute it at one input. -/
def tagPutsWrong : ChangeSpec := { name := "tagPuts", fn := fun _ => fun
  | [d1, d2] => { results := [.lit (.bool false)], args := [d1, d2] }
  | _ => none }
def TagPutsWrongFalsely : Prop := tagPutsRow.holds Try.pinned (OpenSpec.ofChange tagPutsWrong)

/-- 'pontagelaw02.TagTypes': WHATEVER THE INPUT: true; the input reads as it did. -/
def tagTypesSpec : ChangeSpec := { name := "tagTypes", fn := fun _ => fun
  | [d1, d2, d3, d4, d5] => { results := [.lit (.bool true)], args := [d1, d2, d3, d4, d5] }
  | _ => none }
def tagTypesRow : OpenClaim := { program := "ytgcakbnkeiajeaa", sum := "682d35bee4c41a3486c646259bdbbe88bdc0f8fe4bdbdcba653a4c0c03777195", func := "pontage/pontagelaw02.TagTypes", spec := "tagTypes", apart := false }
def TagTypesSaid : Prop := tagTypesRow.holds Try.pinned (OpenSpec.ofChange tagTypesSpec)

/-- ITS FALSE NEIGHBOUR: 'it returns false'. Refute it at one input. -/
def tagTypesWrong : ChangeSpec := { name := "tagTypes", fn := fun _ => fun
  | [d1, d2, d3, d4, d5] => { results := [.lit (.bool false)], args := [d1, d2, d3, d4, d5] }
  | _ => none }
def TagTypesWrongFalsely : Prop := tagTypesRow.holds Try.pinned (OpenSpec.ofChange tagTypesWrong)

/-- 'pontagelaw02.TagTakes': WHATEVER THE INPUT: true; the input reads as it did. -/
def tagTakesSpec : ChangeSpec := { name := "tagTakes", fn := fun _ => fun
  | [d] => { results := [.lit (.bool true)], args := [d] }
  | _ => none }
def tagTakesRow : OpenClaim := { program := "ytgcakbnkeiajeaa", sum := "682d35bee4c41a3486c646259bdbbe88bdc0f8fe4bdbdcba653a4c0c03777195", func := "pontage/pontagelaw02.TagTakes", spec := "tagTakes", unfollowed := true, recurses := true, apart := false }
def TagTakesSaid : Prop := tagTakesRow.holds Try.pinned (OpenSpec.ofChange tagTakesSpec)

/-- ITS FALSE NEIGHBOUR: 'it returns false'. Refute it at one input. -/
def tagTakesWrong : ChangeSpec := { name := "tagTakes", fn := fun _ => fun
  | [d] => { results := [.lit (.bool false)], args := [d] }
  | _ => none }
def TagTakesWrongFalsely : Prop := tagTakesRow.holds Try.pinned (OpenSpec.ofChange tagTakesWrong)

/-- 'pontagelaw02.TagBack': WHATEVER THE INPUT: true; the input reads as it did. -/
def tagBackSpec : ChangeSpec := { name := "tagBack", fn := fun _ => fun
  | [d1, d2, d3, d4] => { results := [.lit (.bool true)], args := [d1, d2, d3, d4] }
  | _ => none }
def tagBackRow : OpenClaim := { program := "ytgcakbnkeiajeaa", sum := "682d35bee4c41a3486c646259bdbbe88bdc0f8fe4bdbdcba653a4c0c03777195", func := "pontage/pontagelaw02.TagBack", spec := "tagBack", unfollowed := true, recurses := true, apart := false }
def TagBackSaid : Prop := tagBackRow.holds Try.pinned (OpenSpec.ofChange tagBackSpec)

/-- ITS FALSE NEIGHBOUR: 'it returns false'. Refute it at one input. -/
def tagBackWrong : ChangeSpec := { name := "tagBack", fn := fun _ => fun
  | [d1, d2, d3, d4] => { results := [.lit (.bool false)], args := [d1, d2, d3, d4] }
  | _ => none }
def TagBackWrongFalsely : Prop := tagBackRow.holds Try.pinned (OpenSpec.ofChange tagBackWrong)

/-- 'pontagelaw02.TagOwn': WHATEVER THE INPUT: true; the input reads as it did. -/
def tagOwnSpec : ChangeSpec := { name := "tagOwn", fn := fun _ => fun
  | [d1, d2] => { results := [.lit (.bool true)], args := [d1, d2] }
  | _ => none }
def tagOwnRow : OpenClaim := { program := "ytgcakbnkeiajeaa", sum := "682d35bee4c41a3486c646259bdbbe88bdc0f8fe4bdbdcba653a4c0c03777195", func := "pontage/pontagelaw02.TagOwn", spec := "tagOwn", unfollowed := true, recurses := true, apart := false }
def TagOwnSaid : Prop := tagOwnRow.holds Try.pinned (OpenSpec.ofChange tagOwnSpec)

/-- ITS FALSE NEIGHBOUR: 'it returns false'. Refute it at one input. -/
def tagOwnWrong : ChangeSpec := { name := "tagOwn", fn := fun _ => fun
  | [d1, d2] => { results := [.lit (.bool false)], args := [d1, d2] }
  | _ => none }
def TagOwnWrongFalsely : Prop := tagOwnRow.holds Try.pinned (OpenSpec.ofChange tagOwnWrong)

/- THE SECOND FORM. 'bulk': how many values and letters a reading holds, each counted each time it is reached (what is shared counts as often as it is met; a slice's spare places count too). A statement '..UptoSaid' is the law's where the arguments, and the package variables that the reading takes, are together of bulk at most 1048576: NARROWER than '..Said'. Prove '..Said' where nothing that the law and all that it calls make is longer than what came in: it says more and counts as full. Else prove '..UptoSaid'. A law counts once. -/
mutual
def uptoBulk {H : Type} : DataW H → Nat
  | .lit (.string bytes) => bytes.length + 1
  | .lit _ => 1
  | .nil => 1
  | .ptr d => uptoBulk d + 1
  | .slice elems spare => uptoBulkAll elems + uptoBulkAll spare + 1
  | .agg parts => uptoBulkAll parts + 1
  | .iface _ d => uptoBulk d + 1
  | .map entries => uptoBulkEntries entries + 1
  | .held _ => 1
def uptoBulkAll {H : Type} : List (DataW H) → Nat
  | [] => 0
  | d :: r => uptoBulk d + uptoBulkAll r
def uptoBulkEntries {H : Type} : List (Lit × DataW H) → Nat
  | [] => 0
  | x :: r => uptoBulkEntry x + uptoBulkEntries r
def uptoBulkEntry {H : Type} : Lit × DataW H → Nat
  | (.string bytes, d) => bytes.length + uptoBulk d + 1
  | (_, d) => uptoBulk d + 1
 end
def uptoSmall : (H : Type) → List (DataW H) → Bool := fun _ ds => decide (uptoBulkAll ds ≤ 1048576)
def OpenSpec.upto (s : _root_.Go.ChangeSpec) : _root_.Go.OpenSpec := { _root_.Go.OpenSpec.ofChange s with cond := some uptoSmall }

/-- 'pontagelaw02.TagPuts', WHERE WHAT IT READS IS OF BULK AT MOST 1048576: true; the input reads as it did. -/
def tagPutsUptoRow : OpenClaim := { program := "ytgcakbnkeiajeaa", sum := "682d35bee4c41a3486c646259bdbbe88bdc0f8fe4bdbdcba653a4c0c03777195", func := "pontage/pontagelaw02.TagPuts", spec := "tagPuts", apart := false, narrowed := true }
def TagPutsUptoSaid : Prop := tagPutsUptoRow.holds Try.pinned (OpenSpec.upto tagPutsSpec)

/-- 'pontagelaw02.TagTypes', WHERE WHAT IT READS IS OF BULK AT MOST 1048576: true; the input reads as it did. -/
def tagTypesUptoRow : OpenClaim := { program := "ytgcakbnkeiajeaa", sum := "682d35bee4c41a3486c646259bdbbe88bdc0f8fe4bdbdcba653a4c0c03777195", func := "pontage/pontagelaw02.TagTypes", spec := "tagTypes", apart := false, narrowed := true }
def TagTypesUptoSaid : Prop := tagTypesUptoRow.holds Try.pinned (OpenSpec.upto tagTypesSpec)

/-- 'pontagelaw02.TagTakes', WHERE WHAT IT READS IS OF BULK AT MOST 1048576: true; the input reads as it did. -/
def tagTakesUptoRow : OpenClaim := { program := "ytgcakbnkeiajeaa", sum := "682d35bee4c41a3486c646259bdbbe88bdc0f8fe4bdbdcba653a4c0c03777195", func := "pontage/pontagelaw02.TagTakes", spec := "tagTakes", unfollowed := true, recurses := true, apart := false, narrowed := true }
def TagTakesUptoSaid : Prop := tagTakesUptoRow.holds Try.pinned (OpenSpec.upto tagTakesSpec)

/-- 'pontagelaw02.TagBack', WHERE WHAT IT READS IS OF BULK AT MOST 1048576: true; the input reads as it did. -/
def tagBackUptoRow : OpenClaim := { program := "ytgcakbnkeiajeaa", sum := "682d35bee4c41a3486c646259bdbbe88bdc0f8fe4bdbdcba653a4c0c03777195", func := "pontage/pontagelaw02.TagBack", spec := "tagBack", unfollowed := true, recurses := true, apart := false, narrowed := true }
def TagBackUptoSaid : Prop := tagBackUptoRow.holds Try.pinned (OpenSpec.upto tagBackSpec)

/-- 'pontagelaw02.TagOwn', WHERE WHAT IT READS IS OF BULK AT MOST 1048576: true; the input reads as it did. -/
def tagOwnUptoRow : OpenClaim := { program := "ytgcakbnkeiajeaa", sum := "682d35bee4c41a3486c646259bdbbe88bdc0f8fe4bdbdcba653a4c0c03777195", func := "pontage/pontagelaw02.TagOwn", spec := "tagOwn", unfollowed := true, recurses := true, apart := false, narrowed := true }
def TagOwnUptoSaid : Prop := tagOwnUptoRow.holds Try.pinned (OpenSpec.upto tagOwnSpec)

end Rows
end Go.Proofs.Ytgcakbnkeiajeaa
