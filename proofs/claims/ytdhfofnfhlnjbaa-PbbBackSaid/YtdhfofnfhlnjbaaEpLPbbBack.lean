/- PbbBack: whatever the input, the law returns true and leaves its arguments as they were. -/
import Derived.Test.YtdhfofnfhlnjbaaRows
import Derived.Test.YtdhfofnfhlnjbaaVcLaw
import Derived.Test.YtdhfofnfhlnjbaaPfPbb15
set_option linter.unusedVariables false
namespace Go.Proofs.Ytdhfofnfhlnjbaa.pbbBack
open Go.Vc Go.Vc.Seat Go.RowKit

theorem own : ownKnob Try.prog.godebug = none := by kernel_rfl
set_option maxRecDepth 100000 in
theorem lifted (os : Os) (started : os.Started) (H : Type) (enc : TypeId × Value → H) :
    ReturnsInHanded {} Try.checked os 10 .any (Rows.pbbBackSpec.pre6 enc Try.prog Try.f10 Rows.pbbBackRow.domain false) (Rows.pbbBackSpec.post enc Try.prog Try.f10 false true false false) :=
  law_row (C := Try.checked) (orc := orc) [.st [.arr 6 (.int .u8), .arr 6 (.int .u8), .st [.int .i64, .bool, .int .i64], .st [.int .i64, .bool, .bool, .int .i64, .arr 6 (.int .u8), .arr 6 (.int .u8)], .sl (.int .u8)], .sl (.int .u8)] (tb := 4) own started (by kernel_rfl) Try.func10
    (ChangeSpec.witness6 (enc := enc) (C := Try.checked) false ⟨#[], #[Value.agg #[Value.int .u8 0, Value.int .u8 0, Value.int .u8 0, Value.int .u8 0, Value.int .u8 0, Value.int .u8 0, Value.int .u8 0, Value.int .u8 0, Value.int .u8 0, Value.int .u8 0, Value.int .u8 0, Value.int .u8 0, Value.int .i64 0, Value.bool false, Value.int .i64 0, Value.int .i64 0, Value.bool false, Value.bool false, Value.int .i64 0, Value.int .u8 0, Value.int .u8 0, Value.int .u8 0, Value.int .u8 0, Value.int .u8 0, Value.int .u8 0, Value.int .u8 0, Value.int .u8 0, Value.int .u8 0, Value.int .u8 0, Value.int .u8 0, Value.int .u8 0, Value.slice none 0 0], Value.slice none 0 0], []⟩ 8 (by kernel_rfl) (by kernel_rfl) (by kernel_rfl) (by kernel_rfl))
    (by kernel_rfl) (by rw [Try.params10]; kernel_rfl) rfl Try.underlying4 rfl (fun H ds h => by
      match ds, h with
      | [a0, a1], _ => rfl)
    pok_l04_PbbBack (fun xs h => by
    match xs, h with
    | [a0, a1], _ => exact rfl)
theorem over : Rows.pbbBackRow.holds Try.pinned (OpenSpec.ofChange Rows.pbbBackSpec) :=
  OpenClaim.holds_of_wide 10 Try.f10 rfl rfl rfl rfl rfl rfl rfl ⟨rfl, rfl, rfl, rfl, rfl⟩ rfl rfl rfl rfl rfl (by kernel_rfl) Try.func10 (by kernel_rfl)
    (of_decide_eq_true (by kernel_rfl)) (by unfold Func.isWrapper; first | (rw [if_pos (by decide +kernel)]; kernel_rfl) | (rw [if_neg (by decide +kernel)]; exact ⟨rfl, rfl⟩))
    (fun os started H enc _ => lifted os started H enc)
theorem proved : Rows.PbbBackSaid := over
#print axioms proved
end Go.Proofs.Ytdhfofnfhlnjbaa.pbbBack
