/- PbbEncodes: whatever the input, the law returns true and leaves its arguments as they were. -/
import Derived.Test.YtdhfofnfhlnjbaaRows
import Derived.Test.YtdhfofnfhlnjbaaVcLaw
import Derived.Test.YtdhfofnfhlnjbaaPfPbb12
set_option linter.unusedVariables false
namespace Go.Proofs.Ytdhfofnfhlnjbaa.pbbEncodes
open Go.Vc Go.Vc.Seat Go.RowKit

theorem own : ownKnob Try.prog.godebug = none := by kernel_rfl
set_option maxRecDepth 100000 in
theorem lifted (os : Os) (started : os.Started) (H : Type) (enc : TypeId × Value → H) :
    ReturnsInHanded {} Try.checked os 8 .any (Rows.pbbEncodesSpec.pre6 enc Try.prog Try.f8 Rows.pbbEncodesRow.domain false) (Rows.pbbEncodesSpec.post enc Try.prog Try.f8 false true false false) :=
  law_row (C := Try.checked) (orc := orc) [.st [.arr 6 (.int .u8), .arr 6 (.int .u8), .st [.int .i64, .bool, .int .i64], .st [.int .i64, .bool, .bool, .int .i64, .arr 6 (.int .u8), .arr 6 (.int .u8)], .sl (.int .u8)]] (tb := 4) own started (by kernel_rfl) Try.func8
    (ChangeSpec.witness6 (enc := enc) (C := Try.checked) false ⟨#[], #[Value.agg #[Value.int .u8 0, Value.int .u8 0, Value.int .u8 0, Value.int .u8 0, Value.int .u8 0, Value.int .u8 0, Value.int .u8 0, Value.int .u8 0, Value.int .u8 0, Value.int .u8 0, Value.int .u8 0, Value.int .u8 0, Value.int .i64 0, Value.bool false, Value.int .i64 0, Value.int .i64 0, Value.bool false, Value.bool false, Value.int .i64 0, Value.int .u8 0, Value.int .u8 0, Value.int .u8 0, Value.int .u8 0, Value.int .u8 0, Value.int .u8 0, Value.int .u8 0, Value.int .u8 0, Value.int .u8 0, Value.int .u8 0, Value.int .u8 0, Value.int .u8 0, Value.slice none 0 0]], []⟩ 8 (by kernel_rfl) (by kernel_rfl) (by kernel_rfl) (by kernel_rfl))
    (by kernel_rfl) (by rw [Try.params8]; kernel_rfl) rfl Try.underlying4 rfl (fun H ds h => by
      match ds, h with
      | [a0], _ => rfl)
    pok_l04_PbbEncodes (fun xs h => by
    match xs, h with
    | [a0], _ => exact rfl)
theorem over : Rows.pbbEncodesRow.holds Try.pinned (OpenSpec.ofChange Rows.pbbEncodesSpec) :=
  OpenClaim.holds_of_wide 8 Try.f8 rfl rfl rfl rfl rfl rfl rfl ⟨rfl, rfl, rfl, rfl, rfl⟩ rfl rfl rfl rfl rfl (by kernel_rfl) Try.func8 (by kernel_rfl)
    (of_decide_eq_true (by kernel_rfl)) (by unfold Func.isWrapper; first | (rw [if_pos (by decide +kernel)]; kernel_rfl) | (rw [if_neg (by decide +kernel)]; exact ⟨rfl, rfl⟩))
    (fun os started H enc _ => lifted os started H enc)
theorem proved : Rows.PbbEncodesSaid := over
#print axioms proved
end Go.Proofs.Ytdhfofnfhlnjbaa.pbbEncodes
