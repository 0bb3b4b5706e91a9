/- PbbThrough: whatever the input, the law returns true and leaves its arguments as they were. -/
import Derived.Test.YtdhfofnfhlnjbaaRows
import Derived.Test.YtdhfofnfhlnjbaaVcLaw
import Derived.Test.YtdhfofnfhlnjbaaPfPbb16
set_option linter.unusedVariables false
namespace Go.Proofs.Ytdhfofnfhlnjbaa.pbbThrough
open Go.Vc Go.Vc.Seat Go.RowKit

theorem own : ownKnob Try.prog.godebug = none := by kernel_rfl
set_option maxRecDepth 100000 in
theorem lifted (os : Os) (started : os.Started) (H : Type) (enc : TypeId × Value → H) :
    ReturnsInHanded {} Try.checked os 11 .any (Rows.pbbThroughSpec.pre6 enc Try.prog Try.f11 Rows.pbbThroughRow.domain false) (Rows.pbbThroughSpec.post enc Try.prog Try.f11 false true false false) :=
  law_row (C := Try.checked) (orc := orc) [.st [.arr 6 (.int .u8), .arr 6 (.int .u8), .bool, .st [.int .i64, .bool, .int .i64], .sl (.int .u8)], .int .i64, .int .i64, .int .u16, .arr 6 (.int .u8), .arr 6 (.int .u8)] (tb := 4) own started (by kernel_rfl) Try.func11
    (ChangeSpec.witness6 (enc := enc) (C := Try.checked) false ⟨#[], #[Value.agg #[Value.int .u8 0, Value.int .u8 0, Value.int .u8 0, Value.int .u8 0, Value.int .u8 0, Value.int .u8 0, Value.int .u8 0, Value.int .u8 0, Value.int .u8 0, Value.int .u8 0, Value.int .u8 0, Value.int .u8 0, Value.bool false, Value.int .i64 0, Value.bool false, Value.int .i64 0, Value.slice none 0 0], Value.int .i64 0, Value.int .i64 0, Value.int .u16 0, Value.agg #[Value.int .u8 0, Value.int .u8 0, Value.int .u8 0, Value.int .u8 0, Value.int .u8 0, Value.int .u8 0], Value.agg #[Value.int .u8 0, Value.int .u8 0, Value.int .u8 0, Value.int .u8 0, Value.int .u8 0, Value.int .u8 0]], []⟩ 8 (by kernel_rfl) (by kernel_rfl) (by kernel_rfl) (by kernel_rfl))
    (by kernel_rfl) (by rw [Try.params11]; kernel_rfl) rfl Try.underlying4 rfl (fun H ds h => by
      match ds, h with
      | [a0, a1, a2, a3, a4, a5], _ => rfl)
    pok_l04_PbbThrough (fun xs h => by
    match xs, h with
    | [a0, a1, a2, a3, a4, a5], _ => exact rfl)
theorem over : Rows.pbbThroughRow.holds Try.pinned (OpenSpec.ofChange Rows.pbbThroughSpec) :=
  OpenClaim.holds_of_wide 11 Try.f11 rfl rfl rfl rfl rfl rfl rfl ⟨rfl, rfl, rfl, rfl, rfl⟩ rfl rfl rfl rfl rfl (by kernel_rfl) Try.func11 (by kernel_rfl)
    (of_decide_eq_true (by kernel_rfl)) (by unfold Func.isWrapper; first | (rw [if_pos (by decide +kernel)]; kernel_rfl) | (rw [if_neg (by decide +kernel)]; exact ⟨rfl, rfl⟩))
    (fun os started H enc _ => lifted os started H enc)
theorem proved : Rows.PbbThroughSaid := over
#print axioms proved
end Go.Proofs.Ytdhfofnfhlnjbaa.pbbThrough
