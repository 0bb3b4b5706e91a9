/- BcompGates: whatever the input, the law returns true and leaves its arguments as they were. -/
import Derived.Test.YtghpaogagolagaaRows
import Derived.Test.YtghpaogagolagaaVcLaw
import Derived.Test.YtghpaogagolagaaPfBc8
set_option linter.unusedVariables false
namespace Go.Proofs.Ytghpaogagolagaa.bcompGates
open Go.Vc Go.Vc.Seat Go.RowKit

theorem own : ownKnob Try.prog.godebug = none := by kernel_rfl
set_option maxRecDepth 100000 in
theorem lifted (os : Os) (started : os.Started) (H : Type) (enc : TypeId × Value → H) :
    ReturnsInHanded {} Try.checked os 5 .any (Rows.bcompGatesSpec.pre6 enc Try.prog Try.f5 Rows.bcompGatesRow.domain false) (Rows.bcompGatesSpec.post enc Try.prog Try.f5 false true false false) :=
  law_row (C := Try.checked) (orc := orc) [.st [.int .u64, .st [.int .u8, .int .u8, .int .u8, .int .u8], .int .u8, .bool, .int .u16, .st [.int .u64, .int .u32, .int .u64, .int .u16], .st [.int .u8, .int .u8, .int .u8, .int .u8], .sl (.st [.int .u16, .int .u32, .bool, .bool, .bool, .bool, .bool, .bool, .bool, .bool, .bool, .bool, .bool, .bool, .bool, .bool, .bool, .bool, .bool, .bool, .bool, .bool, .bool, .bool, .bool, .bool, .bool, .bool, .bool, .int .i64, .int .i64, .int .i64, .st [.int .u64, .int .u32, .int .u64, .int .u16], .st [.int .u64, .int .u32, .int .u64, .int .u16], .st [.int .u8, .int .u8, .int .u8, .int .u8], .st [.int .u8, .int .u8, .int .u8, .int .u8], .st [.int .i64, .bool, .bool, .bool, .bool, .bool, .bool, .int .i64, .st [.int .u64, .int .u32, .int .u64, .int .u16], .st [.int .u8, .int .u8, .int .u8, .int .u8]], .int .u8, .int .u8, .int .u8, .int .u8, .int .u8, .int .u8, .int .u8, .int .u8, .int .i64, .int .i64, .int .i64, .int .i64, .int .i64])]] (tb := 4) own started (by kernel_rfl) Try.func5
    (ChangeSpec.witness6 (enc := enc) (C := Try.checked) false ⟨#[], #[Value.agg #[Value.int .u64 0, Value.int .u8 0, Value.int .u8 0, Value.int .u8 0, Value.int .u8 0, Value.int .u8 0, Value.bool false, Value.int .u16 0, Value.int .u64 0, Value.int .u32 0, Value.int .u64 0, Value.int .u16 0, Value.int .u8 0, Value.int .u8 0, Value.int .u8 0, Value.int .u8 0, Value.slice none 0 0]], []⟩ 8 (by kernel_rfl) (by kernel_rfl) (by kernel_rfl) (by kernel_rfl))
    (by kernel_rfl) (by rw [Try.params5]; kernel_rfl) rfl Try.underlying4 rfl (fun H ds h => by
      match ds, h with
      | [a0], _ => rfl)
    pok_l19_BcompGates (fun xs h => by
    match xs, h with
    | [a0], _ => exact rfl)
theorem over : Rows.bcompGatesRow.holds Try.pinned (OpenSpec.ofChange Rows.bcompGatesSpec) :=
  OpenClaim.holds_of_wide 5 Try.f5 rfl rfl rfl rfl rfl rfl rfl ⟨rfl, rfl, rfl, rfl, rfl⟩ rfl rfl rfl rfl rfl (by kernel_rfl) Try.func5 (by kernel_rfl)
    (of_decide_eq_true (by kernel_rfl)) (by unfold Func.isWrapper; first | (rw [if_pos (by decide +kernel)]; kernel_rfl) | (rw [if_neg (by decide +kernel)]; exact ⟨rfl, rfl⟩))
    (fun os started H enc _ => lifted os started H enc)
theorem proved : Rows.BcompGatesSaid := over
#print axioms proved
end Go.Proofs.Ytghpaogagolagaa.bcompGates
