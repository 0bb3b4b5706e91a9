/- BcompMembers: whatever the input, the law returns true and leaves its arguments as they were. -/
import Derived.Test.YtghpaogagolagaaRows
import Derived.Test.YtghpaogagolagaaVcLaw
import Derived.Test.YtghpaogagolagaaPfBc18
set_option linter.unusedVariables false
namespace Go.Proofs.Ytghpaogagolagaa.bcompMembers
open Go.Vc Go.Vc.Seat Go.RowKit

theorem own : ownKnob Try.prog.godebug = none := by kernel_rfl
set_option maxRecDepth 100000 in
theorem lifted (os : Os) (started : os.Started) (H : Type) (enc : TypeId × Value → H) :
    ReturnsInHanded {} Try.checked os 3 .any (Rows.bcompMembersSpec.pre6 enc Try.prog Try.f3 Rows.bcompMembersRow.domain false) (Rows.bcompMembersSpec.post enc Try.prog Try.f3 false true false false) :=
  law_row (C := Try.checked) (orc := orc) [.st [.arr 6 (.int .u8), .sl (.int .i64), .sl (.st [.int .i64, .int .i64, .int .i64]), .sl (.st [.int .i64, .int .i64]), .sl (.st [.int .i64, .sl (.int .i64)])], .sl (.st [.bool, .bool]), .int .i64, .st [.arr 6 (.int .u8), .arr 6 (.int .u8), .st [.int .i64, .bool, .int .i64], .st [.int .i64, .bool, .bool, .int .i64, .arr 6 (.int .u8), .arr 6 (.int .u8)], .sl (.int .u8)], .int .i64, .bool] (tb := 4) own started (by kernel_rfl) Try.func3
    (ChangeSpec.witness6 (enc := enc) (C := Try.checked) false ⟨#[], #[Value.agg #[Value.int .u8 0, Value.int .u8 0, Value.int .u8 0, Value.int .u8 0, Value.int .u8 0, Value.int .u8 0, Value.slice none 0 0, Value.slice none 0 0, Value.slice none 0 0, Value.slice none 0 0], Value.slice none 0 0, Value.int .i64 0, Value.agg #[Value.int .u8 0, Value.int .u8 0, Value.int .u8 0, Value.int .u8 0, Value.int .u8 0, Value.int .u8 0, Value.int .u8 0, Value.int .u8 0, Value.int .u8 0, Value.int .u8 0, Value.int .u8 0, Value.int .u8 0, Value.int .i64 0, Value.bool false, Value.int .i64 0, Value.int .i64 0, Value.bool false, Value.bool false, Value.int .i64 0, Value.int .u8 0, Value.int .u8 0, Value.int .u8 0, Value.int .u8 0, Value.int .u8 0, Value.int .u8 0, Value.int .u8 0, Value.int .u8 0, Value.int .u8 0, Value.int .u8 0, Value.int .u8 0, Value.int .u8 0, Value.slice none 0 0], Value.int .i64 0, Value.bool false], []⟩ 8 (by kernel_rfl) (by kernel_rfl) (by kernel_rfl) (by kernel_rfl))
    (by kernel_rfl) (by rw [Try.params3]; kernel_rfl) rfl Try.underlying4 rfl (fun H ds h => by
      match ds, h with
      | [a0, a1, a2, a3, a4, a5], _ => rfl)
    pok_l19_BcompMembers (fun xs h => by
    match xs, h with
    | [a0, a1, a2, a3, a4, a5], _ => exact rfl)
theorem over : Rows.bcompMembersRow.holds Try.pinned (OpenSpec.ofChange Rows.bcompMembersSpec) :=
  OpenClaim.holds_of_wide 3 Try.f3 rfl rfl rfl rfl rfl rfl rfl ⟨rfl, rfl, rfl, rfl, rfl⟩ rfl rfl rfl rfl rfl (by kernel_rfl) Try.func3 (by kernel_rfl)
    (of_decide_eq_true (by kernel_rfl)) (by unfold Func.isWrapper; first | (rw [if_pos (by decide +kernel)]; kernel_rfl) | (rw [if_neg (by decide +kernel)]; exact ⟨rfl, rfl⟩))
    (fun os started H enc _ => lifted os started H enc)
theorem proved : Rows.BcompMembersSaid := over
#print axioms proved
end Go.Proofs.Ytghpaogagolagaa.bcompMembers
