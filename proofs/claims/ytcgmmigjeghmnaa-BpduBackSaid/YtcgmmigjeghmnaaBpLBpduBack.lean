/- BpduBack: whatever the input, the law returns true and leaves its arguments as they were. -/
import Derived.Test.YtcgmmigjeghmnaaRows
import Derived.Test.YtcgmmigjeghmnaaVcLaw
import Derived.Test.YtcgmmigjeghmnaaPfBp23
set_option linter.unusedVariables false
namespace Go.Proofs.Ytcgmmigjeghmnaa.bpduBack
open Go.Vc Go.Vc.Seat Go.RowKit

theorem own : ownKnob Try.prog.godebug = none := by kernel_rfl
set_option maxRecDepth 100000 in
theorem lifted (os : Os) (started : os.Started) (H : Type) (enc : TypeId × Value → H) :
    ReturnsInHanded {} Try.checked os 6 .any (Rows.bpduBackSpec.pre6 enc Try.prog Try.f6 Rows.bpduBackRow.domain false) (Rows.bpduBackSpec.post enc Try.prog Try.f6 false true false false) :=
  law_row (C := Try.checked) (orc := orc) [.arr 6 (.int .u8), .st [.int .i64, .bool, .bool, .bool, .bool, .bool, .bool, .int .i64, .st [.int .u64, .int .u32, .int .u64, .int .u16], .st [.int .u8, .int .u8, .int .u8, .int .u8]], .sl (.int .u8)] (tb := 4) own started (by kernel_rfl) Try.func6
    (ChangeSpec.witness6 (enc := enc) (C := Try.checked) false ⟨#[], #[Value.agg #[Value.int .u8 0, Value.int .u8 0, Value.int .u8 0, Value.int .u8 0, Value.int .u8 0, Value.int .u8 0], Value.agg #[Value.int .i64 0, Value.bool false, Value.bool false, Value.bool false, Value.bool false, Value.bool false, Value.bool false, Value.int .i64 0, Value.int .u64 0, Value.int .u32 0, Value.int .u64 0, Value.int .u16 0, Value.int .u8 0, Value.int .u8 0, Value.int .u8 0, Value.int .u8 0], Value.slice none 0 0], []⟩ 8 (by kernel_rfl) (by kernel_rfl) (by kernel_rfl) (by kernel_rfl))
    (by kernel_rfl) (by rw [Try.params6]; kernel_rfl) rfl Try.underlying4 rfl (fun H ds h => by
      match ds, h with
      | [a0, a1, a2], _ => rfl)
    pok_l05_BpduBack (fun xs h => by
    match xs, h with
    | [a0, a1, a2], _ => exact rfl)
theorem over : Rows.bpduBackRow.holds Try.pinned (OpenSpec.ofChange Rows.bpduBackSpec) :=
  OpenClaim.holds_of_wide 6 Try.f6 rfl rfl rfl rfl rfl rfl rfl ⟨rfl, rfl, rfl, rfl, rfl⟩ rfl rfl rfl rfl rfl (by kernel_rfl) Try.func6 (by kernel_rfl)
    (of_decide_eq_true (by kernel_rfl)) (by unfold Func.isWrapper; first | (rw [if_pos (by decide +kernel)]; kernel_rfl) | (rw [if_neg (by decide +kernel)]; exact ⟨rfl, rfl⟩))
    (fun os started H enc _ => lifted os started H enc)
theorem proved : Rows.BpduBackSaid := over
#print axioms proved
end Go.Proofs.Ytcgmmigjeghmnaa.bpduBack
