/- AuditFrames: whatever the input, the law returns true and leaves its arguments as they were. -/
import Derived.Test.YtiddoflcajgjjaaRows
import Derived.Test.YtiddoflcajgjjaaVcLaw
import Derived.Test.YtiddoflcajgjjaaAuPf9
set_option linter.unusedVariables false
namespace Go.Proofs.Ytiddoflcajgjjaa.auditFrames
open Go.Vc Go.Vc.Seat Go.RowKit

theorem own : ownKnob Try.prog.godebug = none := by kernel_rfl
set_option maxRecDepth 100000 in
theorem lifted (os : Os) (started : os.Started) (H : Type) (enc : TypeId × Value → H) :
    ReturnsInHanded {} Try.checked os 3 .any (Rows.auditFramesSpec.pre6 enc Try.prog Try.f3 Rows.auditFramesRow.domain false) (Rows.auditFramesSpec.post enc Try.prog Try.f3 false true false false) :=
  law_row (C := Try.checked) (orc := orc) [.sl (.st [.int .i64, .st [.int .i64, .int .i64, .int .i64]]), .sl (.st [.int .i64, .int .i64, .int .i64, .sl (.int .u8)]), .sl (.st [.int .i64, .int .i64, .int .i64, .sl (.int .u8)])] (tb := 4) own started (by kernel_rfl) Try.func3
    (ChangeSpec.witness6 (enc := enc) (C := Try.checked) false ⟨#[], #[Value.slice none 0 0, Value.slice none 0 0, Value.slice none 0 0], []⟩ 8 (by kernel_rfl) (by kernel_rfl) (by kernel_rfl) (by kernel_rfl))
    (by kernel_rfl) (by rw [Try.params3]; kernel_rfl) rfl Try.underlying4 rfl (fun H ds h => by
      match ds, h with
      | [a0, a1, a2], _ => rfl)
    pok_l32_AuditFrames (fun xs h => by
    match xs, h with
    | [a0, a1, a2], _ => exact rfl)
theorem over : Rows.auditFramesRow.holds Try.pinned (OpenSpec.ofChange Rows.auditFramesSpec) :=
  OpenClaim.holds_of_wide 3 Try.f3 rfl rfl rfl rfl rfl rfl rfl ⟨rfl, rfl, rfl, rfl, rfl⟩ rfl rfl rfl rfl rfl (by kernel_rfl) Try.func3 (by kernel_rfl)
    (of_decide_eq_true (by kernel_rfl)) (by unfold Func.isWrapper; first | (rw [if_pos (by decide +kernel)]; kernel_rfl) | (rw [if_neg (by decide +kernel)]; exact ⟨rfl, rfl⟩))
    (fun os started H enc _ => lifted os started H enc)
theorem proved : Rows.AuditFramesSaid := over
#print axioms proved
end Go.Proofs.Ytiddoflcajgjjaa.auditFrames
