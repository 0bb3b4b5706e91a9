/- AuditOne: whatever the input, the law returns true and leaves its arguments as they were. -/
import Derived.Test.YtiddoflcajgjjaaRows
import Derived.Test.YtiddoflcajgjjaaVcLaw
import Derived.Test.YtiddoflcajgjjaaAuPf12
set_option linter.unusedVariables false
namespace Go.Proofs.Ytiddoflcajgjjaa.auditOne
open Go.Vc Go.Vc.Seat Go.RowKit

theorem own : ownKnob Try.prog.godebug = none := by kernel_rfl
set_option maxRecDepth 100000 in
theorem lifted (os : Os) (started : os.Started) (H : Type) (enc : TypeId × Value → H) :
    ReturnsInHanded {} Try.checked os 6 .any (Rows.auditOneSpec.pre6 enc Try.prog Try.f6 Rows.auditOneRow.domain false) (Rows.auditOneSpec.post enc Try.prog Try.f6 false true false false) :=
  law_row (C := Try.checked) (orc := orc) [.sl (.int .u16), .bool, .int .u8, .int .u8, .int .u8] (tb := 4) own started (by kernel_rfl) Try.func6
    (ChangeSpec.witness6 (enc := enc) (C := Try.checked) false ⟨#[], #[Value.slice none 0 0, Value.bool false, Value.int .u8 0, Value.int .u8 0, Value.int .u8 0], []⟩ 8 (by kernel_rfl) (by kernel_rfl) (by kernel_rfl) (by kernel_rfl))
    (by kernel_rfl) (by rw [Try.params6]; kernel_rfl) rfl Try.underlying4 rfl (fun H ds h => by
      match ds, h with
      | [a0, a1, a2, a3, a4], _ => rfl)
    pok_l32_AuditOne (fun xs h => by
    match xs, h with
    | [a0, a1, a2, a3, a4], _ => exact rfl)
theorem over : Rows.auditOneRow.holds Try.pinned (OpenSpec.ofChange Rows.auditOneSpec) :=
  OpenClaim.holds_of_wide 6 Try.f6 rfl rfl rfl rfl rfl rfl rfl ⟨rfl, rfl, rfl, rfl, rfl⟩ rfl rfl rfl rfl rfl (by kernel_rfl) Try.func6 (by kernel_rfl)
    (of_decide_eq_true (by kernel_rfl)) (by unfold Func.isWrapper; first | (rw [if_pos (by decide +kernel)]; kernel_rfl) | (rw [if_neg (by decide +kernel)]; exact ⟨rfl, rfl⟩))
    (fun os started H enc _ => lifted os started H enc)
theorem proved : Rows.AuditOneSaid := over
#print axioms proved
end Go.Proofs.Ytiddoflcajgjjaa.auditOne
