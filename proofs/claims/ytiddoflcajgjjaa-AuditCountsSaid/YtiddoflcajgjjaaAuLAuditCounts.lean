/- AuditCounts: whatever the input, the law returns true and leaves its arguments as they were. -/
import Derived.Test.YtiddoflcajgjjaaRows
import Derived.Test.YtiddoflcajgjjaaVcLaw
import Derived.Test.YtiddoflcajgjjaaAuPf9
set_option linter.unusedVariables false
namespace Go.Proofs.Ytiddoflcajgjjaa.auditCounts
open Go.Vc Go.Vc.Seat Go.RowKit

theorem own : ownKnob Try.prog.godebug = none := by kernel_rfl
set_option maxRecDepth 100000 in
theorem lifted (os : Os) (started : os.Started) (H : Type) (enc : TypeId × Value → H) :
    ReturnsInHanded {} Try.checked os 5 .any (Rows.auditCountsSpec.pre6 enc Try.prog Try.f5 Rows.auditCountsRow.domain false) (Rows.auditCountsSpec.post enc Try.prog Try.f5 false true false false) :=
  law_row (C := Try.checked) (orc := orc) [.sl (.int .i64), .sl (.int .i64), .int .i64] (tb := 4) own started (by kernel_rfl) Try.func5
    (ChangeSpec.witness6 (enc := enc) (C := Try.checked) false ⟨#[], #[Value.slice none 0 0, Value.slice none 0 0, Value.int .i64 0], []⟩ 8 (by kernel_rfl) (by kernel_rfl) (by kernel_rfl) (by kernel_rfl))
    (by kernel_rfl) (by rw [Try.params5]; kernel_rfl) rfl Try.underlying4 rfl (fun H ds h => by
      match ds, h with
      | [a0, a1, a2], _ => rfl)
    pok_l32_AuditCounts (fun xs h => by
    match xs, h with
    | [a0, a1, a2], _ => exact rfl)
theorem over : Rows.auditCountsRow.holds Try.pinned (OpenSpec.ofChange Rows.auditCountsSpec) :=
  OpenClaim.holds_of_wide 5 Try.f5 rfl rfl rfl rfl rfl rfl rfl ⟨rfl, rfl, rfl, rfl, rfl⟩ rfl rfl rfl rfl rfl (by kernel_rfl) Try.func5 (by kernel_rfl)
    (of_decide_eq_true (by kernel_rfl)) (by unfold Func.isWrapper; first | (rw [if_pos (by decide +kernel)]; kernel_rfl) | (rw [if_neg (by decide +kernel)]; exact ⟨rfl, rfl⟩))
    (fun os started H enc _ => lifted os started H enc)
theorem proved : Rows.AuditCountsSaid := over
#print axioms proved
end Go.Proofs.Ytiddoflcajgjjaa.auditCounts
