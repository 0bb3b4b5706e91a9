/- BpduReads: whatever the input, the law returns true and leaves its arguments as they were. -/
import Derived.Test.YtcgmmigjeghmnaaRows
import Derived.Test.YtcgmmigjeghmnaaVcLaw
import Derived.Test.YtcgmmigjeghmnaaPfBp19
set_option linter.unusedVariables false
namespace Go.Proofs.Ytcgmmigjeghmnaa.bpduReads
open Go.Vc Go.Vc.Seat Go.RowKit

theorem own : ownKnob Try.prog.godebug = none := by kernel_rfl
set_option maxRecDepth 100000 in
theorem lifted (os : Os) (started : os.Started) (H : Type) (enc : TypeId × Value → H) :
    ReturnsInHanded {} Try.checked os 4 .any (Rows.bpduReadsSpec.pre6 enc Try.prog Try.f4 Rows.bpduReadsRow.domain false) (Rows.bpduReadsSpec.post enc Try.prog Try.f4 false true false false) :=
  law_row (C := Try.checked) (orc := orc) [.sl (.int .u8)] (tb := 4) own started (by kernel_rfl) Try.func4
    (ChangeSpec.witness6 (enc := enc) (C := Try.checked) false ⟨#[], #[Value.slice none 0 0], []⟩ 8 (by kernel_rfl) (by kernel_rfl) (by kernel_rfl) (by kernel_rfl))
    (by kernel_rfl) (by rw [Try.params4]; kernel_rfl) rfl Try.underlying4 rfl (fun H ds h => by
      match ds, h with
      | [a0], _ => rfl)
    pok_l05_BpduReads (fun xs h => by
    match xs, h with
    | [a0], _ => exact rfl)
theorem over : Rows.bpduReadsRow.holds Try.pinned (OpenSpec.ofChange Rows.bpduReadsSpec) :=
  OpenClaim.holds_of_wide 4 Try.f4 rfl rfl rfl rfl rfl rfl rfl ⟨rfl, rfl, rfl, rfl, rfl⟩ rfl rfl rfl rfl rfl (by kernel_rfl) Try.func4 (by kernel_rfl)
    (of_decide_eq_true (by kernel_rfl)) (by unfold Func.isWrapper; first | (rw [if_pos (by decide +kernel)]; kernel_rfl) | (rw [if_neg (by decide +kernel)]; exact ⟨rfl, rfl⟩))
    (fun os started H enc _ => lifted os started H enc)
theorem proved : Rows.BpduReadsSaid := over
#print axioms proved
end Go.Proofs.Ytcgmmigjeghmnaa.bpduReads
