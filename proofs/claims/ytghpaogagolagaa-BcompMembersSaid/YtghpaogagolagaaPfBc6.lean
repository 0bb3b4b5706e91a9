/- A part of the proof of the seat's laws: PfBc6. It states no claim by itself. -/
import Derived.Test.YtghpaogagolagaaPfBc5
set_option linter.unusedVariables false
set_option linter.unusedSimpArgs false
namespace Go.Vc.Seat
open Go.Vc Go.Proofs.Try

theorem gatesD_succ {ps : List D} {k : Nat} (h : k < ps.length) : gatesD (ps.take (k + 1)) = gatesD (ps.take k) ++ [.a [.b ((ps.getD k (.i 0)).fld 10).bool, .b ((ps.getD k (.i 0)).fld 8).bool]] := by
  unfold gatesD
  rw [List.take_succ_eq_append_getElem h, List.map_append, List.getD_eq_getElem?_getD, List.getElem?_eq_getElem h]
  rfl
theorem gatesD_len (ps : List D) : (gatesD ps).length = ps.length := by simp [gatesD]
end Go.Vc.Seat
