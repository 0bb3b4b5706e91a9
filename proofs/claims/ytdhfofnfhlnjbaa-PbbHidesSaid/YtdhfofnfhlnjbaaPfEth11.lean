/- A part of the proof of the seat's laws: PfEth11. It states no claim by itself. -/
import Derived.Test.YtdhfofnfhlnjbaaPfEth10
set_option linter.unusedVariables false
set_option linter.unusedSimpArgs false
namespace Go.Vc.Seat
open Go.Vc Go.Proofs.Try
theorem sameFr_self (da sa : List D) (t : Bool) (p : Int) (d : Bool) (v : Int) (rest : List D) : sameFr da sa t p d v rest da sa t p d v rest = true := by
  unfold sameFr
  simp [eq6, eqDn_int, eqTag, sameB_self]
end Go.Vc.Seat
