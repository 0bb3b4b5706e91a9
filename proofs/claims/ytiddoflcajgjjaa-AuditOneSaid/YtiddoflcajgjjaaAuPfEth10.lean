/- A part of the proof of the seat's laws: AuPfEth10. It states no claim by itself. -/
import Derived.Test.YtiddoflcajgjjaaAuPfEth9
set_option linter.unusedVariables false
set_option linter.unusedSimpArgs false
namespace Go.Vc.Seat
open Go.Vc Go.Proofs.Try
end Go.Vc.Seat
