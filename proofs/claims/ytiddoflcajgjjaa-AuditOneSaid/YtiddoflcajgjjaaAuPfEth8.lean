/- A part of the proof of the seat's laws: AuPfEth8. It states no claim by itself. -/
import Derived.Test.YtiddoflcajgjjaaAuPfEth6
set_option linter.unusedVariables false
set_option linter.unusedSimpArgs false
namespace Go.Vc.Seat
open Go.Vc Go.Proofs.Try
end Go.Vc.Seat
