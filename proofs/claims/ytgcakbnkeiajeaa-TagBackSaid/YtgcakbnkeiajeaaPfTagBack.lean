/- A part of the proof of the seat's laws: PfTagBack. It states no claim by itself. -/
import Derived.Test.YtgcakbnkeiajeaaPfTagBack1
import Derived.Test.YtgcakbnkeiajeaaPfTagBack2
import Derived.Test.YtgcakbnkeiajeaaPfTagBack3
import Derived.Test.YtgcakbnkeiajeaaPfTagBack4
set_option linter.unusedVariables false
namespace Go.Vc.Seat
open Go.Vc Go.Proofs.Try
theorem pok_l02_TagBack : POK prog orc f_l02_TagBack := by
  refine pok_of ok_l02_TagBack mixed (by simp [ac_l02_TagBack, acP, callsP, pok_l02_cut, pok_tag_Put, pok_tag_PutI, pok_tag_Take, pok_tag_TakeI, pok_l02_awake]) (by simp [ac_l02_TagBack, acS, callsS]) fun args hok => ?_
  show Fits orc nt_l02_TagBack rs_l02_TagBack ac_l02_TagBack args (pTagBack args)
  unfold ac_l02_TagBack
  unfold pTagBack
  split
  · cases h1 : tagOK _ _ <;> cases h2 : itagOK _ _
    · exact tagBack0 h1 h2 hok
    · exact tagBack1 h1 h2 hok
    · exact tagBack2 h1 h2 hok
    · exact tagBack3 h1 h2 hok
  · trivial
end Go.Vc.Seat
