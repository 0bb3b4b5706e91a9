/- A part of the proof of the seat's laws: PfEth19. It states no claim by itself. -/
import Derived.Test.YtdhfofnfhlnjbaaPfEth16
import Derived.Test.YtdhfofnfhlnjbaaPfEth17
import Derived.Test.YtdhfofnfhlnjbaaPfEth18
set_option linter.unusedVariables false
set_option linter.unusedSimpArgs false
namespace Go.Vc.Seat
open Go.Vc Go.Proofs.Try
theorem pok_l03_EtherBack : POK prog orc f_l03_EtherBack := by
  refine pok_of ok_l03_EtherBack mixed (by simp [ac_l03_EtherBack, acP, callsP, pok_l03_Light, pok_l03_cut, pok_ether_Encode, pok_ether_Decode, pok_r03_Same, pok_l03_awake]) (by simp [ac_l03_EtherBack, acS, callsS]) fun args hok => ?_
  show Fits orc nt_l03_EtherBack rs_l03_EtherBack ac_l03_EtherBack args (pFrB args)
  unfold ac_l03_EtherBack
  unfold pFrB
  split
  · rename_i da sa t p d v rest b
    cases hz : isZ (frChk da sa t p d v (rest.take 1600))
    · exact etherBackE hz hok
    · cases t
      · exact etherBackF hz hok
      · exact etherBackT hz hok
  · trivial
end Go.Vc.Seat
