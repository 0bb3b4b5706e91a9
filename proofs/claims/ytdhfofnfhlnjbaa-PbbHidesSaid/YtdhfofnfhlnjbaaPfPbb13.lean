/- A part of the proof of the seat's laws: PfPbb13. It states no claim by itself. -/
import Derived.Test.YtdhfofnfhlnjbaaPfPbb13B1
import Derived.Test.YtdhfofnfhlnjbaaPfPbb13D1
import Derived.Test.YtdhfofnfhlnjbaaPfPbb11
set_option linter.unusedVariables false
set_option linter.unusedSimpArgs false
namespace Go.Vc.Seat
open Go.Vc Go.Proofs.Try
theorem pok_l04_PbbHides : POK prog orc f_l04_PbbHides := by
  refine pok_of ok_l04_PbbHides mixed (by simp [ac_l04_PbbHides, acP, callsP, pok_l04_few, pok_l04_Few, pok_pbb_Hide, pok_r04_Hide, pok_pbb_Show, pok_r04_Show, pok_r04_Same, pok_r03_Same, pok_pbb_Same, pok_l04_awake]) (by simp [ac_l04_PbbHides, acS, callsS]) fun args hok => ?_
  show Fits orc nt_l04_PbbHides rs_l04_PbbHides ac_l04_PbbHides args (pBfHides args)
  unfold ac_l04_PbbHides
  unfold pBfHides
  split
  · rename_i fa fb t fp fd fv fr isid w own to da sa p d v q e u i ia ib rest da' sa' p' d' v' q' e' u' i' ia' ib' rest'
    cases hs : sameBf da sa p d v q e u i ia ib (rest.take 1510) da' sa' p' d' v' q' e' u' i' ia' ib' (rest'.take 1510)
    · cases hz : isZ (frChk fa fb t fp fd fv (fr.take 1510))
      · exact pbbHidesA0 hz hs hok
      · cases t
        · exact pbbHidesB0 hz hs hok
        · cases hh : isZ (bfChk to own fp fd w fp fd true isid fa fb (fr.take 1510))
          · exact pbbHidesC0 hz hh hs hok
          · exact pbbHidesD0 hz hh hs hok
    · cases hz : isZ (frChk fa fb t fp fd fv (fr.take 1510))
      · exact pbbHidesA1 hz hs hok
      · cases t
        · exact pbbHidesB1 hz hs hok
        · cases hh : isZ (bfChk to own fp fd w fp fd true isid fa fb (fr.take 1510))
          · exact pbbHidesC1 hz hh hs hok
          · exact pbbHidesD1 hz hh hs hok
  · trivial
end Go.Vc.Seat
