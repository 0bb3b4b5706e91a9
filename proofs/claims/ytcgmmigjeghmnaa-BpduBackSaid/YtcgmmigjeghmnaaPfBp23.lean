/- A part of the proof of the seat's laws: PfBp23. It states no claim by itself. -/
import Derived.Test.YtcgmmigjeghmnaaPfBp22a1
import Derived.Test.YtcgmmigjeghmnaaPfBp22a2
import Derived.Test.YtcgmmigjeghmnaaPfBp22a3
import Derived.Test.YtcgmmigjeghmnaaPfBp22b1
import Derived.Test.YtcgmmigjeghmnaaPfBp22b2
import Derived.Test.YtcgmmigjeghmnaaPfBp22b3
import Derived.Test.YtcgmmigjeghmnaaPfBp22c1
import Derived.Test.YtcgmmigjeghmnaaPfBp22c2
import Derived.Test.YtcgmmigjeghmnaaPfBp22c3
set_option linter.unusedVariables false
set_option linter.unusedSimpArgs false
namespace Go.Vc.Seat
open Go.Vc Go.Proofs.Try
theorem pok_l05_BpduBack : POK prog orc f_l05_BpduBack := by
  refine pok_of ok_l05_BpduBack mixed (by simp [ac_l05_BpduBack, acP, callsP, pok_l05_cut, pok_bpdu_Encode, pok_bpdu_Decode, pok_bpdu_Is, pok_bpdu_Bytes, pok_l05_awake]) (by simp [ac_l05_BpduBack, acS, callsS]) fun args hok => ?_
  show Fits orc nt_l05_BpduBack rs_l05_BpduBack ac_l05_BpduBack args (pLFrames args)
  unfold ac_l05_BpduBack
  unfold pLFrames
  split
  · rename_i src k tc ack pr le fo ag ro R C B P ta tm th td xs
    cases h1 : short (xs.take 100) 21
    · cases h2 : decOK (xs.take 100)
      · cases hs : single src
        · exact backnb hok hs h1 h2
        · cases hf : fineB ⟨k, tc, ack, pr, le, fo, ag, ro, R, C, B, P, ta, tm, th, td⟩
          · exact backfb hok hs hf h1 h2
          · rcases fine_k hf with h | h | h
            · exact backk2b hok hs hf h h1 h2
            · exact backk1b hok hs hf h h1 h2
            · exact backk3b hok hs hf h h1 h2
      · cases hs : single src
        · exact backnc hok hs h1 h2
        · cases hf : fineB ⟨k, tc, ack, pr, le, fo, ag, ro, R, C, B, P, ta, tm, th, td⟩
          · exact backfc hok hs hf h1 h2
          · rcases fine_k hf with h | h | h
            · exact backk2c hok hs hf h h1 h2
            · exact backk1c hok hs hf h h1 h2
            · exact backk3c hok hs hf h h1 h2
    · cases hs : single src
      · exact backna hok hs h1
      · cases hf : fineB ⟨k, tc, ack, pr, le, fo, ag, ro, R, C, B, P, ta, tm, th, td⟩
        · exact backfa hok hs hf h1
        · rcases fine_k hf with h | h | h
          · exact backk2a hok hs hf h h1
          · exact backk1a hok hs hf h h1
          · exact backk3a hok hs hf h h1
  · trivial
end Go.Vc.Seat
