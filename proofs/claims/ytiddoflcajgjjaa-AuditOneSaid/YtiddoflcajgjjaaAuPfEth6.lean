/- A part of the proof of the seat's laws: AuPfEth6. It states no claim by itself. -/
import Derived.Test.YtiddoflcajgjjaaAuPfEth5
set_option linter.unusedVariables false
set_option linter.unusedSimpArgs false
namespace Go.Vc.Seat
open Go.Vc Go.Proofs.Try
theorem frChk_0 {da sa : List D} {t : Bool} {p : Int} {d : Bool} {v : Int} {rest : List D} (h : frChk da sa t p d v rest = 0) : rest.length ≤ 1502 ∧ frOK da sa t p d v rest = true := by
  unfold frChk at h
  split at h
  · omega
  · split at h
    · exact ⟨by omega, by assumption⟩
    · omega
theorem cat2 (a b : List D) (ta tb : Tok) : cat (setPartsD (List.replicate 2 (zeroD (.sl (.int .u8)))) [(0, .sl (.int .u8) a ta), (1, .sl (.int .u8) b tb)]) = a ++ b := by
  show a ++ (b ++ []) = a ++ b
  rw [List.append_nil]
theorem cat1 (a : List D) (ta : Tok) : cat (setPartsD (List.replicate 1 (zeroD (.sl (.int .u8)))) [(0, .sl (.int .u8) a ta)]) = a := by
  show a ++ [] = a
  rw [List.append_nil]
theorem tk6 {a : List D} (h : a.length = 6) : List.take (((6 : Nat) : Int).toNat - Int.toNat 0) (List.drop (Int.toNat 0) a) = a := by
  show List.take 6 a = a
  rw [List.take_of_length_le (by omega)]
theorem beS : be 34984 2 = [.i 136, .i 168] := rfl
theorem frB_f (da sa : List D) (p : Int) (d : Bool) (v : Int) (rest : List D) : frB da sa false p d v rest = da ++ sa ++ rest := by simp [frB]
theorem frB_t (da sa : List D) (p : Int) (d : Bool) (v : Int) (rest : List D) : frB da sa true p d v rest = da ++ sa ++ ([.i 136, .i 168] ++ be (tagNum p d v) 2) ++ rest := by simp [frB]
theorem len_frB (da sa : List D) (t : Bool) (p : Int) (d : Bool) (v : Int) (rest : List D) (h1 : da.length = 6) (h2 : sa.length = 6) : (frB da sa t p d v rest).length = (if t then 16 else 12) + rest.length := by
  cases t <;> simp [frB, h1, h2, be_length] <;> omega
end Go.Vc.Seat
