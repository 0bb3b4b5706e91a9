/- A part of the proof of the seat's laws: PfEth9. It states no claim by itself. -/
import Derived.Test.YtdhfofnfhlnjbaaPfEth8
set_option linter.unusedVariables false
set_option linter.unusedSimpArgs false
namespace Go.Vc.Seat
open Go.Vc Go.Proofs.Try
theorem chk_fr {da sa : List D} {t : Bool} {p : Int} {d : Bool} {v : Int} {rest : List D} (h : rest.length ≤ 1502) (g : frOK da sa t p d v rest = true) : frChk da sa t p d v rest = 0 := chk_ok (by omega) g
theorem chk_fr30 {da sa : List D} {t : Bool} {p : Int} {d : Bool} {v : Int} {rest : List D} (h : rest.length ≤ 1502) (g : frOK da sa t p d v rest = false) : frChk da sa t p d v rest = 30 := chk_not (by omega) g
theorem y0 : (((zeroD TFr).fld 3).fld 0).int = 0 := rfl
theorem y1 : (((zeroD TFr).fld 3).fld 1).bool = false := rfl
theorem y2 : (((zeroD TFr).fld 3).fld 2).int = 0 := rfl
theorem tda (n : Nat) (xs : List D) : List.take (xs.length - n) (List.drop n xs) = List.drop n xs := List.take_of_length_le (by simp)
end Go.Vc.Seat
