/- A part of the proof of the seat's laws: PfEth7. It states no claim by itself. -/
import Derived.Test.YtdhfofnfhlnjbaaPfEth6
set_option linter.unusedVariables false
set_option linter.unusedSimpArgs false
namespace Go.Vc.Seat
open Go.Vc Go.Proofs.Try
theorem sp1 (x : Int) : (setPartsD (List.replicate 1 (zeroD (.int .u8))) [(0, .int .u8 x)]).length = 1 := rfl
theorem sp2 (x y : Int) : setPartsD (List.replicate 2 (zeroD (.int .u8))) [(0, .int .u8 x), (1, .int .u8 y)] = [.i x, .i y] := rfl
theorem one_more {xs : List D} (h : ∀ x ∈ xs, okD (.int .u8) x) {i : Nat} (hi : i < xs.length) : xs.take i ++ setPartsD (List.replicate 1 (zeroD (.int .u8))) [(0, .int .u8 (xs.getD i (.i 0)).int)] = xs.take (i + 1) := by
  show xs.take i ++ [D.i (xs.getD i (.i 0)).int] = _
  rw [canon h, List.take_succ_eq_append_getElem hi, List.getD_eq_getElem?_getD, List.getElem?_eq_getElem hi]
  rfl
end Go.Vc.Seat
