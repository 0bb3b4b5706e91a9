/- A part of the proof of the seat's laws: PfSn6b. It states no claim by itself. -/
import Derived.Test.YtpdcgjpkcjhbjaaPfSn6
set_option linter.unusedVariables false
set_option linter.unusedSimpArgs false
namespace Go.Vc.Seat
open Go.Vc Go.Proofs.Try

theorem sameEs_t {xs ys : List D} (h : xs.length = ys.length) (k : ∀ i, i < xs.length → sameE (xs.getD i (.i 0)) (ys.getD i (.i 0)) = true) : sameEs xs ys = true := decide_eq_true ⟨h, k⟩
theorem sameEs_f1 {xs ys : List D} (h : ¬ xs.length = ys.length) : sameEs xs ys = false := decide_eq_false fun k => h k.1
theorem sameEs_f2 {xs ys : List D} {i : Nat} (hi : i < xs.length) (h : ¬ sameE (xs.getD i (.i 0)) (ys.getD i (.i 0)) = true) : sameEs xs ys = false := decide_eq_false fun k => h (k.2 i hi)
theorem sameIs_t {xs ys : List D} (h : xs.length = ys.length) (k : ∀ i, i < xs.length → getI xs i = getI ys i) : sameIs xs ys = true := decide_eq_true ⟨h, k⟩
theorem sameIs_f1 {xs ys : List D} (h : ¬ xs.length = ys.length) : sameIs xs ys = false := decide_eq_false fun k => h k.1
theorem sameIs_f2 {xs ys : List D} {i : Nat} (hi : i < xs.length) (h : ¬ getI xs i = getI ys i) : sameIs xs ys = false := decide_eq_false fun k => h (k.2 i hi)
end Go.Vc.Seat
