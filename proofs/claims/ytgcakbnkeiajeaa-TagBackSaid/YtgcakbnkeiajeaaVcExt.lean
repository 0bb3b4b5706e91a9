/- More facts for the proofs about functions. -/
import Derived.Test.YtgcakbnkeiajeaaVcNum
namespace Go.Vc
theorem eqDn_self {f : D → D → Bool} (hf : ∀ x, f x x = true) : ∀ (n : Nat) (xs : List D), eqDn f n xs xs = true
  | 0, _ => rfl
  | n + 1, xs => by
    show (f _ _ && eqDn f n _ _) = true
    rw [hf, eqDn_self hf n]
    rfl
theorem eqDn_int (k : IntKind) (n : Nat) (xs : List D) : eqDn (eqD (.int k)) n xs xs = true := eqDn_self (fun x => by simp [eqD]) n xs
theorem ctd (p : Prop) {i : Decidable p} : (true = @decide p i) = p := by by_cases h : p <;> simp [h]
theorem cfd (p : Prop) {i : Decidable p} : (false = @decide p i) = ¬ p := by by_cases h : p <;> simp [h]
theorem dtd (p : Prop) {i : Decidable p} : (@decide p i = true) = p := by by_cases h : p <;> simp [h]
theorem dfd (p : Prop) {i : Decidable p} : (@decide p i = false) = ¬ p := by by_cases h : p <;> simp [h]
end Go.Vc
