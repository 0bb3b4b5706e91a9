/- Facts about bytes and comparisons. -/
import Derived.Test.YtiddoflcajgjjaaVcExt
import Derived.Test.YtiddoflcajgjjaaAuSpTag2
set_option linter.unusedVariables false
set_option linter.unusedSimpArgs false
namespace Go.Vc
theorem eqDn_ato (k : IntKind) : ∀ (n : Nat) (xs ys : List D), eqDn (eqD (.int k)) n xs ys = true ↔ ∀ i, i < n → ato xs i = ato ys i
  | 0, xs, ys => by simp [eqDn]
  | n + 1, xs, ys => by
    have h := eqDn_ato k n xs.tail ys.tail
    have e0 : ∀ zs : List D, ato zs 0 = (zs.headD (.i 0)).int := fun zs => by cases zs <;> rfl
    have e1 : ∀ (zs : List D) i, ato zs (i + 1) = ato zs.tail i := fun zs i => by cases zs <;> simp [ato]
    rw [eqDn, Bool.and_eq_true, h, eqD, decide_eq_true_eq]
    refine ⟨fun g i hi => ?_, fun g => ⟨?_, fun i hi => ?_⟩⟩
    · match i with
      | 0 => rw [e0, e0]; exact g.1
      | i + 1 => rw [e1, e1]; exact g.2 i (by omega)
    · rw [← e0, ← e0]; exact g 0 (by omega)
    · rw [← e1, ← e1]; exact g (i + 1) (by omega)
theorem eq6t (k : IntKind) (xs ys : List D) : (true = eqDn (eqD (.int k)) 6 xs ys) = (ato xs 0 = ato ys 0 ∧ ato xs 1 = ato ys 1 ∧ ato xs 2 = ato ys 2 ∧ ato xs 3 = ato ys 3 ∧ ato xs 4 = ato ys 4 ∧ ato xs 5 = ato ys 5) := by
  rw [show (true = eqDn (eqD (.int k)) 6 xs ys) = (eqDn (eqD (.int k)) 6 xs ys = true) from propext eq_comm, eqDn_ato]
  exact propext ⟨fun h => ⟨h 0 (by omega), h 1 (by omega), h 2 (by omega), h 3 (by omega), h 4 (by omega), h 5 (by omega)⟩, fun h i hi => match i, hi with
    | 0, _ => h.1 | 1, _ => h.2.1 | 2, _ => h.2.2.1 | 3, _ => h.2.2.2.1 | 4, _ => h.2.2.2.2.1 | 5, _ => h.2.2.2.2.2⟩
theorem eq5t (k : IntKind) (xs ys : List D) : (true = eqDn (eqD (.int k)) 5 xs ys) = (ato xs 0 = ato ys 0 ∧ ato xs 1 = ato ys 1 ∧ ato xs 2 = ato ys 2 ∧ ato xs 3 = ato ys 3 ∧ ato xs 4 = ato ys 4) := by
  rw [show (true = eqDn (eqD (.int k)) 5 xs ys) = (eqDn (eqD (.int k)) 5 xs ys = true) from propext eq_comm, eqDn_ato]
  exact propext ⟨fun h => ⟨h 0 (by omega), h 1 (by omega), h 2 (by omega), h 3 (by omega), h 4 (by omega)⟩, fun h i hi => match i, hi with
    | 0, _ => h.1 | 1, _ => h.2.1 | 2, _ => h.2.2.1 | 3, _ => h.2.2.2.1 | 4, _ => h.2.2.2.2⟩
theorem eq3t (k : IntKind) (xs ys : List D) : (true = eqDn (eqD (.int k)) 3 xs ys) = (ato xs 0 = ato ys 0 ∧ ato xs 1 = ato ys 1 ∧ ato xs 2 = ato ys 2) := by
  rw [show (true = eqDn (eqD (.int k)) 3 xs ys) = (eqDn (eqD (.int k)) 3 xs ys = true) from propext eq_comm, eqDn_ato]
  exact propext ⟨fun h => ⟨h 0 (by omega), h 1 (by omega), h 2 (by omega)⟩, fun h i hi => match i, hi with
    | 0, _ => h.1 | 1, _ => h.2.1 | 2, _ => h.2.2⟩
theorem ft {b : Bool} : (false = b) = ¬ (true = b) := by cases b <;> simp
theorem eq6f (k : IntKind) (xs ys : List D) : (false = eqDn (eqD (.int k)) 6 xs ys) = ¬ (ato xs 0 = ato ys 0 ∧ ato xs 1 = ato ys 1 ∧ ato xs 2 = ato ys 2 ∧ ato xs 3 = ato ys 3 ∧ ato xs 4 = ato ys 4 ∧ ato xs 5 = ato ys 5) := (ft (b := eqDn (eqD (.int k)) 6 xs ys)).trans (congrArg Not (eq6t k xs ys))
theorem eq5f (k : IntKind) (xs ys : List D) : (false = eqDn (eqD (.int k)) 5 xs ys) = ¬ (ato xs 0 = ato ys 0 ∧ ato xs 1 = ato ys 1 ∧ ato xs 2 = ato ys 2 ∧ ato xs 3 = ato ys 3 ∧ ato xs 4 = ato ys 4) := (ft (b := eqDn (eqD (.int k)) 5 xs ys)).trans (congrArg Not (eq5t k xs ys))
theorem eq3f (k : IntKind) (xs ys : List D) : (false = eqDn (eqD (.int k)) 3 xs ys) = ¬ (ato xs 0 = ato ys 0 ∧ ato xs 1 = ato ys 1 ∧ ato xs 2 = ato ys 2) := (ft (b := eqDn (eqD (.int k)) 3 xs ys)).trans (congrArg Not (eq3t k xs ys))
theorem atoc0 (x : D) (xs : List D) : ato (x :: xs) 0 = x.int := rfl
theorem ato1 (x y : D) (xs : List D) : ato (x :: y :: xs) 1 = y.int := rfl
theorem ato2 (x y z : D) (xs : List D) : ato (x :: y :: z :: xs) 2 = z.int := rfl
theorem ato3 (x y z w : D) (xs : List D) : ato (x :: y :: z :: w :: xs) 3 = w.int := rfl
theorem ato4 (x y z w u : D) (xs : List D) : ato (x :: y :: z :: w :: u :: xs) 4 = u.int := rfl
theorem ato5 (x y z w u v : D) (xs : List D) : ato (x :: y :: z :: w :: u :: v :: xs) 5 = v.int := rfl
theorem atoc (x : D) (xs : List D) (i : Nat) : ato (x :: xs) (i + 1) = ato xs i := rfl
end Go.Vc
