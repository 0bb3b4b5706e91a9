/- A part of the proof of the seat's laws: PfSn10. It states no claim by itself. -/
import Derived.Test.YtpdcgjpkcjhbjaaPfSn9
set_option linter.unusedVariables false
set_option linter.unusedSimpArgs false
namespace Go.Vc.Seat
open Go.Vc Go.Proofs.Try

def vrow (n : Nat) (B : Nat → V4) : List D := (List.range n).map fun v => vD (B v)
theorem vrow_len (n : Nat) (B : Nat → V4) : (vrow n B).length = n := by simp [vrow]
theorem vrow_at {n v : Nat} {B : Nat → V4} (h : v < n) : (vrow n B).getD v (.i 0) = vD (B v) := by
  simp [vrow, List.getD_eq_getElem?_getD, h]
theorem vrow_succ (n : Nat) (B : Nat → V4) : vrow (n + 1) B = vrow n B ++ [vD (B n)] := by
  simp [vrow, List.range_succ]
theorem vrow_congr {n : Nat} {B B' : Nat → V4} (h : ∀ v, v < n → B v = B' v) : vrow n B = vrow n B' := by
  unfold vrow
  refine List.map_congr_left fun v hv => ?_
  rw [h v (by simpa using hv)]
theorem vrow_set {n v : Nat} {B : Nat → V4} (x : V4) (h : v < n) : (vrow n B).set v (vD x) = vrow n (fun w => if w = v then x else B w) := by
  refine List.ext_getElem (by simp [vrow]) fun i h1 h2 => ?_
  rw [List.getElem_set]
  simp only [vrow, List.getElem_map, List.getElem_range]
  by_cases hv : v = i
  · rw [if_pos hv, if_pos hv.symm]
  · rw [if_neg hv, if_neg (fun h => hv h.symm)]
/-- What each bridge holds for the best after so many sides. -/
def acc2 (ids : List D) (F : Nat → Span.Lab) (ss : List D) (i v : Nat) : Int × V4 := if (F v).1 = getI ids v then (-1, ⟨0, 0, 0, 0⟩) else (ss.take i).foldl (rpS ids F v) (-1, ⟨0, 0, 0, 0⟩)
theorem acc2_other {ids : List D} {F : Nat → Span.Lab} {ss : List D} {i v : Nat} (hi : i < ss.length) (h : fi (ss.getD i (.i 0)) 0 ≠ v ∨ (F v).1 = getI ids v) : acc2 ids F ss (i + 1) v = acc2 ids F ss i v := by
  unfold acc2
  by_cases hr : (F v).1 = getI ids v
  · rw [if_pos hr, if_pos hr]
  · rw [if_neg hr, if_neg hr, foldl_take _ _ _ _ hi, rpS, if_neg (by rcases h with h | h; exact h; exact absurd h hr)]
theorem acc2_me {ids : List D} {F : Nat → Span.Lab} {ss : List D} {i v : Nat} (hi : i < ss.length) (h : fi (ss.getD i (.i 0)) 0 = v) (hr : ¬ (F v).1 = getI ids v) : acc2 ids F ss (i + 1) v = rpStep ids F (acc2 ids F ss i v) (ss.getD i (.i 0)) := by
  unfold acc2
  rw [if_neg hr, if_neg hr, foldl_take _ _ _ _ hi, rpS, if_pos h]
theorem eq4_t {x y : V4} (h : true = (decide (x.r = y.r) && (decide (x.c = y.c) && (decide (x.b = y.b) && decide (x.p = y.p))))) : x = y := by
  have h := h.symm
  simp only [Bool.and_eq_true, decide_eq_true_eq] at h
  obtain ⟨a, b, c, d⟩ := x
  obtain ⟨a', b', c', d'⟩ := y
  simp only at h
  simp [h]
theorem eq4_f {x y : V4} (h : false = (decide (x.r = y.r) && (decide (x.c = y.c) && (decide (x.b = y.b) && decide (x.p = y.p))))) : ¬ x = y := by
  intro e
  subst e
  simp at h
theorem rw_1 {a : Int × V4} {v : V4} {p : Int} (h : a.1 < 0) : rpWins a v p = true := by simp [rpWins, h]
theorem rw_2 {a : Int × V4} {v : V4} {p : Int} (h : true = bet v a.2) : rpWins a v p = true := by simp [rpWins, ← h]
theorem rw_3 {a : Int × V4} {v : V4} {p : Int} (h : v = a.2) (k : p < a.1) : rpWins a v p = true := by simp [rpWins, h, k]
theorem rw_f {a : Int × V4} {v : V4} {p : Int} (h1 : ¬ a.1 < 0) (h2 : false = bet v a.2) (h3 : ¬ v = a.2 ∨ ¬ p < a.1) : rpWins a v p = false := by
  have h4 : ¬ (v = a.2 ∧ p < a.1) := fun h => by rcases h3 with h3 | h3; exact h3 h.1; exact h3 h.2
  simp only [rpWins, ← h2, decide_eq_false h1, decide_eq_false h4, Bool.or_false]
end Go.Vc.Seat
