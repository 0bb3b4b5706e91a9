/- A part of the proof of the seat's laws: PfSn7. It states no claim by itself. -/
import Derived.Test.YtpdcgjpkcjhbjaaPfSn5
set_option linter.unusedVariables false
set_option linter.unusedSimpArgs false
namespace Go.Vc.Seat
open Go.Vc Go.Proofs.Try

theorem rowL_len (n : Nat) (L : Nat → Span.Lab) (P : Nat → Int) : (rowL n L P).length = n := by simp [rowL]
theorem rowL_at {n v : Nat} {L : Nat → Span.Lab} {P : Nat → Int} (h : v < n) : (rowL n L P).getD v (.i 0) = nodeD (L v) (P v) := by
  simp [rowL, List.getD_eq_getElem?_getD, h]
theorem rowL_succ (n : Nat) (L : Nat → Span.Lab) (P : Nat → Int) : rowL (n + 1) L P = rowL n L P ++ [nodeD (L n) (P n)] := by
  simp [rowL, List.range_succ]
theorem rowL_set {n v : Nat} {L : Nat → Span.Lab} {P : Nat → Int} (x : Span.Lab) (h : v < n) : (rowL n L P).set v (nodeD x (P v)) = rowL n (Span.upd L v x) P := by
  refine List.ext_getElem (by simp [rowL]) fun i h1 h2 => ?_
  rw [List.getElem_set]
  simp only [rowL, List.getElem_map, List.getElem_range, Span.upd]
  by_cases hv : v = i
  · rw [if_pos hv, if_pos hv.symm, hv]
  · rw [if_neg hv, if_neg (fun h => hv h.symm)]
theorem rounds_snoc (s : Span.Side) : ∀ (T : List Span.Side) (L : Nat → Span.Lab), Span.rounds L (T ++ [s]) = Span.relax (Span.rounds L T) s
  | [], L => rfl
  | t :: r, L => rounds_snoc s r (Span.relax L t)
theorem sides_in {n : Nat} {ss : List D} (hc : goodS n ss) : ∀ s ∈ ss.map sideOf, s.me < n ∧ s.you < n ∧ 0 < s.c ∧ s.c ≤ 200000000 := by
  intro s hs
  obtain ⟨d, hd, rfl⟩ := List.mem_map.1 hs
  obtain ⟨i, hi, hg⟩ := List.mem_iff_getElem.1 hd
  have h := hc.2.2.2 i hi
  have e : ss.getD i (.i 0) = d := by rw [List.getD_eq_getElem?_getD, List.getElem?_eq_getElem hi]; simpa using hg
  rw [e] at h
  simp only [sideOf]
  omega
theorem relax_t {n : Nat} {M : Nat → Span.Lab} {P : Nat → Int} {s : D} (h0 : (fi s 0).toNat < n) (h3 : (fi s 3).toNat < n) (hw : IntKind.u32.wrap ((M (fi s 3).toNat).2 + fi s 2) = (M (fi s 3).toNat).2 + fi s 2) (hlt : Span.lt (Span.way M (sideOf s)) (M (sideOf s).me)) :
    (rowL n M P).set (0 + (fi s 0).toNat) (.a [.i (((rowL n M P).getD (0 + (fi s 3).toNat) (.i 0)).fld 0).int, .i (IntKind.u32.wrap ((((rowL n M P).getD (0 + (fi s 3).toNat) (.i 0)).fld 1).int + fi s 2)), .i (((rowL n M P).getD (0 + (fi s 0).toNat) (.i 0)).fld 2).int]) = rowL n (Span.relax M (sideOf s)) P := by
  rw [Nat.zero_add, Nat.zero_add, rowL_at h0, rowL_at h3, Span.relax, if_pos hlt]
  have e : (((nodeD (M (fi s 3).toNat) (P (fi s 3).toNat)).fld 1).int) = (M (fi s 3).toNat).2 := rfl
  rw [e, hw]
  exact rowL_set (Span.way M (sideOf s)) h0
theorem relax_f {M : Nat → Span.Lab} {s : D} (hlt : ¬ Span.lt (Span.way M (sideOf s)) (M (sideOf s).me)) : Span.relax M (sideOf s) = M := by rw [Span.relax, if_neg hlt]
end Go.Vc.Seat
