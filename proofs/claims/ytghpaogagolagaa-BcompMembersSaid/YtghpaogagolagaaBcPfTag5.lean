/- A part of the proof of the seat's laws: BcPfTag5. It states no claim by itself. -/
import Derived.Test.YtghpaogagolagaaBcPfTag4
set_option linter.unusedVariables false
set_option linter.unusedSimpArgs false
namespace Go.Vc.Seat
open Go.Vc Go.Proofs.Try

theorem ato_le {xs : List D} (h : ∀ x ∈ xs, okD (.int .u8) x) (i : Nat) : 0 ≤ ato xs i ∧ ato xs i ≤ 255 := by
  unfold ato
  rcases Nat.lt_or_ge i xs.length with h1 | h1
  · rw [List.getD_eq_getElem?_getD, List.getElem?_eq_getElem h1]
    exact has_u8 (h _ (List.getElem_mem h1)).1
  · rw [List.getD_eq_getElem?_getD, List.getElem?_eq_none h1]
    simp [D.int]
theorem num_take (xs : List D) (i : Nat) (h : i < xs.length) : num (xs.take (i + 1)) = num (xs.take i) * 256 + ato xs i := by
  unfold num ato
  rw [List.take_succ_eq_append_getElem h, List.foldl_append]
  simp [h]
theorem num_take_le {xs : List D} (h : ∀ x ∈ xs, okD (.int .u8) x) : ∀ i, i ≤ xs.length → 0 ≤ num (xs.take i) ∧ num (xs.take i) < 256 ^ i
  | 0, _ => by simp [num]
  | i + 1, hi => by
    have h1 := num_take_le h i (by omega)
    have h2 := ato_le h i
    rw [num_take xs i (by omega), Int.pow_succ]
    omega
theorem num2 {xs : List D} (h : 2 ≤ xs.length) : num (xs.take 2) = ato xs 0 * 256 + ato xs 1 := by
  rw [num_take xs 1 (by omega), num_take xs 0 (by omega)]
  simp [num]
theorem num4 {xs : List D} (h : 4 ≤ xs.length) : num (xs.take 4) = ((ato xs 0 * 256 + ato xs 1) * 256 + ato xs 2) * 256 + ato xs 3 := by
  rw [num_take xs 3 (by omega), num_take xs 2 (by omega), num_take xs 1 (by omega), num_take xs 0 (by omega)]
  simp [num]
theorem take_drop_all (xs : List D) (k : Nat) : List.take (xs.length - k) (List.drop k xs) = List.drop k xs := List.take_of_length_le (by simp)
theorem cat_snoc (n : Int) (xs : List D) (i : Nat) (h : i < xs.length) : be n 2 ++ cat (xs.take (i + 1)) = (be n 2 ++ cat (xs.take i)) ++ (xs.getD i (.i 0)).list := by
  rw [cat_take xs i h, List.append_assoc]
theorem be2 {n : Int} (h : 0 ≤ n ∧ n ≤ 65535) : [D.i (IntKind.u8.wrap (IntKind.i64.wrap (n.tdiv 256))), D.i (IntKind.u8.wrap (n.tmod 256))] = be n 2 := by
  rw [Int.tdiv_eq_ediv_of_nonneg h.1, Int.tmod_eq_emod_of_nonneg h.1, wi64_in (by omega) (by omega), w8, w8]
  simp [be]
end Go.Vc.Seat
