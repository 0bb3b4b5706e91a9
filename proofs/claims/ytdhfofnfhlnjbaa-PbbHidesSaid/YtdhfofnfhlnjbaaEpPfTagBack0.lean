/- A part of the proof of the seat's laws: EpPfTagBack0. It states no claim by itself. -/
import Derived.Test.YtdhfofnfhlnjbaaEpPfTag7
import Derived.Test.YtdhfofnfhlnjbaaVcExt
set_option linter.unusedVariables false
set_option linter.unusedSimpArgs false
namespace Go.Vc.Seat
open Go.Vc Go.Proofs.Try

theorem be2n {N : Int} {m : List D} (h : 0 ≤ N ∧ N < 65536) : ato (be N 2 ++ m) 0 * 256 + ato (be N 2 ++ m) 1 = N := by
  show N / 256 ^ 1 % 256 * 256 + N / 256 ^ 0 % 256 = N
  omega
theorem be4n {N : Int} {m : List D} (h : 0 ≤ N ∧ N < 4294967296) : ato (be N 4 ++ m) 0 = N / 16777216 ∧ ato (be N 4 ++ m) 1 * 65536 + ato (be N 4 ++ m) 2 * 256 + ato (be N 4 ++ m) 3 = N % 16777216 := by
  show N / 256 ^ 3 % 256 = N / 16777216 ∧ N / 256 ^ 2 % 256 * 65536 + N / 256 ^ 1 % 256 * 256 + N / 256 ^ 0 % 256 = N % 16777216
  constructor <;> omega
theorem tagNum_in {p v : Int} {d : Bool} (h : tagOK p v = true) : (0 ≤ tagNum p d v ∧ tagNum p d v < 65536) ∧ tagNum p d v / 8192 = p ∧ tagNum p d v % 4096 = v ∧ decide (tagNum p d v / 4096 % 2 = 1) = d := by
  rw [tagOK_iff] at h
  unfold tagNum
  cases d <;> simp only [Bool.false_eq_true, ↓reduceIte, decide_eq_true_eq, decide_eq_false_iff_not] <;> omega
theorem itagNum_in {p v : Int} {d u : Bool} (h : itagOK p v = true) : (0 ≤ itagNum p d u v ∧ itagNum p d u v < 4294967296) ∧ itagNum p d u v / 16777216 / 32 = p ∧ itagNum p d u v % 16777216 = v ∧ decide (itagNum p d u v / 16777216 / 16 % 2 = 1) = d ∧ decide (itagNum p d u v / 16777216 / 8 % 2 = 1) = u ∧ itagNum p d u v / 16777216 % 8 = 0 := by
  rw [itagOK_iff] at h
  unfold itagNum
  cases d <;> cases u <;> simp only [Bool.false_eq_true, ↓reduceIte, decide_eq_true_eq, decide_eq_false_iff_not] <;> omega
theorem tagNum_back {N : Int} (h : 0 ≤ N ∧ N < 65536) : tagNum (N / 8192) (decide (N / 4096 % 2 = 1)) (N % 4096) = N := by
  unfold tagNum
  by_cases h1 : N / 4096 % 2 = 1 <;> simp only [h1, decide_true, decide_false, Bool.false_eq_true, ↓reduceIte] <;> omega
theorem itagNum_back {a b : Int} (ha : 0 ≤ a ∧ a ≤ 255) (h : a % 8 = 0) : itagNum (a / 32) (decide (a / 16 % 2 = 1)) (decide (a / 8 % 2 = 1)) b = a * 16777216 + b := by
  unfold itagNum
  by_cases h1 : a / 16 % 2 = 1 <;> by_cases h2 : a / 8 % 2 = 1 <;> simp only [h1, h2, decide_true, decide_false, Bool.false_eq_true, ↓reduceIte] <;> omega
theorem drop2 {xs : List D} (h : ∀ x ∈ xs, okD (.int .u8) x) (hl : 2 ≤ xs.length) : be (ato xs 0 * 256 + ato xs 1) 2 ++ xs.drop 2 = xs := by
  have h0 := ato_le h 0
  have h1 := ato_le h 1
  match xs, hl, h with
  | x :: y :: r, _, h =>
    have hx := (h x (by simp)).2
    have hy := (h y (by simp)).2
    show D.i ((x.int * 256 + y.int) / 256 ^ 1 % 256) :: D.i ((x.int * 256 + y.int) / 256 ^ 0 % 256) :: r = x :: y :: r
    have h0 : 0 ≤ x.int ∧ x.int ≤ 255 := h0
    have h1 : 0 ≤ y.int ∧ y.int ≤ 255 := h1
    have e0 : (x.int * 256 + y.int) / 256 ^ 1 % 256 = x.int := by omega
    have e1 : (x.int * 256 + y.int) / 256 ^ 0 % 256 = y.int := by omega
    rw [e0, e1, ← hx, ← hy]
theorem drop16 {xs : List D} (h : ∀ x ∈ xs, okD (.int .u8) x) (hl : 16 ≤ xs.length) : be (ato xs 0 * 16777216 + (ato xs 1 * 65536 + ato xs 2 * 256 + ato xs 3)) 4 ++ (xs.drop 4).take 6 ++ (xs.drop 10).take 6 ++ xs.drop 16 = xs := by
  have h0 := ato_le h 0
  have h1 := ato_le h 1
  have h2 := ato_le h 2
  have h3 := ato_le h 3
  have q1 : (xs.drop 10).take 6 ++ xs.drop 16 = xs.drop 10 := by rw [show xs.drop 16 = (xs.drop 10).drop 6 by rw [List.drop_drop], List.take_append_drop]
  have q2 : (xs.drop 4).take 6 ++ xs.drop 10 = xs.drop 4 := by rw [show xs.drop 10 = (xs.drop 4).drop 6 by rw [List.drop_drop], List.take_append_drop]
  rw [List.append_assoc, q1, List.append_assoc, q2]
  match xs, hl, h with
  | x :: y :: z :: w :: r, _, h =>
    have hx := (h x (by simp)).2
    have hy := (h y (by simp)).2
    have hz := (h z (by simp)).2
    have hw := (h w (by simp)).2
    have h0 : 0 ≤ x.int ∧ x.int ≤ 255 := h0
    have h1 : 0 ≤ y.int ∧ y.int ≤ 255 := h1
    have h2 : 0 ≤ z.int ∧ z.int ≤ 255 := h2
    have h3 : 0 ≤ w.int ∧ w.int ≤ 255 := h3
    show D.i ((x.int * 16777216 + (y.int * 65536 + z.int * 256 + w.int)) / 256 ^ 3 % 256) :: D.i ((x.int * 16777216 + (y.int * 65536 + z.int * 256 + w.int)) / 256 ^ 2 % 256) :: D.i ((x.int * 16777216 + (y.int * 65536 + z.int * 256 + w.int)) / 256 ^ 1 % 256) :: D.i ((x.int * 16777216 + (y.int * 65536 + z.int * 256 + w.int)) / 256 ^ 0 % 256) :: r = x :: y :: z :: w :: r
    have e0 : (x.int * 16777216 + (y.int * 65536 + z.int * 256 + w.int)) / 256 ^ 3 % 256 = x.int := by omega
    have e1 : (x.int * 16777216 + (y.int * 65536 + z.int * 256 + w.int)) / 256 ^ 2 % 256 = y.int := by omega
    have e2 : (x.int * 16777216 + (y.int * 65536 + z.int * 256 + w.int)) / 256 ^ 1 % 256 = z.int := by omega
    have e3 : (x.int * 16777216 + (y.int * 65536 + z.int * 256 + w.int)) / 256 ^ 0 % 256 = w.int := by omega
    rw [e0, e1, e2, e3, ← hx, ← hy, ← hz, ← hw]
end Go.Vc.Seat
