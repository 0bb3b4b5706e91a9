/- A part of the proof of the seat's laws: PfSn4. It states no claim by itself. -/
import Derived.Test.YtpdcgjpkcjhbjaaPfSn3
set_option linter.unusedVariables false
set_option linter.unusedSimpArgs false
namespace Go.Vc.Seat
open Go.Vc Go.Proofs.Try

theorem addr_s5 (a b : Int) : (a % 281474976710656 = b % 281474976710656) ↔ (a % 256 = b % 256 ∧ a / 256 % 1099511627776 = b / 256 % 1099511627776) := by omega
theorem addr_s4 (a b : Int) : (a % 1099511627776 = b % 1099511627776) ↔ (a % 256 = b % 256 ∧ a / 256 % 4294967296 = b / 256 % 4294967296) := by omega
theorem addr_s3 (a b : Int) : (a % 4294967296 = b % 4294967296) ↔ (a % 256 = b % 256 ∧ a / 256 % 16777216 = b / 256 % 16777216) := by omega
theorem addr_s2 (a b : Int) : (a % 16777216 = b % 16777216) ↔ (a % 256 = b % 256 ∧ a / 256 % 65536 = b / 256 % 65536) := by omega
theorem addr_s1 (a b : Int) : (a % 65536 = b % 65536) ↔ (a % 256 = b % 256 ∧ a / 256 % 256 = b / 256 % 256) := by omega
theorem addr_eq (a b : Int) : eqDn (eqD (.int .u8)) 6 (be a 6) (be b 6) = sameAddr a b := by
  rw [Bool.eq_iff_iff, eqDn_ato, sameAddr, decide_eq_true_eq, addr_s5, addr_s4, addr_s3, addr_s2, addr_s1]
  have d : ∀ (x : Int), ato (be x 6) 0 = x / 256 / 256 / 256 / 256 / 256 % 256 ∧ ato (be x 6) 1 = x / 256 / 256 / 256 / 256 % 256 ∧ ato (be x 6) 2 = x / 256 / 256 / 256 % 256 ∧ ato (be x 6) 3 = x / 256 / 256 % 256 ∧ ato (be x 6) 4 = x / 256 % 256 ∧ ato (be x 6) 5 = x % 256 := fun x => by
    have e : be x 6 = [.i (x / 256 / 256 / 256 / 256 / 256 % 256), .i (x / 256 / 256 / 256 / 256 % 256), .i (x / 256 / 256 / 256 % 256), .i (x / 256 / 256 % 256), .i (x / 256 % 256), .i (x % 256)] := by
      have e5 : x / 256 / 256 / 256 / 256 / 256 = x / 1099511627776 := by omega
      have e4 : x / 256 / 256 / 256 / 256 = x / 4294967296 := by omega
      have e3 : x / 256 / 256 / 256 = x / 16777216 := by omega
      have e2 : x / 256 / 256 = x / 65536 := by omega
      rw [e5, e4, e3, e2]
      simp only [be, Int.reducePow, Int.ediv_one]
    rw [e]
    exact ⟨atoc0 _ _, ato1 _ _ _, ato2 _ _ _ _, ato3 _ _ _ _ _, ato4 _ _ _ _ _ _, ato5 _ _ _ _ _ _ _⟩
  obtain ⟨a0, a1, a2, a3, a4, a5⟩ := d a
  obtain ⟨b0, b1, b2, b3, b4, b5⟩ := d b
  constructor
  · intro h
    have h0 := h 0 (by omega)
    have h1 := h 1 (by omega)
    have h2 := h 2 (by omega)
    have h3 := h 3 (by omega)
    have h4 := h 4 (by omega)
    have h5 := h 5 (by omega)
    rw [a0, b0] at h0
    rw [a1, b1] at h1
    rw [a2, b2] at h2
    rw [a3, b3] at h3
    rw [a4, b4] at h4
    rw [a5, b5] at h5
    exact ⟨h5, h4, h3, h2, h1, h0⟩
  · rintro ⟨h5, h4, h3, h2, h1, h0⟩ i hi
    match i, hi with
    | 0, _ => rw [a0, b0]; exact h0
    | 1, _ => rw [a1, b1]; exact h1
    | 2, _ => rw [a2, b2]; exact h2
    | 3, _ => rw [a3, b3]; exact h3
    | 4, _ => rw [a4, b4]; exact h4
    | 5, _ => rw [a5, b5]; exact h5
/-- The places of sides. -/
def placesD (l : List D) : List D := l.map fun s => .a [.i (fi s 0), .i (fi s 1)]
theorem sides_at : ∀ (es : List D) (i : Nat), i < es.length → (sidesD es).getD (2 * i) (.i 0) = sideA (es.getD i (.i 0)) ∧ (sidesD es).getD (2 * i + 1) (.i 0) = sideB (es.getD i (.i 0))
  | e :: r, 0, _ => ⟨rfl, rfl⟩
  | e :: r, i + 1, h => by
    have := sides_at r i (by simpa using h)
    exact this
theorem places_take (l : List D) (m : Nat) (h : m < l.length) : placesD (l.take (m + 1)) = placesD (l.take m) ++ [.a [.i (fi (l.getD m (.i 0)) 0), .i (fi (l.getD m (.i 0)) 1)]] := by
  unfold placesD
  rw [List.take_succ_eq_append_getElem h, List.map_append]
  simp [h]
theorem places_at (l : List D) (m k : Nat) (hk : k < m) (hm : m ≤ l.length) : (placesD (l.take m)).getD k (.i 0) = .a [.i (fi (l.getD k (.i 0)) 0), .i (fi (l.getD k (.i 0)) 1)] := by
  unfold placesD
  have h1 : k < (l.take m).length := by rw [List.length_take]; omega
  simp [List.getD_eq_getElem?_getD, hk, show k < l.length by omega]
end Go.Vc.Seat
