/- A part of the proof of the seat's laws: PfBc9. It states no claim by itself. -/
import Derived.Test.YtghpaogagolagaaPfBc3
set_option linter.unusedVariables false
set_option linter.unusedSimpArgs false
namespace Go.Vc.Seat
open Go.Vc Go.Proofs.Try

theorem take_min (xs : List D) {m : Int} {inst : Decidable (m < (xs.length : Int))} (hm : 0 ≤ m) : List.take ((@ite _ (m < (xs.length : Int)) inst m (xs.length : Int)).toNat - Int.toNat 0) (List.drop (Int.toNat 0) xs) = xs.take m.toNat := by
  rw [Int.toNat_zero, Nat.sub_zero, List.drop_zero]
  split
  · rfl
  · rw [Int.toNat_natCast, List.take_length, List.take_of_length_le (by omega)]
theorem map_snoc (f : D → D) (ps : List D) {k : Nat} (h : k < ps.length) : (ps.take (k + 1)).map f = (ps.take k).map f ++ [f (ps.getD k (.i 0))] := by
  rw [List.take_succ_eq_append_getElem h, List.map_append, List.getD_eq_getElem?_getD, List.getElem?_eq_getElem h]
  rfl
theorem map_tlen (f : D → D) (ps : List D) {k : Nat} (h : k ≤ ps.length) : ((ps.take k).map f).length = k := by
  rw [List.length_map, List.length_take]
  omega
end Go.Vc.Seat
