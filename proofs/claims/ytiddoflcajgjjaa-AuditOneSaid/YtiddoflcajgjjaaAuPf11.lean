/- A part of the proof of the seat's laws: AuPf11. It states no claim by itself. -/
import Derived.Test.YtiddoflcajgjjaaAuPf2
set_option linter.unusedVariables false
set_option linter.unusedSimpArgs false
namespace Go.Vc.Seat
open Go.Vc Go.Proofs.Try

/-- The counters before, when the first i were taken over. -/
def befD (was : List D) (i : Nat) : List D := (List.range 15).map fun j => .i (if j < i then gI was j else 0)
theorem bef_len (was : List D) (i : Nat) : (befD was i).length = 15 := by simp [befD]
theorem bef_zero (was : List D) : befD was 0 = [.i 0, .i 0, .i 0, .i 0, .i 0, .i 0, .i 0, .i 0, .i 0, .i 0, .i 0, .i 0, .i 0, .i 0, .i 0] := rfl
theorem gI_bef (was : List D) (i : Nat) {j : Nat} (hj : j < 15) : gI (befD was i) j = if j < i then gI was j else 0 := by
  unfold gI befD
  rw [List.getD_eq_getElem?_getD, List.getElem?_map, List.getElem?_range hj]
  rfl
theorem bef_at (was : List D) (i : Nat) {j : Nat} (h : j < (befD was i).length) : (befD was i)[j] = .i (if j < i then gI was j else 0) := by simp [befD]
theorem bef_set (was : List D) {i : Nat} (hi : i < 15) : (befD was i).set i (.i (gI was i)) = befD was (i + 1) := by
  refine List.ext_getElem (by rw [List.length_set, bef_len, bef_len]) fun j h1 h2 => ?_
  rw [List.getElem_set, bef_at]
  split
  · rename_i h
    subst h
    rw [bef_at, if_pos (by omega)]
  · rw [bef_at]
    by_cases h : j < i
    · rw [if_pos h, if_pos (by omega)]
    · rw [if_neg h, if_neg (by omega)]
theorem gI_set {b : List D} {k : Nat} (hk : k < b.length) (v : Int) (j : Nat) : gI (b.set k (.i v)) j = if j = k then v else gI b j := by
  unfold gI
  rw [List.getD_eq_getElem?_getD, List.getD_eq_getElem?_getD, List.getElem?_set]
  by_cases h : k = j
  · subst h
    rw [if_pos rfl, if_pos hk, if_pos rfl]
    rfl
  · rw [if_neg h, if_neg fun e => h e.symm]
/-- Counters of which two alone rose. -/
theorem sum_two {b a : List D} {w : Int} {k p q : Nat} (hpq : p ≠ q) (h : ∀ j, j ≠ p → j ≠ q → gI a j = gI b j) : ∀ n, sumC b a w k n = (if p < n ∧ clsN w p = k then riseI (gI b p) (gI a p) else 0) + (if q < n ∧ clsN w q = k then riseI (gI b q) (gI a q) else 0)
  | 0 => by simp [sumC]
  | n + 1 => by
    unfold sumC
    rw [sum_two hpq h n]
    by_cases hp : n = p
    · subst hp
      repeat' split
      all_goals omega
    · by_cases hq : n = q
      · subst hq
        repeat' split
        all_goals omega
      · have hz : (if clsN w n = k then riseI (gI b n) (gI a n) else 0) = 0 := by
          rw [h n hp hq]
          unfold riseI
          simp
        have e1 : (p < n + 1 ∧ clsN w p = k) = (p < n ∧ clsN w p = k) := by
          refine propext ⟨fun hh => ⟨by omega, hh.2⟩, fun hh => ⟨by omega, hh.2⟩⟩
        have e2 : (q < n + 1 ∧ clsN w q = k) = (q < n ∧ clsN w q = k) := by
          refine propext ⟨fun hh => ⟨by omega, hh.2⟩, fun hh => ⟨by omega, hh.2⟩⟩
        rw [hz]
        simp only [e1, e2]
        omega
/-- A reason's counter. -/
def isReason (r : Nat) : Prop := r = 5 ∨ r = 6 ∨ r = 7 ∨ r = 8 ∨ r = 9 ∨ r = 10 ∨ r = 11 ∨ r = 13 ∨ r = 14
theorem cls_in {w : Int} {m : Nat} (h : w = m) : clsN w m = 0 := by unfold clsN; rw [if_pos h.symm]
theorem cls_r {w : Int} {r : Nat} (hw : w = 1 ∨ w = 2) (h : isReason r) : clsN w r = 3 := by
  unfold isReason at h
  unfold clsN
  rw [if_neg (by omega), if_neg (by omega), if_neg (by omega)]
theorem cls_c {w : Int} {c : Nat} (hw : w = 1 ∨ w = 2) (h : c = 4 ∨ c = 12) : clsN w c = 2 := by
  unfold clsN
  rw [if_neg (by omega), if_neg (by omega), if_pos (by omega)]
theorem rise_1 (x : Int) : riseI x (x + 1) = 1 := by
  unfold riseI
  rw [if_neg (by omega), if_neg (by omega), if_pos (by omega)]
theorem rise_0 (x : Int) : riseI x x = 0 := by
  unfold riseI
  rw [if_neg (by omega), if_pos rfl]
theorem rise_p {x y : Int} (h : x < y) : 0 < riseI x y := by
  unfold riseI
  rw [if_neg (by omega), if_neg (by omega)]
  split <;> omega
section
variable {b : List D} (hb15 : b.length = 15) {m : Nat} (hm : m = 1 ∨ m = 2)
include hb15 hm
theorem one_arg {a : List D} (ha : a.length = 15) : argOK b a m = true := decide_eq_true ⟨hb15, ha, by omega⟩
/-- What two counters that rose come to. -/
theorem one_two {a : List D} (ha : a.length = 15) {p q : Nat} (hp : p < 15) (hq : q < 15) (hpq : p ≠ q) (h : ∀ j, j ≠ p → j ≠ q → gI a j = gI b j) (h1 : ¬ gI a p < gI b p) (h2 : ¬ gI a q < gI b q) :
    (cntP ((if clsN m p = 1 then riseI (gI b p) (gI a p) else 0) + (if clsN m q = 1 then riseI (gI b q) (gI a q) else 0)) (riseI (gI b m) (gI a m)) ((if clsN m p = 2 then riseI (gI b p) (gI a p) else 0) + (if clsN m q = 2 then riseI (gI b q) (gI a q) else 0)) ((if clsN m p = 3 then riseI (gI b p) (gI a p) else 0) + (if clsN m q = 3 then riseI (gI b q) (gI a q) else 0)) → countE b a m = 0) ∧
    (¬ cntP ((if clsN m p = 1 then riseI (gI b p) (gI a p) else 0) + (if clsN m q = 1 then riseI (gI b q) (gI a q) else 0)) (riseI (gI b m) (gI a m)) ((if clsN m p = 2 then riseI (gI b p) (gI a p) else 0) + (if clsN m q = 2 then riseI (gI b q) (gI a q) else 0)) ((if clsN m p = 3 then riseI (gI b p) (gI a p) else 0) + (if clsN m q = 3 then riseI (gI b q) (gI a q) else 0)) → countE b a m = 320) := by
  have hf : fallB b a = false := fall_f fun j hj => by
    by_cases e1 : j = p
    · rw [e1]; exact h1
    · by_cases e2 : j = q
      · rw [e2]; exact h2
      · rw [h j e1 e2]; omega
  have s : ∀ k, sumC b a m k 15 = (if clsN m p = k then riseI (gI b p) (gI a p) else 0) + (if clsN m q = k then riseI (gI b q) (gI a q) else 0) := fun k => by
    rw [sum_two hpq h 15]
    simp only [hp, hq, true_and]
  exact count_t (one_arg hb15 hm ha) hf (by rw [Int.toNat_natCast]) (s 1) (s 2) (s 3)
theorem one_0 {r : Nat} (hr : isReason r) : countE b (b.set r (.i (gI b r + 1))) m = 0 := by
  have hr' := hr
  unfold isReason at hr'
  have g := gI_set (b := b) (k := r) (by omega) (gI b r + 1)
  have hc := cls_r (w := m) (by omega) hr
  have hc4 := cls_c (w := m) (c := 4) (by omega) (by omega)
  refine (one_two hb15 hm (by rw [List.length_set]; exact hb15) (p := r) (q := 4) (by omega) (by omega) (by omega) (fun j h1 _ => by rw [g, if_neg h1]) (by rw [g, if_pos rfl]; omega) (by rw [g, if_neg (by omega)]; omega)).1 ?_
  rw [g r, g 4, g m, if_pos rfl, if_neg (by omega : ¬ (4 : Nat) = r), if_neg (by omega : ¬ m = r), hc, hc4, rise_0, rise_0, rise_1]
  unfold cntP
  simp
theorem one_1 {v : Int} (hv : gI b 4 < v) : countE b ((b.set m (.i (gI b m + 1))).set 4 (.i v)) m = 0 := by
  have g1 := gI_set (b := b) (k := m) (by omega) (gI b m + 1)
  have g := gI_set (b := b.set m (.i (gI b m + 1))) (k := 4) (by rw [List.length_set]; omega) v
  have hc := cls_in (w := m) (m := m) rfl
  have hc4 := cls_c (w := m) (c := 4) (by omega) (by omega)
  refine (one_two hb15 hm (by rw [List.length_set, List.length_set]; exact hb15) (p := m) (q := 4) (by omega) (by omega) (by omega) (fun j h1 h2 => by rw [g, if_neg h2, g1, if_neg h1]) (by rw [g, if_neg (by omega), g1, if_pos rfl]; omega) (by rw [g, if_pos rfl]; omega)).1 ?_
  rw [g m, g 4, if_neg (by omega : ¬ m = 4), if_pos rfl, g1, if_pos rfl, hc, hc4, rise_1]
  have := rise_p hv
  unfold cntP
  simp
  omega
theorem one_2 {r : Nat} (hr : isReason r) : countE b ((b.set m (.i (gI b m + 1))).set r (.i (gI b r + 1))) m = 0 := by
  have hr' := hr
  unfold isReason at hr'
  have g1 := gI_set (b := b) (k := m) (by omega) (gI b m + 1)
  have g := gI_set (b := b.set m (.i (gI b m + 1))) (k := r) (by rw [List.length_set]; omega) (gI b r + 1)
  have hc := cls_in (w := m) (m := m) rfl
  have hcr := cls_r (w := m) (by omega) hr
  refine (one_two hb15 hm (by rw [List.length_set, List.length_set]; exact hb15) (p := m) (q := r) (by omega) (by omega) (by omega) (fun j h1 h2 => by rw [g, if_neg h2, g1, if_neg h1]) (by rw [g, if_neg (by omega), g1, if_pos rfl]; omega) (by rw [g, if_pos rfl]; omega)).1 ?_
  rw [g m, g r, if_neg (by omega : ¬ m = r), if_pos rfl, g1, if_pos rfl, hc, hcr, rise_1, rise_1]
  unfold cntP
  simp
theorem one_3 : countE b b m = 320 := by
  have hc := cls_in (w := m) (m := m) rfl
  have hc4 := cls_c (w := m) (c := 4) (by omega) (by omega)
  refine (one_two hb15 hm hb15 (p := m) (q := 4) (by omega) (by omega) (by omega) (fun _ _ _ => rfl) (by omega) (by omega)).2 ?_
  rw [hc, hc4, rise_0, rise_0]
  unfold cntP
  simp
theorem one_4 {a : List D} (ha : a.length = 15) {r : Nat} (hr : r < 15) (h : gI a r < gI b r) : countE b a m = 320 := count_fall (one_arg hb15 hm ha) hr h
theorem one_5 {r : Nat} (hr : isReason r) : countE b ((b.set r (.i (gI b r + 1))).set 12 (.i (gI b 12 + 1))) m = 320 := by
  have hr' := hr
  unfold isReason at hr'
  have g1 := gI_set (b := b) (k := r) (by omega) (gI b r + 1)
  have g := gI_set (b := b.set r (.i (gI b r + 1))) (k := 12) (by rw [List.length_set]; omega) (gI b 12 + 1)
  have hcr := cls_r (w := m) (by omega) hr
  have hc12 := cls_c (w := m) (c := 12) (by omega) (by omega)
  refine (one_two hb15 hm (by rw [List.length_set, List.length_set]; exact hb15) (p := r) (q := 12) (by omega) (by omega) (by omega) (fun j h1 h2 => by rw [g, if_neg h2, g1, if_neg h1]) (by rw [g, if_neg (by omega), g1, if_pos rfl]; omega) (by rw [g, if_pos rfl]; omega)).2 ?_
  rw [g r, g 12, g m, if_neg (by omega : ¬ r = 12), if_pos rfl, if_neg (by omega : ¬ m = 12), g1, g1, if_pos rfl, if_neg (by omega : ¬ m = r), hcr, hc12, rise_1, rise_1, rise_0]
  unfold cntP
  simp
end
end Go.Vc.Seat
