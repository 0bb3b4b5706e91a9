/- A part of the proof of the seat's laws: PfSn9a. It states no claim by itself. -/
import Derived.Test.YtpdcgjpkcjhbjaaPfSn8
set_option linter.unusedVariables false
set_option linter.unusedSimpArgs false
namespace Go.Vc.Seat
open Go.Vc Go.Proofs.Try

def rk (x : Span.Lab) : Nat := (x.1 * 4294967296 + x.2).toNat
def tot (L : Nat → Span.Lab) : Nat → Nat
  | 0 => 0
  | n + 1 => tot L n + rk (L n)
theorem tot_ge (L : Nat → Span.Lab) (v : Nat) (x : Span.Lab) : ∀ n, n ≤ v → tot (Span.upd L v x) n = tot L n
  | 0, _ => rfl
  | n + 1, h => by
    have e : Span.upd L v x n = L n := by unfold Span.upd; rw [if_neg (by omega)]
    unfold tot
    rw [tot_ge L v x n (by omega), e]
theorem tot_upd {L : Nat → Span.Lab} {v : Nat} {x : Span.Lab} (h : rk x < rk (L v)) : ∀ n, v < n → tot (Span.upd L v x) n < tot L n
  | n + 1, hv => by
    unfold tot
    rcases Nat.lt_or_eq_of_le (Nat.le_of_lt_succ hv) with hv | rfl
    · have := tot_upd h n hv
      have e : Span.upd L v x n = L n := by unfold Span.upd; rw [if_neg (by omega)]
      rw [e]
      omega
    · rw [tot_ge L v x v (Nat.le_refl _)]
      have e : Span.upd L v x v = x := by unfold Span.upd; rw [if_pos rfl]
      rw [e]
      omega
theorem rk_lt {x y : Span.Lab} (h : Span.lt x y) (h1 : 0 ≤ x.1) (h2 : 0 ≤ x.2) (h3 : x.2 < 4294967296) (h4 : 0 ≤ y.2) : rk x < rk y := by
  unfold Span.lt at h
  unfold rk
  omega
theorem rowL_congr {n : Nat} {L L' : Nat → Span.Lab} {P P' : Nat → Int} (h : ∀ v, v < n → L v = L' v ∧ P v = P' v) : rowL n L P = rowL n L' P' := by
  unfold rowL
  refine List.map_congr_left fun v hv => ?_
  have := h v (by simpa using hv)
  rw [this.1, this.2]
theorem rowL_setP {n v : Nat} {L : Nat → Span.Lab} {P : Nat → Int} (p : Int) (h : v < n) : (rowL n L P).set v (nodeD (L v) p) = rowL n L (fun w => if w = v then p else P w) := by
  refine List.ext_getElem (by simp [rowL]) fun i h1 h2 => ?_
  rw [List.getElem_set]
  simp only [rowL, List.getElem_map, List.getElem_range]
  by_cases hv : v = i
  · rw [if_pos hv, if_pos hv.symm, hv]
  · rw [if_neg hv, if_neg (fun h => hv h.symm)]
theorem relax_t2 {n : Nat} {M : Nat → Span.Lab} {P : Nat → Int} {s : D} (h0 : (fi s 0).toNat < n) (hlt : Span.lt (Span.way M (sideOf s)) (M (sideOf s).me)) :
    (rowL n M P).set (fi s 0).toNat (nodeD (Span.way M (sideOf s)) (P (fi s 0).toNat)) = rowL n (Span.relax M (sideOf s)) P := by
  rw [Span.relax, if_pos hlt]
  exact rowL_set (Span.way M (sideOf s)) h0
theorem getI_nn {ids : List D} (h : ∀ x ∈ ids, okD (.int .u64) x) (v : Nat) : 0 ≤ getI ids v := by
  unfold getI
  rw [List.getD_eq_getElem?_getD]
  by_cases hv : v < ids.length
  · rw [List.getElem?_eq_getElem hv]
    exact (has_u64 (h _ (List.getElem_mem hv)).1).1
  · rw [List.getElem?_eq_none (by omega)]
    exact Int.le_refl _
theorem sidesD_len (es : List D) : (sidesD es).length = 2 * es.length := sidesD_length es
theorem goodS_of {ids es : List D} (h : spanOK ids es = true) : goodS ids.length (sidesD es) := by
  unfold spanOK at h
  rw [Bool.and_eq_true, Bool.and_eq_true, decide_eq_true_eq] at h
  obtain ⟨⟨h1, h2, h3⟩, -, h5⟩ := h
  have hl := sidesD_len es
  have hs : ∀ i, i < (sidesD es).length → sideOK ids.length ((sidesD es).getD i (.i 0)) = true := fun i hi => (of_decide_eq_true h5 i hi).1
  have hs' : ∀ i, i < (sidesD es).length → 0 ≤ fi ((sidesD es).getD i (.i 0)) 0 ∧ fi ((sidesD es).getD i (.i 0)) 0 < ids.length ∧ 1 ≤ fi ((sidesD es).getD i (.i 0)) 2 ∧ fi ((sidesD es).getD i (.i 0)) 2 ≤ 200000000 := fun i hi => by
    have := of_decide_eq_true (hs i hi)
    omega
  refine ⟨h1, h2, by omega, fun i hi => ?_⟩
  have a := hs' i hi
  obtain ⟨k, hk⟩ : ∃ k, i = 2 * k ∨ i = 2 * k + 1 := ⟨i / 2, by omega⟩
  obtain ⟨e1, e2⟩ := sides_at es k (by omega)
  have b1 := hs' (2 * k) (by omega)
  have b2 := hs' (2 * k + 1) (by omega)
  rcases hk with rfl | rfl
  · have h3 : fi ((sidesD es).getD (2 * k) (.i 0)) 3 = fi ((sidesD es).getD (2 * k + 1) (.i 0)) 0 := by rw [e1, e2]; rfl
    omega
  · have h3 : fi ((sidesD es).getD (2 * k + 1) (.i 0)) 3 = fi ((sidesD es).getD (2 * k) (.i 0)) 0 := by rw [e1, e2]; rfl
    omega
theorem spanOK_far {ids es : List D} (h : spanOK ids es = true) (i : Nat) (hi : i < (sidesD es).length) : fi ((sidesD es).getD i (.i 0)) 0 ≠ fi ((sidesD es).getD i (.i 0)) 3 := by
  unfold spanOK at h
  rw [Bool.and_eq_true, Bool.and_eq_true, decide_eq_true_eq] at h
  obtain ⟨-, -, h5⟩ := h
  have := of_decide_eq_true ((of_decide_eq_true h5 i hi).1)
  omega
theorem rpS_congr {ids : List D} {L L' : Nat → Span.Lab} {me : Int} {a : Int × V4} {s : D} (h : L (fi s 3).toNat = L' (fi s 3).toNat) : rpS ids L me a s = rpS ids L' me a s := by
  have : addV ids L s = addV ids L' s := by unfold addV; rw [h]
  unfold rpS rpStep
  rw [this]
theorem rpOf_congr {ids : List D} {L L' : Nat → Span.Lab} {me : Int} : ∀ (ss : List D), (∀ s ∈ ss, L (fi s 3).toNat = L' (fi s 3).toNat) → rpOf ids L me ss = rpOf ids L' me ss := by
  intro ss
  unfold rpOf
  generalize ((-1 : Int), (⟨0, 0, 0, 0⟩ : V4)) = a
  induction ss generalizing a with
  | nil => intro _; rfl
  | cons s r ih =>
    intro h
    simp only [List.foldl_cons]
    rw [rpS_congr (h s (by simp))]
    exact ih _ fun t ht => h t (by simp [ht])
theorem good_mem {n : Nat} {ss : List D} (hc : goodS n ss) {s : D} (hs : s ∈ ss) : 0 ≤ fi s 0 ∧ fi s 0 < n ∧ 0 ≤ fi s 3 ∧ fi s 3 < n ∧ 1 ≤ fi s 2 ∧ fi s 2 ≤ 200000000 := by
  obtain ⟨i, hi, hg⟩ := List.mem_iff_getElem.1 hs
  have h := hc.2.2.2 i hi
  have e : ss.getD i (.i 0) = s := by rw [List.getD_eq_getElem?_getD, List.getElem?_eq_getElem hi]; simpa using hg
  rw [e] at h
  exact h
theorem rpOf_row {ids : List D} {n : Nat} {L : Nat → Span.Lab} {P : Nat → Int} {me : Int} {ss : List D} (hc : goodS n ss) : rpOf ids (labOf (rowL n L P)) me ss = rpOf ids L me ss := by
  refine rpOf_congr ss fun s hs => ?_
  have h := good_mem hc hs
  unfold labOf
  rw [rowL_at (by omega)]
  rfl
theorem lessB_iff (a b c d : Int) : lessB a b c d = true ↔ Span.lt (a, b) (c, d) := by
  unfold lessB Span.lt
  simp
end Go.Vc.Seat
