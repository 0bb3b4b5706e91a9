/- A part of the proof of the seat's laws: PfBc17. It states no claim by itself. -/
import Derived.Test.YtghpaogagolagaaPfBc16
set_option linter.unusedVariables false
set_option linter.unusedSimpArgs false
namespace Go.Vc.Seat
open Go.Vc Go.Proofs.Try

theorem getI_in {xs : List D} {i : Nat} (h : i < xs.length) : getI xs i = (xs[i]).int := by
  unfold getI
  rw [List.getD_eq_getElem?_getD, List.getElem?_eq_getElem h]
  rfl
/-- What goes out is one of the ports, and may. -/
theorem out_at {g : List D} {fr : Int} {own many has : Bool} {a : Int} {ps : List D} {i : Nat} (hi : i < (outD g fr own many has a ps).length) : outOK g fr own many has a (getI (outD g fr own many has a ps) i) = true ∧ ∃ k, k < ps.length ∧ getI ps k = getI (outD g fr own many has a ps) i := by
  have hm : (outD g fr own many has a ps)[i] ∈ outD g fr own many has a ps := List.getElem_mem hi
  rw [getI_in hi]
  obtain ⟨d, hd, he⟩ := List.mem_map.1 hm
  rw [← he]
  obtain ⟨h1, h2⟩ := List.mem_filter.1 hd
  obtain ⟨k, hk, hg⟩ := List.mem_iff_getElem.1 h1
  exact ⟨h2, k, hk, by rw [getI_in hk, hg]; rfl⟩
theorem rise_pair {xs : List D} (h : riseD xs = true) : xs.Pairwise (fun a b => a.int < b.int) := by
  have h := of_decide_eq_true h
  rw [List.pairwise_iff_getElem]
  have key : ∀ (j i : Nat), i < j → j < xs.length → getI xs i < getI xs j := by
    intro j
    induction j with
    | zero => intro i hi; omega
    | succ j ih =>
      intro i hi hj
      have a := h (j + 1) hj (by omega)
      rw [show j + 1 - 1 = j by omega] at a
      rcases Nat.lt_or_eq_of_le (Nat.le_of_lt_succ hi) with hl | rfl
      · have := ih i hl (by omega)
        omega
      · exact a
  intro i j hi hj hij
  have := key j i hij hj
  rw [getI_in hi, getI_in hj] at this
  exact this
theorem out_rise {g : List D} {fr : Int} {own many has : Bool} {a : Int} {ps : List D} (h : riseD ps = true) {k i : Nat} (hk : k < i) (hi : i < (outD g fr own many has a ps).length) : getI (outD g fr own many has a ps) k < getI (outD g fr own many has a ps) i := by
  have hp : (outD g fr own many has a ps).Pairwise (fun a b => a.int < b.int) := by
    unfold outD
    rw [List.pairwise_map]
    exact (rise_pair h).filter _
  rw [List.pairwise_iff_getElem] at hp
  rw [getI_in (by omega : k < _), getI_in hi]
  exact hp k i (by omega) hi hk
theorem ports_rise {own ks mp cs ms : List D} {v : Int} (h : chk18 own ks mp cs ms = true) : riseD (portsOf ms v) = true := by
  unfold chk18 at h
  simp only [Bool.and_eq_true] at h
  have hm := h.2.2.2.1
  unfold memsOK at hm
  rw [Bool.and_eq_true] at hm
  have hm := of_decide_eq_true hm.1
  unfold portsOf
  cases hv : hasV ms 0 v
  · rw [at_none hv]
    exact decide_eq_true fun i hi => absurd hi (by simp [D.fld, D.list, D.fs])
  · have hlt : firstV ms 0 v < ms.length := of_decide_eq_true hv
    have := hm _ hlt
    unfold memOK at this
    simp only [Bool.and_eq_true] at this
    exact this.2.1
/-- To many, and to one that is unknown, it goes alike. -/
theorem out_many (g : List D) (fr : Int) (has : Bool) (a b : Int) (ps : List D) : outD g fr false true has a ps = outD g fr false false false b ps := by
  unfold outD
  congr 1
end Go.Vc.Seat
