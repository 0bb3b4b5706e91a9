/- A part of the proof of the seat's laws: PfSn17. It states no claim by itself. -/
import Derived.Test.YtpdcgjpkcjhbjaaPfSn15
import Derived.Test.YtpdcgjpkcjhbjaaSpanFacts
set_option linter.unusedVariables false
set_option linter.unusedSimpArgs false
set_option linter.unusedSectionVars false
namespace Go.Vc.Seat
open Go.Vc Go.Proofs.Try

theorem mem_at {l : List D} {s : D} (h : s ∈ l) : ∃ i, i < l.length ∧ l.getD i (.i 0) = s := by
  obtain ⟨i, hi, hg⟩ := List.mem_iff_getElem.1 h
  exact ⟨i, hi, by rw [List.getD_eq_getElem?_getD, List.getElem?_eq_getElem hi]; simpa using hg⟩
theorem at_mem {l : List D} {i : Nat} (h : i < l.length) : l.getD i (.i 0) ∈ l := by
  rw [List.getD_eq_getElem?_getD, List.getElem?_eq_getElem h]
  exact List.getElem_mem h
section
variable {ids es : List D} (h : spanOK ids es = true)
include h
theorem sp_n : 1 ≤ ids.length ∧ ids.length ≤ 7 := ⟨(goodS_of h).1, (goodS_of h).2.1⟩
theorem sp_side {s : D} (hs : s ∈ sidesD es) : 0 ≤ fi s 0 ∧ fi s 0 < ids.length ∧ 0 ≤ fi s 3 ∧ fi s 3 < ids.length ∧ fi s 0 ≠ fi s 3 ∧ 0 ≤ fi s 1 ∧ fi s 1 ≤ 7 ∧ 1 ≤ fi s 2 ∧ fi s 2 ≤ 200000000 := by
  have g := good_mem (goodS_of h) hs
  obtain ⟨i, hi, rfl⟩ := mem_at hs
  unfold spanOK at h
  rw [Bool.and_eq_true, Bool.and_eq_true, decide_eq_true_eq] at h
  obtain ⟨-, -, h5⟩ := h
  have := of_decide_eq_true ((of_decide_eq_true h5 i hi).1)
  omega
theorem sp_place {i k : Nat} (hi : i < (sidesD es).length) (hk : k < (sidesD es).length) (e0 : fi ((sidesD es).getD i (.i 0)) 0 = fi ((sidesD es).getD k (.i 0)) 0) (e1 : fi ((sidesD es).getD i (.i 0)) 1 = fi ((sidesD es).getD k (.i 0)) 1) : i = k := by
  unfold spanOK at h
  rw [Bool.and_eq_true, Bool.and_eq_true, decide_eq_true_eq] at h
  obtain ⟨-, -, h5⟩ := h
  have h5 := of_decide_eq_true h5
  rcases Nat.lt_trichotomy i k with hl | hl | hl
  · have := of_decide_eq_false ((h5 k hk).2 i hl)
    exact absurd ⟨e0, e1⟩ this
  · exact hl
  · have := of_decide_eq_false ((h5 i hi).2 k hl)
    exact absurd ⟨e0.symm, e1.symm⟩ this
theorem sp_ids {i k : Nat} (hi : i < ids.length) (hk : k < ids.length) (e : getI ids i = getI ids k) : i = k := by
  unfold spanOK at h
  rw [Bool.and_eq_true, Bool.and_eq_true, decide_eq_true_eq] at h
  obtain ⟨-, h4, -⟩ := h
  have h4 := of_decide_eq_true h4
  rcases Nat.lt_trichotomy i k with hl | hl | hl
  · have := of_decide_eq_false (h4 k hk i hl)
    exact absurd (by rw [e]) this
  · exact hl
  · have := of_decide_eq_false (h4 i hi k hl)
    exact absurd (by rw [e]) this
theorem sp_S : ∀ s ∈ (sidesD es).map sideOf, s.me < ids.length ∧ s.you < ids.length ∧ 0 < s.c := fun s hs => by
  have := sides_in (goodS_of h) s hs
  exact ⟨this.1, this.2.1, this.2.2.1⟩
theorem sp_fix {s : D} (hs : s ∈ sidesD es) : ¬ Span.lt (Span.way (labs ids (sidesD es)) (sideOf s)) (labs ids (sidesD es) (fi s 0).toNat) :=
  Span.F_fix (sp_S h) (List.mem_map_of_mem hs) (by omega)
theorem sp_own (v : Nat) : ¬ Span.lt (getI ids v, 0) (labs ids (sidesD es) v) := Span.B_le_of _ _ (Nat.zero_le _) v
theorem sp_cost {v : Nat} (hv : v < ids.length) : 0 ≤ (labs ids (sidesD es) v).2 ∧ (labs ids (sidesD es) v).2 ≤ 1400000000 := by
  have hn := sp_n h
  have := Span.B_small (ids := getI ids) (sides_in (goodS_of h)) (by decide) ids.length v hv
  unfold labs
  have h2 : (200000000 : Int) * (ids.length : Nat) ≤ 1400000000 := by omega
  omega
theorem sp_root {v : Nat} (hv : v < ids.length) (hr : (labs ids (sidesD es) v).1 = getI ids v) : (labs ids (sidesD es) v).2 = 0 := by
  have a := sp_own h v
  have b := sp_cost h hv
  unfold Span.lt at a
  simp only at a
  omega
theorem sp_is {v : Nat} (hr : (labs ids (sidesD es) v).1 ≠ getI ids v) : ∃ s ∈ sidesD es, fi s 0 = v ∧ labs ids (sidesD es) v = Span.way (labs ids (sidesD es)) (sideOf s) := by
  rcases Span.F_is (ids := getI ids) (sp_S h) v with g | ⟨S, g1, g2, g3⟩
  · exact absurd (by rw [show labs ids (sidesD es) v = _ from g]) hr
  · obtain ⟨s, hs, rfl⟩ := List.mem_map.1 g1
    have := sp_side h hs
    refine ⟨s, hs, ?_, g3⟩
    have e : (fi s 0).toNat = v := g2
    omega
theorem sp_add {s : D} (hs : s ∈ sidesD es) : addV ids (labs ids (sidesD es)) s = ⟨(Span.way (labs ids (sidesD es)) (sideOf s)).1, (Span.way (labs ids (sidesD es)) (sideOf s)).2, getI ids (fi s 3).toNat, portID (fi s 4)⟩ := by
  have a := sp_side h hs
  have b := sp_cost h (v := (fi s 3).toNat) (by omega)
  unfold addV
  have e : IntKind.u32.wrap ((labs ids (sidesD es) (fi s 3).toNat).2 + fi s 2) = (labs ids (sidesD es) (fi s 3).toNat).2 + fi s 2 := by rw [w32]; omega
  rw [e]
  rfl
theorem sp_rp {v : Nat} (hr : (labs ids (sidesD es) v).1 ≠ getI ids v) : ∃ s ∈ sidesD es, fi s 0 = v ∧ rpN ids (sidesD es) v = fi s 1 ∧ labs ids (sidesD es) v = Span.way (labs ids (sidesD es)) (sideOf s) := by
  have hb := best_of (ids := ids) (F := labs ids (sidesD es)) (v := (v : Int)) (sidesD es) fun t ht _ => by have := sp_side h ht; omega
  obtain ⟨s', g1, g2, g3⟩ := sp_is h hr
  obtain ⟨s, k1, k2, k3, k4⟩ := hb.at' ⟨s', g1, g2⟩
  refine ⟨s, k1, k2, ?_, ?_⟩
  · unfold rpN
    rw [if_neg hr, k3]
  · have a := k4 s' g1 g2
    rw [sp_add h k1, sp_add h g1] at a
    have b := sp_fix h k1
    rw [k2] at b
    refine Span.eq_of b fun c => a (.inl ?_)
    have c : Span.lt (labs ids (sidesD es) v) (Span.way (labs ids (sidesD es)) (sideOf s)) := c
    rw [g3] at c
    unfold Span.lt at c
    unfold vlt
    rcases c with c | ⟨c1, c2⟩
    · exact .inl c
    · exact .inr ⟨c1, .inl c2⟩
theorem nodes_at {v : Nat} (hv : v < ids.length) : (nodesD ids es).getD v (.i 0) = nodeD (labs ids (sidesD es) v) (rpN ids (sidesD es) v) := rowL_at hv
theorem told_at {b p : Int} (h0 : 0 ≤ b) (h1 : b < ids.length) : told4 ids (nodesD ids es) b p = ⟨(labs ids (sidesD es) b.toNat).1, (labs ids (sidesD es) b.toNat).2, getI ids b.toNat, portID p⟩ := by
  unfold told4
  rw [nodes_at h (by omega)]
  rfl
/-- A root's port hears what is better than what its own bridge tells. -/
theorem sp_rootfar {s : D} (hs : s ∈ sidesD es) (hr : rpN ids (sidesD es) (fi s 0).toNat = fi s 1) : labs ids (sidesD es) (fi s 0).toNat = Span.way (labs ids (sidesD es)) (sideOf s) := by
  have a := sp_side h hs
  have hne : (labs ids (sidesD es) (fi s 0).toNat).1 ≠ getI ids (fi s 0).toNat := fun e => by
    unfold rpN at hr
    rw [if_pos e] at hr
    omega
  obtain ⟨t, t1, t2, t3, t4⟩ := sp_rp h hne
  obtain ⟨i, hi, rfl⟩ := mem_at hs
  obtain ⟨k, hk, rfl⟩ := mem_at t1
  have : i = k := sp_place h hi hk (by omega) (by omega)
  subst this
  exact t4
theorem sp_vlt {s : D} (hs : s ∈ sidesD es) (hr : rpN ids (sidesD es) (fi s 0).toNat = fi s 1) : vlt (told4 ids (nodesD ids es) (fi s 3) (fi s 4)) (told4 ids (nodesD ids es) (fi s 0) (fi s 1)) := by
  have a := sp_side h hs
  have e := sp_rootfar h hs hr
  rw [told_at h (by omega) (by omega), told_at h (by omega) (by omega), e]
  unfold vlt
  right
  refine ⟨rfl, .inl ?_⟩
  show (labs ids (sidesD es) (fi s 3).toNat).2 < (labs ids (sidesD es) (fi s 3).toNat).2 + fi s 2
  omega
theorem role_is {s : D} (hs : s ∈ sidesD es) : roleD ids (nodesD ids es) s = if rpN ids (sidesD es) (fi s 0).toNat = fi s 1 then 3 else if bet (told4 ids (nodesD ids es) (fi s 0) (fi s 1)) (told4 ids (nodesD ids es) (fi s 3) (fi s 4)) then 4 else 1 := by
  have a := sp_side h hs
  unfold roleD
  rw [nodes_at h (by omega)]
  rfl
theorem role_4 {s : D} (hs : s ∈ sidesD es) : roleD ids (nodesD ids es) s = 4 ↔ bet (told4 ids (nodesD ids es) (fi s 0) (fi s 1)) (told4 ids (nodesD ids es) (fi s 3) (fi s 4)) = true := by
  rw [role_is h hs]
  by_cases hr : rpN ids (sidesD es) (fi s 0).toNat = fi s 1
  · rw [if_pos hr]
    have := vlt_asymm (sp_vlt h hs hr)
    rw [bet_iff]
    constructor
    · intro h; omega
    · intro h; exact absurd h this
  · rw [if_neg hr]
    split
    · simp [*]
    · simp [*]
theorem role_3 {s : D} (hs : s ∈ sidesD es) : roleD ids (nodesD ids es) s = 3 ↔ rpN ids (sidesD es) (fi s 0).toNat = fi s 1 := by
  rw [role_is h hs]
  by_cases hr : rpN ids (sidesD es) (fi s 0).toNat = fi s 1
  · rw [if_pos hr]; exact ⟨fun _ => hr, fun _ => rfl⟩
  · rw [if_neg hr]
    constructor
    · intro h; split at h <;> omega
    · intro h; exact absurd h hr
theorem ends_at {i : Nat} (hi : i < (sidesD es).length) : (endsD ids es).getD i (.i 0) = endD ids (nodesD ids es) ((sidesD es).getD i (.i 0)) := by
  unfold endsD
  rw [List.getD_eq_getElem?_getD, List.getD_eq_getElem?_getD, List.getElem?_map, List.getElem?_eq_getElem hi]
  rfl
end
end Go.Vc.Seat
