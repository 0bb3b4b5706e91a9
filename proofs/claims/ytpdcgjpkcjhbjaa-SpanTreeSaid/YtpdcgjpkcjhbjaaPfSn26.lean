/- A part of the proof of the seat's laws: PfSn26. It states no claim by itself. -/
import Derived.Test.YtpdcgjpkcjhbjaaPfSn25
set_option linter.unusedVariables false
set_option linter.unusedSimpArgs false
set_option linter.unusedSectionVars false
namespace Go.Vc.Seat
open Go.Vc Go.Proofs.Try

def trN (ids es : List D) : List Nat := (List.range es.length).filter (carries (endsD ids es))
theorem tree_is (ids es : List D) : treeI (endsD ids es) es.length = (trN ids es).map fun i => .i (i : Nat) := rfl
/-- The edges that carry. -/
def carryD (ids es : List D) : List D := (trN ids es).map fun i => normE (es.getD i (.i 0))
def role3 (ids es : List D) (k : Nat) : Bool := decide (fi ((endsD ids es).getD k (.i 0)) 2 = 3)
def rootB (ids es : List D) (v : Nat) : Bool := decide ((labs ids (sidesD es) v).1 = getI ids v)
section
variable {ids es : List D} (h : spanOK ids es = true)
include h
theorem carry_role {i : Nat} (hi : i < es.length) : ((if role3 ids es (2 * i) = true then 1 else 0) + (if role3 ids es (2 * i + 1) = true then 1 else 0) : Nat) = if carries (endsD ids es) i = true then 1 else 0 := by
  obtain ⟨X, -, -, hr⟩ := fits_edge h hi
  unfold role3 carries
  rcases hr with ⟨ha, hb | hb⟩ | ⟨ha, hb | hb⟩ <;> rw [ha, hb] <;> rfl
theorem carry_in {c : D} (hc : c ∈ carryD ids es) : ∃ e ∈ es, fi c 0 = fi e 0 ∧ fi c 2 = fi e 2 := by
  obtain ⟨i, hi, rfl⟩ := List.mem_map.1 hc
  have hi := (List.mem_filter.1 hi).1
  exact ⟨_, at_mem (by simpa using hi), rfl, rfl⟩
theorem carry_at {i : Nat} (hi : i < es.length) (hc : carries (endsD ids es) i = true) : normE (es.getD i (.i 0)) ∈ carryD ids es :=
  List.mem_map.2 ⟨i, List.mem_filter.2 ⟨by simpa using hi, hc⟩, rfl⟩
theorem carry_len : (carryD ids es).length ≤ 24 := by
  have := esLe h
  unfold carryD trN
  rw [List.length_map]
  refine Nat.le_trans (List.length_filter_le _ _) ?_
  simpa using this
theorem carry_ok : jOK ids.length (carryD ids es) := by
  refine ⟨(sp_n h).2, carry_len h, fun i hi => ?_⟩
  obtain ⟨e, he, h1, h2⟩ := carry_in h (at_mem hi)
  have := sp_edge h he
  omega
/-- A root's port's edge carries. -/
theorem carry_port {s : D} (hs : s ∈ sidesD es) (hr : rpN ids (sidesD es) (fi s 0).toNat = fi s 1) : ∃ c ∈ carryD ids es, (fi c 0 = fi s 0 ∧ fi c 2 = fi s 3) ∨ (fi c 0 = fi s 3 ∧ fi c 2 = fi s 0) := by
  obtain ⟨k, hk, hks⟩ := mem_at hs
  have e2 := sidesD_len es
  have hen := ends_at h hk
  rw [hks] at hen
  have h3 : fi ((endsD ids es).getD k (.i 0)) 2 = 3 := by
    rw [hen]
    exact (role_3 h hs).2 hr
  obtain ⟨i, hi⟩ : ∃ i, k = 2 * i ∨ k = 2 * i + 1 := ⟨k / 2, by omega⟩
  have hil : i < es.length := by omega
  have hc := carry_role h hil
  obtain ⟨a1, a2⟩ := sides_at es i hil
  rcases hi with rfl | rfl
  · have hr3 : role3 ids es (2 * i) = true := decide_eq_true h3
    rw [if_pos hr3] at hc
    have hcar : carries (endsD ids es) i = true := by
      cases hx : carries (endsD ids es) i with
      | true => rfl
      | false => rw [hx, if_neg (show ¬ false = true by simp)] at hc; omega
    rw [a1] at hks
    exact ⟨_, carry_at h hil hcar, .inl (by rw [← hks]; exact ⟨rfl, rfl⟩)⟩
  · have hr3 : role3 ids es (2 * i + 1) = true := decide_eq_true h3
    rw [if_pos hr3] at hc
    have hcar : carries (endsD ids es) i = true := by
      cases hx : carries (endsD ids es) i with
      | true => rfl
      | false => rw [hx, if_neg (show ¬ false = true by simp)] at hc; omega
    rw [a2] at hks
    exact ⟨_, carry_at h hil hcar, .inr (by rw [← hks]; exact ⟨rfl, rfl⟩)⟩
/-- Edges that carry lead each bridge to its root. -/
theorem conn : ∀ (m v : Nat), v < ids.length → (labs ids (sidesD es) v).2 ≤ m → ∃ u, u < ids.length ∧ (labs ids (sidesD es) u).1 = getI ids u ∧ (labs ids (sidesD es) v).1 = getI ids u ∧ ∀ G : Nat → Int, (∀ c ∈ carryD ids es, G (fi c 0).toNat = G (fi c 2).toNat) → G v = G u := by
  intro m
  induction m with
  | zero =>
    intro v hv hm
    by_cases hr : (labs ids (sidesD es) v).1 = getI ids v
    · exact ⟨v, hv, hr, hr, fun _ _ => rfl⟩
    · obtain ⟨s, h1, h2, h3, h4⟩ := sp_rp h hr
      have hs := sp_side h h1
      have hc := sp_cost h (v := (fi s 3).toNat) (by omega)
      rw [h4] at hm
      have : (labs ids (sidesD es) (fi s 3).toNat).2 + fi s 2 ≤ 0 := hm
      omega
  | succ m ih =>
    intro v hv hm
    by_cases hr : (labs ids (sidesD es) v).1 = getI ids v
    · exact ⟨v, hv, hr, hr, fun _ _ => rfl⟩
    · obtain ⟨s, h1, h2, h3, h4⟩ := sp_rp h hr
      have hs := sp_side h h1
      have hm' : (labs ids (sidesD es) (fi s 3).toNat).2 + fi s 2 ≤ ((m + 1 : Nat) : Int) := by rw [h4] at hm; exact hm
      obtain ⟨u, g1, g2, g3, g4⟩ := ih (fi s 3).toNat (by omega) (by omega)
      have e0 : (fi s 0).toNat = v := by omega
      refine ⟨u, g1, g2, ?_, fun G hG => ?_⟩
      · rw [h4]
        exact g3
      · rw [← g4 G hG]
        obtain ⟨c, hc, hcc⟩ := carry_port h h1 (by rw [e0]; exact h3)
        have := hG c hc
        rcases hcc with ⟨k1, k2⟩ | ⟨k1, k2⟩
        · rw [k1, k2, e0] at this
          exact this
        · rw [k1, k2, e0] at this
          exact this.symm
theorem conn' {v : Nat} (hv : v < ids.length) : ∃ u, u < ids.length ∧ (labs ids (sidesD es) u).1 = getI ids u ∧ (labs ids (sidesD es) v).1 = getI ids u ∧ ∀ G : Nat → Int, (∀ c ∈ carryD ids es, G (fi c 0).toNat = G (fi c 2).toNat) → G v = G u := by
  have := sp_cost h hv
  exact conn h ((labs ids (sidesD es) v).2).toNat v hv (by omega)
theorem carry_edge : ∀ c ∈ carryD ids es, jR es ids.length (fi c 0).toNat = jR es ids.length (fi c 2).toNat := fun c hc => by
  obtain ⟨e, he, h1, h2⟩ := carry_in h hc
  rw [h1, h2]
  exact jR_edge (jOK_of h) he
theorem edge_carry : ∀ e ∈ es, jR (carryD ids es) ids.length (fi e 0).toNat = jR (carryD ids es) ids.length (fi e 2).toNat := fun e he => by
  have hs := sp_edge h he
  have hG : ∀ c ∈ carryD ids es, jR (carryD ids es) ids.length (fi c 0).toNat = jR (carryD ids es) ids.length (fi c 2).toNat := fun c hc => jR_edge (carry_ok h) hc
  obtain ⟨u, a1, a2, a3, a4⟩ := conn' h (v := (fi e 0).toNat) (by omega)
  obtain ⟨w, b1, b2, b3, b4⟩ := conn' h (v := (fi e 2).toNat) (by omega)
  have : u = w := sp_ids h a1 b1 (by rw [← a3, ← b3, hs.2.2.2.2])
  subst this
  rw [a4 _ hG, b4 _ hG]
theorem tree_same {v : Nat} (hv : v < ids.length) : jR es ids.length v = jR (carryD ids es) ids.length v := jR_same (jOK_of h) (carry_ok h) (carry_edge h) (edge_carry h) hv
theorem join_same : joinD ids.length es = joinD ids.length (carryD ids es) := jRow_congr fun v hv => tree_same h hv
theorem cnt_roots : cnt (fun i => decide (jR es ids.length i = i)) ids.length = cnt (rootB ids es) ids.length := by
  have hle1 : cnt (fun i => decide (jR es ids.length i = i)) ids.length ≤ cnt (rootB ids es) ids.length := by
    have hex : ∀ i, ∃ u, i < ids.length → u < ids.length ∧ (labs ids (sidesD es) u).1 = getI ids u ∧ jR es ids.length i = jR es ids.length u := fun i => by
      by_cases hi : i < ids.length
      · obtain ⟨u, a1, a2, a3, a4⟩ := conn' h hi
        exact ⟨u, fun _ => ⟨a1, a2, a4 _ (carry_edge h)⟩⟩
      · exact ⟨0, fun hh => absurd hh hi⟩
    let f : Nat → Nat := fun i => Classical.choose (hex i)
    have hf : ∀ i, i < ids.length → f i < ids.length ∧ (labs ids (sidesD es) (f i)).1 = getI ids (f i) ∧ jR es ids.length i = jR es ids.length (f i) := fun i hi => Classical.choose_spec (hex i) hi
    refine cnt_inj f (fun i hi _ => ⟨(hf i hi).1, decide_eq_true (hf i hi).2.1⟩) fun i j hi hj pi pj e => ?_
    have a := (hf i hi).2.2
    have b := (hf j hj).2.2
    rw [e, ← b] at a
    have pi := of_decide_eq_true pi
    have pj := of_decide_eq_true pj
    omega
  have hle2 : cnt (rootB ids es) ids.length ≤ cnt (fun i => decide (jR es ids.length i = i)) ids.length := by
    refine cnt_inj (fun u => (jR es ids.length u).toNat) (fun u hu _ => ?_) fun u w hu hw pu pw e => ?_
    · have := jR_idem (jOK_of h) hu
      refine ⟨by omega, decide_eq_true ?_⟩
      rw [this.2.2]
      omega
    · have a := jR_idem (jOK_of h) hu
      have b := jR_idem (jOK_of h) hw
      have e : (jR es ids.length u).toNat = (jR es ids.length w).toNat := e
      have hp := sp_parts h hu hw (by omega)
      have pu := of_decide_eq_true pu
      have pw := of_decide_eq_true pw
      exact sp_ids h hu hw (by rw [← pu, ← pw, hp])
  omega
theorem tree_count : (trN ids es).length + cnt (fun i => decide (jR es ids.length i = i)) ids.length = ids.length := by
  have e1 : (trN ids es).length = cnt (carries (endsD ids es)) es.length := (cnt_filter _ _).symm
  have e2 : cnt (role3 ids es) (2 * es.length) = cnt (carries (endsD ids es)) es.length := cnt_pairs es.length fun i hi => carry_role h hi
  have el := endsD_len ids es
  have e3 : cnt (role3 ids es) (2 * es.length) = sumN (fun v => cnt (rootP (endsD ids es) v) (2 * es.length)) ids.length := by
    refine cnt_sum (b := fun k => (fi ((endsD ids es).getD k (.i 0)) 0).toNat) _ fun k hk => ?_
    obtain ⟨s, h1, h2, h3, -⟩ := fits_at h (k := k) (by omega)
    have hs := sp_side h h1
    refine ⟨by show (fi _ 0).toNat < _; rw [h3]; omega, fun v => ?_⟩
    show decide (_ ∧ _) = _
    unfold role3
    rw [← Bool.decide_and]
    refine decide_eq_decide.2 (and_congr_left fun _ => ?_)
    show _ ↔ (fi ((endsD ids es).getD k (.i 0)) 0).toNat = v
    rw [h3]
    omega
  have e4 : sumN (fun v => cnt (rootP (endsD ids es) v) (2 * es.length)) ids.length = sumN (fun v => if rootB ids es v = true then 0 else 1) ids.length := by
    refine sumN_congr _ fun v hv => ?_
    rw [← el, fits_cnt h hv]
    unfold rootB
    by_cases hr : (labs ids (sidesD es) v).1 = getI ids v
    · rw [if_pos hr, if_pos (decide_eq_true hr)]
    · rw [if_neg hr, if_neg (by rw [decide_eq_true_eq]; exact hr)]
  have e5 := sumN_not (rootB ids es) ids.length
  have e6 := cnt_roots h
  omega
end
theorem tr_lt {ids es : List D} {i : Nat} (hi : i < (trN ids es).length) : (trN ids es).getD i 0 < es.length := by
  have hm : (trN ids es).getD i 0 ∈ trN ids es := by
    rw [List.getD_eq_getElem?_getD, List.getElem?_eq_getElem hi]
    exact List.getElem_mem hi
  have := (List.mem_filter.1 hm).1
  simpa using this
theorem tr_mono {ids es : List D} {i : Nat} (hi : i + 1 < (trN ids es).length) : (trN ids es).getD i 0 < (trN ids es).getD (i + 1) 0 := by
  have hp : (trN ids es).Pairwise (· < ·) := List.pairwise_lt_range.filter _
  rw [List.pairwise_iff_getElem] at hp
  have := hp i (i + 1) (by omega) hi (by omega)
  rw [List.getD_eq_getElem?_getD, List.getElem?_eq_getElem (by omega : i < (trN ids es).length), List.getD_eq_getElem?_getD, List.getElem?_eq_getElem hi]
  exact this
end Go.Vc.Seat
