/- A part of the proof of the seat's laws: PfSn21. It states no claim by itself. -/
import Derived.Test.YtpdcgjpkcjhbjaaPfSn20
set_option linter.unusedVariables false
set_option linter.unusedSimpArgs false
set_option linter.unusedSectionVars false
namespace Go.Vc.Seat
open Go.Vc Go.Proofs.Try

/-- How many of the first so many. -/
def cnt (p : Nat → Bool) : Nat → Nat
  | 0 => 0
  | n + 1 => cnt p n + (if p n = true then 1 else 0)
theorem cnt_le (p : Nat → Bool) : ∀ n, cnt p n ≤ n
  | 0 => Nat.le_refl _
  | n + 1 => by
    have := cnt_le p n
    unfold cnt
    split <;> omega
theorem cnt_none {p : Nat → Bool} : ∀ n, (∀ k, k < n → p k = false) → cnt p n = 0
  | 0, _ => rfl
  | n + 1, h => by
    unfold cnt
    rw [cnt_none n (fun k hk => h k (by omega)), h n (by omega)]
    rfl
theorem cnt_one {p : Nat → Bool} {k0 : Nat} (h0 : p k0 = true) : ∀ n, k0 < n → (∀ k, k < n → p k = true → k = k0) → cnt p n = 1
  | n + 1, hk, h => by
    unfold cnt
    rcases Nat.lt_or_eq_of_le (Nat.le_of_lt_succ hk) with hlt | rfl
    · have : p n = false := by
        cases hp : p n with
        | false => rfl
        | true => have := h n (by omega) hp; omega
      rw [cnt_one h0 n hlt (fun k hk => h k (by omega)), this]
      rfl
    · rw [cnt_none k0 (fun k hk => by
        cases hp : p k with
        | false => rfl
        | true => have := h k (by omega) hp; omega), h0]
      rfl
def rootP (E : List D) (i : Nat) (k : Nat) : Bool := decide (fi (E.getD k (.i 0)) 0 = i ∧ fi (E.getD k (.i 0)) 2 = 3)
section
variable {ids es : List D} (h : spanOK ids es = true)
include h
theorem fits_at {k : Nat} (hk : k < (endsD ids es).length) : ∃ s, s ∈ sidesD es ∧ (sidesD es).getD k (.i 0) = s ∧ fi ((endsD ids es).getD k (.i 0)) 0 = fi s 0 ∧ fi ((endsD ids es).getD k (.i 0)) 1 = fi s 1 ∧ (fi ((endsD ids es).getD k (.i 0)) 2 = 3 ↔ rpN ids (sidesD es) (fi s 0).toNat = fi s 1) := by
  have hk' : k < (sidesD es).length := by
    have e1 := endsD_len ids es
    have e2 := sidesD_len es
    omega
  refine ⟨_, at_mem hk', rfl, ?_⟩
  rw [ends_at h hk']
  exact ⟨rfl, rfl, role_3 h (at_mem hk')⟩
theorem fits_edge {i : Nat} (hi : i < es.length) : ∃ X : V4, ((endsD ids es).getD (2 * i) (.i 0)).fld 3 = vD X ∧ ((endsD ids es).getD (2 * i + 1) (.i 0)).fld 3 = vD X ∧
    ((fi ((endsD ids es).getD (2 * i) (.i 0)) 2 = 4 ∧ (fi ((endsD ids es).getD (2 * i + 1) (.i 0)) 2 = 3 ∨ fi ((endsD ids es).getD (2 * i + 1) (.i 0)) 2 = 1)) ∨ (fi ((endsD ids es).getD (2 * i + 1) (.i 0)) 2 = 4 ∧ (fi ((endsD ids es).getD (2 * i) (.i 0)) 2 = 3 ∨ fi ((endsD ids es).getD (2 * i) (.i 0)) 2 = 1))) := by
  have e2 := sidesD_len es
  obtain ⟨a1, a2⟩ := sides_at es i hi
  have m1 : (sidesD es).getD (2 * i) (.i 0) ∈ sidesD es := at_mem (by omega)
  have m2 : (sidesD es).getD (2 * i + 1) (.i 0) ∈ sidesD es := at_mem (by omega)
  rw [ends_at h (by omega : 2 * i < (sidesD es).length), ends_at h (by omega : 2 * i + 1 < (sidesD es).length)]
  obtain ⟨e, he⟩ : ∃ e, es.getD i (.i 0) = e := ⟨_, rfl⟩
  rw [he] at a1 a2
  rw [a1] at m1
  rw [a2] at m2
  rw [a1, a2]
  have hs := sp_side h m1
  have r1 := role_4 h m1
  have r2 := role_4 h m2
  have q1 := role_is h m1
  have q2 := role_is h m2
  obtain ⟨U, hU⟩ : ∃ U, told4 ids (nodesD ids es) (fi (sideA e) 0) (fi (sideA e) 1) = U := ⟨_, rfl⟩
  obtain ⟨T, hT⟩ : ∃ T, told4 ids (nodesD ids es) (fi (sideA e) 3) (fi (sideA e) 4) = T := ⟨_, rfl⟩
  have hU2 : told4 ids (nodesD ids es) (fi (sideB e) 3) (fi (sideB e) 4) = U := hU
  have hT2 : told4 ids (nodesD ids es) (fi (sideB e) 0) (fi (sideB e) 1) = T := hT
  rw [hU, hT] at r1 q1
  rw [hU2, hT2] at r2 q2
  have hne : U ≠ T := by
    intro e0
    have hb : U.b = T.b := by rw [e0]
    rw [← hU, ← hT] at hb
    have := sp_ids h (i := (fi (sideA e) 0).toNat) (k := (fi (sideA e) 3).toNat) (by omega) (by omega) hb
    omega
  have v1 : (endD ids (nodesD ids es) (sideA e)).fld 3 = vD (if bet U T = true then U else T) := by
    unfold endD
    rw [hU, hT]
    rfl
  have v2 : (endD ids (nodesD ids es) (sideB e)).fld 3 = vD (if bet T U = true then T else U) := by
    unfold endD
    rw [hU2, hT2]
    rfl
  have f1 : fi (endD ids (nodesD ids es) (sideA e)) 2 = roleD ids (nodesD ids es) (sideA e) := rfl
  have f2 : fi (endD ids (nodesD ids es) (sideB e)) 2 = roleD ids (nodesD ids es) (sideB e) := rfl
  rw [v1, v2, f1, f2]
  cases hb : bet U T
  · have hb2 : bet T U = true := by
      rw [bet_iff]
      refine Classical.byContradiction fun k => hne (vlt_tri ((bet_f U T).1 hb) k)
    refine ⟨T, by simp, by rw [hb2]; rfl, .inr ⟨r2.2 hb2, ?_⟩⟩
    rw [q1, hb]
    split <;> simp
  · have hb2 : bet T U = false := by
      rw [bet_f]
      exact vlt_asymm ((bet_iff U T).1 hb)
    refine ⟨U, by simp, by rw [hb2]; rfl, .inl ⟨r1.2 hb, ?_⟩⟩
    rw [q2, hb2]
    split <;> simp
theorem rp_root {v : Nat} (hr : (labs ids (sidesD es) v).1 = getI ids v) : rpN ids (sidesD es) v = -1 := by
  unfold rpN
  rw [if_pos hr]
theorem rp_pos {v : Nat} (hr : (labs ids (sidesD es) v).1 ≠ getI ids v) : 0 ≤ rpN ids (sidesD es) v := by
  obtain ⟨s, h1, h2, h3, h4⟩ := sp_rp h hr
  have := sp_side h h1
  omega
theorem fits_port {k i : Nat} (hk : k < (endsD ids es).length) (hp : rootP (endsD ids es) i k = true) : fi ((endsD ids es).getD k (.i 0)) 1 = rpN ids (sidesD es) i := by
  obtain ⟨s, h1, h2, h3, h4, h5⟩ := fits_at h hk
  have hp := of_decide_eq_true hp
  have := h5.1 hp.2
  rw [h4, ← this]
  congr 1
  omega
theorem fits_cnt {i : Nat} (hi : i < ids.length) : cnt (rootP (endsD ids es) i) (endsD ids es).length = if (labs ids (sidesD es) i).1 = getI ids i then 0 else 1 := by
  by_cases hr : (labs ids (sidesD es) i).1 = getI ids i
  · rw [if_pos hr]
    refine cnt_none _ fun k hk => ?_
    cases hp : rootP (endsD ids es) i k with
    | false => rfl
    | true =>
      have e := fits_port h hk hp
      obtain ⟨s, h1, h2, h3, h4, h5⟩ := fits_at h hk
      have := sp_side h h1
      rw [rp_root h hr, h4] at e
      omega
  · rw [if_neg hr]
    obtain ⟨s, g1, g2, g3, g4⟩ := sp_rp h hr
    obtain ⟨k0, hk0, hs⟩ := mem_at g1
    have e1 := endsD_len ids es
    have e2 := sidesD_len es
    have hk0' : k0 < (endsD ids es).length := by omega
    refine cnt_one (k0 := k0) ?_ _ hk0' fun k hk hp => ?_
    · obtain ⟨s', h1, h2, h3, h4, h5⟩ := fits_at h hk0'
      rw [hs] at h2
      subst h2
      refine decide_eq_true ⟨by rw [h3, g2], h5.2 ?_⟩
      rw [g2, Int.toNat_natCast]
      exact g3
    · have e := fits_port h hk hp
      obtain ⟨s', h1, h2, h3, h4, h5⟩ := fits_at h hk
      have hp := of_decide_eq_true hp
      refine sp_place h (by omega) hk0 ?_ ?_
      · rw [h2, hs, g2]
        omega
      · rw [h2, hs]
        omega
end
end Go.Vc.Seat
