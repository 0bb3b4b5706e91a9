/- A part of the proof of the seat's laws: PfSn20. It states no claim by itself. -/
import Derived.Test.YtpdcgjpkcjhbjaaPfSn19
set_option linter.unusedVariables false
set_option linter.unusedSimpArgs false
namespace Go.Vc.Seat
open Go.Vc Go.Proofs.Try

theorem side_in {es : List D} {e : D} (he : e ∈ es) : sideA e ∈ sidesD es ∧ sideB e ∈ sidesD es := by
  unfold sidesD
  exact ⟨List.mem_flatMap.2 ⟨e, he, by simp⟩, List.mem_flatMap.2 ⟨e, he, by simp⟩⟩
theorem sp_edge {ids es : List D} (h : spanOK ids es = true) {e : D} (he : e ∈ es) : 0 ≤ fi e 0 ∧ fi e 0 < ids.length ∧ 0 ≤ fi e 2 ∧ fi e 2 < ids.length ∧ (labs ids (sidesD es) (fi e 0).toNat).1 = (labs ids (sidesD es) (fi e 2).toNat).1 := by
  obtain ⟨h1, h2⟩ := side_in he
  have a := sp_side h h1
  have f1 := sp_fix h h1
  have f2 := sp_fix h h2
  have a1 : 0 ≤ fi e 0 ∧ fi e 0 < ids.length ∧ 0 ≤ fi e 2 ∧ fi e 2 < ids.length := ⟨a.1, a.2.1, a.2.2.1, a.2.2.2.1⟩
  refine ⟨a1.1, a1.2.1, a1.2.2.1, a1.2.2.2, ?_⟩
  have f1 : ¬ Span.lt ((labs ids (sidesD es) (fi e 2).toNat).1, (labs ids (sidesD es) (fi e 2).toNat).2 + fi e 4) (labs ids (sidesD es) (fi e 0).toNat) := f1
  have f2 : ¬ Span.lt ((labs ids (sidesD es) (fi e 0).toNat).1, (labs ids (sidesD es) (fi e 0).toNat).2 + fi e 5) (labs ids (sidesD es) (fi e 2).toNat) := f2
  unfold Span.lt at f1 f2
  simp only at f1 f2
  omega
theorem sp_sroot {ids es : List D} (h : spanOK ids es = true) {s : D} (hs : s ∈ sidesD es) : (labs ids (sidesD es) (fi s 0).toNat).1 = (labs ids (sidesD es) (fi s 3).toNat).1 := by
  unfold sidesD at hs
  obtain ⟨e, he, hm⟩ := List.mem_flatMap.1 hs
  have := (sp_edge h he).2.2.2.2
  simp only [List.mem_cons, List.not_mem_nil, or_false] at hm
  rcases hm with rfl | rfl
  · exact this
  · exact this.symm
theorem jOK_of {ids es : List D} (h : spanOK ids es = true) : jOK ids.length es := by
  refine ⟨(sp_n h).2, esLe h, fun i hi => ?_⟩
  have := sp_edge h (at_mem hi)
  exact ⟨this.1, this.2.1, this.2.2.1, this.2.2.2.1⟩
/-- What edges keep, joining keeps. -/
def jKeep (n : Nat) (G : Nat → Int) (L : Nat → Int) : Prop := ∀ v, v < n → 0 ≤ L v ∧ L v < n ∧ G (L v).toNat = G v
theorem jKeep_step {n : Nat} {G L : Nat → Int} {e : D} (h : jKeep n G L) (h0 : (fi e 0).toNat < n) (h2 : (fi e 2).toNat < n) (hG : G (fi e 0).toNat = G (fi e 2).toNat) : jKeep n G (jS L e) := by
  have a := h _ h0
  have b := h _ h2
  have m : 0 ≤ min (L (fi e 0).toNat) (L (fi e 2).toNat) ∧ min (L (fi e 0).toNat) (L (fi e 2).toNat) < n ∧ G (min (L (fi e 0).toNat) (L (fi e 2).toNat)).toNat = G (fi e 0).toNat := by
    rw [Int.min_def]
    split
    · exact a
    · rw [hG]; exact b
  intro v hv
  unfold jS jUpd
  by_cases h1 : v = (fi e 2).toNat
  · rw [if_pos h1, h1, ← hG]
    exact m
  · rw [if_neg h1]
    by_cases h3 : v = (fi e 0).toNat
    · rw [if_pos h3, h3]
      exact m
    · rw [if_neg h3]
      exact h v hv
theorem jKeep_foldl {n : Nat} {G : Nat → Int} : ∀ (es : List D) (L : Nat → Int), (∀ e ∈ es, (fi e 0).toNat < n ∧ (fi e 2).toNat < n ∧ G (fi e 0).toNat = G (fi e 2).toNat) → jKeep n G L → jKeep n G (es.foldl jS L)
  | [], L, _, h => h
  | e :: r, L, he, h => by
    have g := he e (by simp)
    exact jKeep_foldl r (jS L e) (fun x hx => he x (by simp [hx])) (jKeep_step h g.1 g.2.1 g.2.2)
theorem jKeep_R {n : Nat} {G : Nat → Int} {es : List D} (he : ∀ e ∈ es, (fi e 0).toNat < n ∧ (fi e 2).toNat < n ∧ G (fi e 0).toNat = G (fi e 2).toNat) : ∀ k, jKeep n G (jR es k)
  | 0 => fun v hv => ⟨by show 0 ≤ (v : Int); omega, by show (v : Int) < n; omega, by show G (v : Int).toNat = G v; rw [Int.toNat_natCast]⟩
  | k + 1 => jKeep_foldl es (jR es k) he (jKeep_R he k)
theorem sp_parts {ids es : List D} (h : spanOK ids es = true) {i k : Nat} (hi : i < ids.length) (hk : k < ids.length) (e : jR es ids.length i = jR es ids.length k) : (labs ids (sidesD es) i).1 = (labs ids (sidesD es) k).1 := by
  have hk' := jKeep_R (n := ids.length) (G := fun v => (labs ids (sidesD es) v).1) (es := es) (fun e he => by
    have := sp_edge h he
    exact ⟨by omega, by omega, this.2.2.2.2⟩) ids.length
  have a := (hk' i hi).2.2
  have b := (hk' k hk).2.2
  rw [e] at a
  exact a.symm.trans b
theorem sp_least {ids es : List D} (h : spanOK ids es = true) (k : Nat) : (labs ids (sidesD es) k).1 ≤ getI ids k := by
  have := sp_own h k
  unfold Span.lt at this
  simp only at this
  omega
end Go.Vc.Seat
