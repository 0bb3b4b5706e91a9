/- A part of the proof of the seat's laws: AuPfDec. It states no claim by itself. -/
import Derived.Test.YtiddoflcajgjjaaAuPfEth6
set_option linter.unusedVariables false
set_option linter.unusedSimpArgs false
namespace Go.Vc.Seat
open Go.Vc Go.Proofs.Try

/-- What is known of Decode, in two branches. -/
theorem dec2 {orc : Orc} {nt : Nat} {rs : List RV} {ac : AC} {args : List AV} (h : Fits orc nt rs ac args (pFrDec args)) : Fits orc nt rs ac args (pFrDec2 args) := by
  unfold pFrDec2
  split
  · rename_i xs
    unfold pFrDec at h
    unfold decOK decTg decP decD decV decR decE decTg
    cases c1 : short xs 14
    · have h := h.2 c1
      cases c2 : marked (xs.drop 12)
      · have h := h.2 c2
        cases c3 : short xs 1515
        · have h := h.1 (by rw [c3]; rfl)
          exact ⟨fun e => by simp [c1, c2, c3] at e, fun _ hc => h hc⟩
        · have h := h.2 (by rw [c3]; rfl)
          exact ⟨fun e => by
            have h9 := h.1 (by simpa [c1, c2, c3] using e)
            rw [← List.length_drop] at h9
            exact h9, fun e _ => h.2 (by simpa [c1, c2, c3] using e)⟩
      · have h := h.1 c2
        cases c3 : short xs 18
        · have h := h.2 c3
          cases c4 : short xs 1519
          · have h := h.1 (by rw [c4]; rfl)
            exact ⟨fun e => by simp [c1, c2, c3, c4] at e, fun _ hc => h hc⟩
          · have h := h.2 (by rw [c4]; rfl)
            exact ⟨fun e => by
              have h9 := h.1 (by simpa [c1, c2, c3, c4] using e)
              rw [← List.length_drop] at h9
              exact h9, fun e _ => h.2 (by simpa [c1, c2, c3, c4] using e)⟩
        · have h := h.1 c3
          exact ⟨fun e => by simp [c1, c2, c3] at e, fun _ hc => h⟩
    · have h := h.1 c1
      exact ⟨fun e => by simp [c1] at e, fun _ hc => h⟩
  · trivial
end Go.Vc.Seat
