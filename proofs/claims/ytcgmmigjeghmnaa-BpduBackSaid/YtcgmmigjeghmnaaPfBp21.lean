/- A part of the proof of the seat's laws: PfBp21. It states no claim by itself. -/
import Derived.Test.YtcgmmigjeghmnaaPfBp18
import Derived.Test.YtcgmmigjeghmnaaPfBp14
set_option linter.unusedVariables false
set_option linter.unusedSimpArgs false
namespace Go.Vc.Seat
open Go.Vc Go.Proofs.Try
theorem enc_back {src : List D} {m : BP} (hl : src.length = 6) (hs : single src = true) (hf : fineB m = true) (o : OKM m) :
    short (bEnc src m) 21 = false ∧ decOK (bEnc src m) = true ∧ decS (bEnc src m) = src ∧ decM (bEnc src m) = m ∧ isB (bEnc src m) = true ∧ (bEnc src m).length = 17 + (bBytes m).length := by
  have e : bEnc src m = (bGrp ++ src ++ be (3 + (bBytes m).length) 2 ++ [.i 66, .i 66, .i 3]) ++ bBytes m := rfl
  have hp : (bGrp ++ src ++ be (3 + ((bBytes m).length : Int)) 2 ++ [D.i 66, .i 66, .i 3]).length = 17 := by
    simp only [List.length_append, be_length, hl, bGrp, List.length_cons, List.length_nil]
  have hlen : (bEnc src m).length = 17 + (bBytes m).length := by rw [e, List.length_append, hp]
  have hd : (bEnc src m).drop 17 = bBytes m := by
    rw [e, List.drop_append_of_le_length (by omega), List.drop_of_length_le (by omega), List.nil_append]
  have h4 : 4 ≤ (bBytes m).length := by
    rcases fine_k hf with h | h | h
    · rw [bBytes_2 h]; omega
    · rw [bBytes_1 h]; omega
    · rw [bBytes_3 h]; omega
  have hS : decS (bEnc src m) = src := by
    have := at_mid bGrp src (be (3 + ((bBytes m).length : Int)) 2 ++ ([D.i 66, .i 66, .i 3] ++ bBytes m)) 6 6 rfl hl
    rw [decS, bEnc]
    simp only [List.append_assoc] at this ⊢
    exact this
  obtain ⟨r1, r2⟩ := read_back hf o
  have hM : decM (bEnc src m) = m := by rw [decM, hd, r2]
  refine ⟨?_, ?_, hS, hM, ?_, hlen⟩
  · rw [short_f, hlen]; omega
  · rw [decOK, hS, hM, hd, r1, hs, sameB_self]; rfl
  · have q : ∀ j, ato (bEnc src m) (14 + j) = ato ([D.i 66, .i 66, .i 3] ++ bBytes m) j := fun j => by
      have : bEnc src m = (bGrp ++ src ++ be (3 + (bBytes m).length) 2) ++ ([.i 66, .i 66, .i 3] ++ bBytes m) := by rw [bEnc, List.append_assoc]
      rw [this]
      exact ato_app _ _ 14 j (by simp only [List.length_append, be_length, hl, bGrp, List.length_cons, List.length_nil])
    have g : ∀ j, j < 6 → ato (bEnc src m) j = ato bGrp j := fun j hj => by
      have : bEnc src m = bGrp ++ (src ++ (be (3 + (bBytes m).length) 2 ++ ([.i 66, .i 66, .i 3] ++ bBytes m))) := by simp only [bEnc, List.append_assoc]
      rw [this]
      unfold ato
      rw [List.getD_eq_getElem?_getD, List.getD_eq_getElem?_getD, List.getElem?_append_left (show j < bGrp.length from hj)]
    unfold isB
    rw [decide_eq_true_eq]
    exact ⟨by omega, g 0 (by omega), g 1 (by omega), g 2 (by omega), g 3 (by omega), g 4 (by omega), g 5 (by omega), q 0, q 1, q 2⟩
theorem okM_of {k : Int} {tc ack pr le fo ag : Bool} {ro R C B P ta tm th td : Int} (h : okA (bpA ⟨k, tc, ack, pr, le, fo, ag, ro, R, C, B, P, ta, tm, th, td⟩)) : OKM ⟨k, tc, ack, pr, le, fo, ag, ro, R, C, B, P, ta, tm, th, td⟩ := by
  simp only [okA, okAs] at h
  have h1 := has_u64 h.2.2.2.2.2.2.2.2.1.1
  have h2 := has_u32 h.2.2.2.2.2.2.2.2.1.2.1
  have h3 := has_u64 h.2.2.2.2.2.2.2.2.1.2.2.1
  have h4 := has_u16 h.2.2.2.2.2.2.2.2.1.2.2.2.1
  exact ⟨by show 0 ≤ R ∧ R < 256 ^ 8; omega, by show 0 ≤ C ∧ C < 256 ^ 4; omega, by show 0 ≤ B ∧ B < 256 ^ 8; omega, by show 0 ≤ P ∧ P < 256 ^ 2; omega⟩
theorem dec_back {xs : List D} (h : decOK xs = true) : single (decS xs) = true ∧ fineB (decM xs) = true ∧ (bytesOf (bEnc (decS xs) (decM xs)) = bytesOf xs) = True := by
  unfold decOK at h
  simp only [Bool.and_eq_true] at h
  exact ⟨h.1.2, fine_rd _, eq_true (of_decide_eq_true h.2)⟩
end Go.Vc.Seat
