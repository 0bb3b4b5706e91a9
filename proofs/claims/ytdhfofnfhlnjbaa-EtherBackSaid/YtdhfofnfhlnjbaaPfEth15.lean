/- A part of the proof of the seat's laws: PfEth15. It states no claim by itself. -/
import Derived.Test.YtdhfofnfhlnjbaaPfEth7
import Derived.Test.YtdhfofnfhlnjbaaEpPfTagBack0
import Derived.Test.YtdhfofnfhlnjbaaPfEth11
set_option linter.unusedVariables false
set_option linter.unusedSimpArgs false
namespace Go.Vc.Seat
open Go.Vc Go.Proofs.Try
theorem fr_take {da sa x : List D} (h1 : da.length = 6) (h2 : sa.length = 6) : (da ++ sa ++ x).take 6 = da ∧ ((da ++ sa ++ x).drop 6).take 6 = sa ∧ (da ++ sa ++ x).drop 12 = x := by
  refine ⟨?_, ?_, ?_⟩
  · rw [List.append_assoc, List.take_left' h1]
  · rw [List.append_assoc, List.drop_left' h1, List.take_left' h2]
  · rw [List.drop_left' (by simp [h1, h2])]
theorem back_f {da sa : List D} {p : Int} {d : Bool} {v : Int} {R : List D} (h1 : da.length = 6) (h2 : sa.length = 6) (hz : frChk da sa false p d v R = 0) :
    short (frB da sa false p d v R) 14 = false ∧ marked ((frB da sa false p d v R).drop 12) = false ∧ short (frB da sa false p d v R) 1515 = true ∧
    frOK ((frB da sa false p d v R).take 6) (((frB da sa false p d v R).drop 6).take 6) false 0 false 0 ((frB da sa false p d v R).drop 12) = true ∧
    sameFr ((frB da sa false p d v R).take 6) (((frB da sa false p d v R).drop 6).take 6) false 0 false 0 ((frB da sa false p d v R).drop 12) da sa false p d v R = true := by
  obtain ⟨hl, hf⟩ := frChk_0 hz
  have hk := frOK_iff.1 hf
  obtain ⟨k1, k2, k3, k4⟩ := hk
  simp only [Bool.false_eq_true, if_false] at k4
  obtain ⟨rfl, rfl, rfl, k5⟩ := k4
  rw [frB_f]
  obtain ⟨e1, e2, e3⟩ := fr_take (x := R) h1 h2
  rw [e1, e2, e3]
  exact ⟨short_f.2 (by simp [h1, h2]; omega), k5, short_iff.2 (by simp [h1, h2]; omega), hf, sameFr_self ..⟩
theorem back_t {da sa : List D} {p : Int} {d : Bool} {v : Int} {R : List D} (h1 : da.length = 6) (h2 : sa.length = 6) (hz : frChk da sa true p d v R = 0) :
    short (frB da sa true p d v R) 14 = false ∧ marked ((frB da sa true p d v R).drop 12) = true ∧ short (frB da sa true p d v R) 18 = false ∧ short (frB da sa true p d v R) 1519 = true ∧
    (tagOK (n2 ((frB da sa true p d v R).drop 14) / 8192) (n2 ((frB da sa true p d v R).drop 14) % 4096) && frOK ((frB da sa true p d v R).take 6) (((frB da sa true p d v R).drop 6).take 6) true (n2 ((frB da sa true p d v R).drop 14) / 8192) (decide (n2 ((frB da sa true p d v R).drop 14) / 4096 % 2 = 1)) (n2 ((frB da sa true p d v R).drop 14) % 4096) ((frB da sa true p d v R).drop 16)) = true ∧
    sameFr ((frB da sa true p d v R).take 6) (((frB da sa true p d v R).drop 6).take 6) true (n2 ((frB da sa true p d v R).drop 14) / 8192) (decide (n2 ((frB da sa true p d v R).drop 14) / 4096 % 2 = 1)) (n2 ((frB da sa true p d v R).drop 14) % 4096) ((frB da sa true p d v R).drop 16) da sa true p d v R = true := by
  obtain ⟨hl, hf⟩ := frChk_0 hz
  obtain ⟨k1, k2, k3, k4⟩ := frOK_iff.1 hf
  have k4 : tagOK p v = true := k4
  have q := tagNum_in (d := d) k4
  rw [frB_t]
  have e0 : da ++ sa ++ ([D.i 136, D.i 168] ++ be (tagNum p d v) 2) ++ R = da ++ sa ++ ([D.i 136, D.i 168] ++ (be (tagNum p d v) 2 ++ R)) := by simp
  rw [e0]
  obtain ⟨e1, e2, e3⟩ := fr_take (x := [D.i 136, D.i 168] ++ (be (tagNum p d v) 2 ++ R)) h1 h2
  have e4 : (da ++ sa ++ ([D.i 136, D.i 168] ++ (be (tagNum p d v) 2 ++ R))).drop 14 = be (tagNum p d v) 2 ++ R := by
    rw [show (14 : Nat) = 12 + 2 from rfl, ← List.drop_drop, e3]; rfl
  have e5 : (da ++ sa ++ ([D.i 136, D.i 168] ++ (be (tagNum p d v) 2 ++ R))).drop 16 = R := by
    rw [show (16 : Nat) = 14 + 2 from rfl, ← List.drop_drop, e4, List.drop_left' (be_length _ _)]
  have e6 : n2 (be (tagNum p d v) 2 ++ R) = tagNum p d v := be2n q.1
  rw [e1, e2, e3, e4, e5, e6, q.2.1, q.2.2.1, q.2.2.2]
  exact ⟨short_f.2 (by simp [h1, h2, be_length]; omega), by (simp [marked, be_length, ato]; exact ⟨rfl, rfl⟩), short_f.2 (by simp [h1, h2, be_length]; omega), short_iff.2 (by simp [h1, h2, be_length]; omega), by rw [k4, hf]; rfl, sameFr_self ..⟩
theorem enc_f {Y : List D} (hY : Y.length ≤ 1514) (h14 : 14 ≤ Y.length) (hf : frOK (Y.take 6) ((Y.drop 6).take 6) false 0 false 0 (Y.drop 12) = true) :
    isZ (frChk (Y.take 6) ((Y.drop 6).take 6) false 0 false 0 (Y.drop 12)) = true ∧ frB (Y.take 6) ((Y.drop 6).take 6) false 0 false 0 (Y.drop 12) = Y := by
  refine ⟨isZ_iff.2 (chk_fr (by rw [List.length_drop]; omega) hf), ?_⟩
  rw [frB_f, show Y.drop 12 = (Y.drop 6).drop 6 by rw [List.drop_drop], List.append_assoc, List.take_append_drop, List.take_append_drop]
theorem enc_t {Y : List D} (hok : ∀ x ∈ Y, okD (.int .u8) x) (hY : Y.length ≤ 1518) (h18 : 18 ≤ Y.length) (hm : marked (Y.drop 12) = true)
    (h : (tagOK (n2 (Y.drop 14) / 8192) (n2 (Y.drop 14) % 4096) && frOK (Y.take 6) ((Y.drop 6).take 6) true (n2 (Y.drop 14) / 8192) (decide (n2 (Y.drop 14) / 4096 % 2 = 1)) (n2 (Y.drop 14) % 4096) (Y.drop 16)) = true) :
    isZ (frChk (Y.take 6) ((Y.drop 6).take 6) true (n2 (Y.drop 14) / 8192) (decide (n2 (Y.drop 14) / 4096 % 2 = 1)) (n2 (Y.drop 14) % 4096) (Y.drop 16)) = true ∧
    frB (Y.take 6) ((Y.drop 6).take 6) true (n2 (Y.drop 14) / 8192) (decide (n2 (Y.drop 14) / 4096 % 2 = 1)) (n2 (Y.drop 14) % 4096) (Y.drop 16) = Y := by
  rw [Bool.and_eq_true] at h
  refine ⟨isZ_iff.2 (chk_fr (by rw [List.length_drop]; omega) h.2), ?_⟩
  have hd : ∀ x ∈ Y.drop 14, okD (.int .u8) x := fun x hx => hok x (List.mem_of_mem_drop hx)
  have a0 := ato_le hd 0
  have a1 := ato_le hd 1
  have q : be (n2 (Y.drop 14)) 2 ++ (Y.drop 14).drop 2 = Y.drop 14 := drop2 hd (by rw [List.length_drop]; omega)
  have b : tagNum (n2 (Y.drop 14) / 8192) (decide (n2 (Y.drop 14) / 4096 % 2 = 1)) (n2 (Y.drop 14) % 4096) = n2 (Y.drop 14) := tagNum_back (by unfold n2; omega)
  have m2 : [D.i 136, D.i 168] ++ Y.drop 14 = Y.drop 12 := by
    have hd2 : ∀ x ∈ Y.drop 12, okD (.int .u8) x := fun x hx => hok x (List.mem_of_mem_drop hx)
    have hl : 2 ≤ (Y.drop 12).length := by rw [List.length_drop]; omega
    rw [show Y.drop 14 = (Y.drop 12).drop 2 by rw [List.drop_drop]]
    generalize Y.drop 12 = Z at hm hd2 hl ⊢
    match Z, hl with
    | x :: y :: r, _ =>
      simp only [marked, Bool.and_eq_true, decide_eq_true_eq] at hm
      have hx := (hd2 x (by simp)).2
      have hy := (hd2 y (by simp)).2
      have e1 : x.int = 136 := hm.1.2
      have e2 : y.int = 168 := hm.2
      rw [e1] at hx
      rw [e2] at hy
      rw [hx, hy]
      rfl
  rw [frB_t, b, show Y.drop 16 = (Y.drop 14).drop 2 by rw [List.drop_drop], List.append_assoc, List.append_assoc, List.append_assoc, q, m2, show Y.drop 12 = (Y.drop 6).drop 6 by rw [List.drop_drop], List.take_append_drop, List.take_append_drop]
end Go.Vc.Seat
