/- A part of the proof of the seat's laws: PfPbb14. It states no claim by itself. -/
import Derived.Test.YtdhfofnfhlnjbaaPfPbb11
set_option linter.unusedVariables false
set_option linter.unusedSimpArgs false
namespace Go.Vc.Seat
open Go.Vc Go.Proofs.Try
theorem bf_fields {da sa : List D} {p : Int} {d : Bool} {v : Int} {q : Int} {e u : Bool} {i : Int} {ia ib : List D} {rest : List D} (l1 : da.length = 6) (l2 : sa.length = 6) (l3 : ia.length = 6) (l4 : ib.length = 6) (h1 : tagOK p v = true) (h2 : itagOK q i = true) {B : List D} (hB : B = bfB da sa p d v q e u i ia ib rest) :
    B.take 6 = da ∧ (B.drop 6).take 6 = sa ∧ n2 (B.drop 12) = 34984 ∧ n2 (B.drop 14) = tagNum p d v ∧ n2 (B.drop 16) = 35047 ∧ ato B 18 = itagNum q e u i / 16777216 ∧
    ato B 19 * 65536 + ato B 20 * 256 + ato B 21 = itagNum q e u i % 16777216 ∧ (B.drop 22).take 6 = ia ∧ (B.drop 28).take 6 = ib ∧ B.drop 34 = rest := by
  have q1 := tagNum_in (d := d) h1
  have q2 := itagNum_in (d := e) (u := u) h2
  have e0 : B = da ++ (sa ++ ([D.i 136, D.i 168] ++ (be (tagNum p d v) 2 ++ ([D.i 136, D.i 231] ++ (be (itagNum q e u i) 4 ++ (ia ++ (ib ++ rest))))))) := by rw [hB]; simp [bfB]
  have d6 : B.drop 6 = sa ++ ([D.i 136, D.i 168] ++ (be (tagNum p d v) 2 ++ ([D.i 136, D.i 231] ++ (be (itagNum q e u i) 4 ++ (ia ++ (ib ++ rest)))))) := by rw [e0, List.drop_left' l1]
  have d12 : B.drop 12 = [D.i 136, D.i 168] ++ (be (tagNum p d v) 2 ++ ([D.i 136, D.i 231] ++ (be (itagNum q e u i) 4 ++ (ia ++ (ib ++ rest))))) := by rw [show (12 : Nat) = 6 + 6 from rfl, ← List.drop_drop, d6, List.drop_left' l2]
  have d14 : B.drop 14 = be (tagNum p d v) 2 ++ ([D.i 136, D.i 231] ++ (be (itagNum q e u i) 4 ++ (ia ++ (ib ++ rest)))) := by rw [show (14 : Nat) = 12 + 2 from rfl, ← List.drop_drop, d12]; rfl
  have d16 : B.drop 16 = [D.i 136, D.i 231] ++ (be (itagNum q e u i) 4 ++ (ia ++ (ib ++ rest))) := by rw [show (16 : Nat) = 14 + 2 from rfl, ← List.drop_drop, d14, List.drop_left' (be_length _ _)]
  have d18 : B.drop 18 = be (itagNum q e u i) 4 ++ (ia ++ (ib ++ rest)) := by rw [show (18 : Nat) = 16 + 2 from rfl, ← List.drop_drop, d16]; rfl
  have d22 : B.drop 22 = ia ++ (ib ++ rest) := by rw [show (22 : Nat) = 18 + 4 from rfl, ← List.drop_drop, d18, List.drop_left' (be_length _ _)]
  have d28 : B.drop 28 = ib ++ rest := by rw [show (28 : Nat) = 22 + 6 from rfl, ← List.drop_drop, d22, List.drop_left' l3]
  have d34 : B.drop 34 = rest := by rw [show (34 : Nat) = 28 + 6 from rfl, ← List.drop_drop, d28, List.drop_left' l4]
  have w := be4n (m := ia ++ (ib ++ rest)) q2.1
  have a18 : ∀ j, ato B (18 + j) = ato (be (itagNum q e u i) 4 ++ (ia ++ (ib ++ rest))) j := fun j => by rw [← d18, ato_drop]
  refine ⟨by rw [e0, List.take_left' l1], by rw [d6, List.take_left' l2], by rw [d12]; rfl, by rw [d14]; exact be2n q1.1, by rw [d16]; rfl, ?_, ?_, by rw [d22, List.take_left' l3], by rw [d28, List.take_left' l4], d34⟩
  · rw [show (18 : Nat) = 18 + 0 from rfl, a18]; exact w.1
  · rw [show (19 : Nat) = 18 + 1 from rfl, show (20 : Nat) = 18 + 2 from rfl, show (21 : Nat) = 18 + 3 from rfl, a18, a18, a18]; exact w.2
theorem bf_back {da sa : List D} {p : Int} {d : Bool} {v : Int} {q : Int} {e u : Bool} {i : Int} {ia ib : List D} {rest : List D} (l1 : da.length = 6) (l2 : sa.length = 6) (l3 : ia.length = 6) (l4 : ib.length = 6) (hz : bfChk da sa p d v q e u i ia ib rest = 0) {B : List D} (hB : B = bfB da sa p d v q e u i ia ib rest) :
    short B 36 = false ∧ short B 1537 = true ∧ bdOK B = true ∧ sameBf da sa p d v q e u i ia ib rest (B.take 6) ((B.drop 6).take 6) (n2 (B.drop 14) / 8192) (decide (n2 (B.drop 14) / 4096 % 2 = 1)) (n2 (B.drop 14) % 4096) (ato B 18 / 32) (decide (ato B 18 / 16 % 2 = 1)) (decide (ato B 18 / 8 % 2 = 1)) (ato B 19 * 65536 + ato B 20 * 256 + ato B 21) ((B.drop 22).take 6) ((B.drop 28).take 6) (B.drop 34) = true ∧ isZ (bfChk (B.take 6) ((B.drop 6).take 6) (n2 (B.drop 14) / 8192) (decide (n2 (B.drop 14) / 4096 % 2 = 1)) (n2 (B.drop 14) % 4096) (ato B 18 / 32) (decide (ato B 18 / 16 % 2 = 1)) (decide (ato B 18 / 8 % 2 = 1)) (ato B 19 * 65536 + ato B 20 * 256 + ato B 21) ((B.drop 22).take 6) ((B.drop 28).take 6) (B.drop 34)) = true ∧ (B.drop 22).take 6 = ia ∧ (B.drop 28).take 6 = ib ∧ B.drop 34 = rest ∧ ato B 18 / 32 = q ∧ decide (ato B 18 / 16 % 2 = 1) = e := by
  obtain ⟨hl, hf⟩ := bchk_0 hz
  obtain ⟨k1, k2, k3, k4, k5, k6⟩ := bfOK_iff.1 hf
  have k7 := (frOK_iff.1 (frChk_0 k6).2).2.2.1
  have q1 := tagNum_in (d := d) k3
  have q2 := itagNum_in (d := e) (u := u) k4
  obtain ⟨f1, f2, f3, f4, f5, f6, f7, f8, f9, f10⟩ := bf_fields (d := d) (e := e) (u := u) l1 l2 l3 l4 k3 k4 hB
  have lB : B.length = 34 + rest.length := by rw [hB, len_bfB _ _ _ _ _ _ _ _ _ _ _ _ l1 l2 l3 l4]
  rw [bdOK_eq, f1, f2, f4, f6, f7, f8, f9, f10, q1.2.1, q1.2.2.1, q1.2.2.2, q2.2.1, q2.2.2.1, q2.2.2.2.1, q2.2.2.2.2.1, q2.2.2.2.2.2]
  exact ⟨short_f.2 (by omega), short_iff.2 (by omega), by rw [show ty16 B = true by simp [ty16, f3, f5], k3, isZ_iff.2 hz]; rfl, sameBf_self .., isZ_iff.2 hz, rfl, rfl, rfl, rfl, rfl⟩
theorem bf_enc {B : List D} (hok : ∀ x ∈ B, okD (.int .u8) x) (h1 : 36 ≤ B.length) (h : bdOK B = true) : isZ (bfChk (B.take 6) ((B.drop 6).take 6) (n2 (B.drop 14) / 8192) (decide (n2 (B.drop 14) / 4096 % 2 = 1)) (n2 (B.drop 14) % 4096) (ato B 18 / 32) (decide (ato B 18 / 16 % 2 = 1)) (decide (ato B 18 / 8 % 2 = 1)) (ato B 19 * 65536 + ato B 20 * 256 + ato B 21) ((B.drop 22).take 6) ((B.drop 28).take 6) (B.drop 34)) = true ∧ bfB (B.take 6) ((B.drop 6).take 6) (n2 (B.drop 14) / 8192) (decide (n2 (B.drop 14) / 4096 % 2 = 1)) (n2 (B.drop 14) % 4096) (ato B 18 / 32) (decide (ato B 18 / 16 % 2 = 1)) (decide (ato B 18 / 8 % 2 = 1)) (ato B 19 * 65536 + ato B 20 * 256 + ato B 21) ((B.drop 22).take 6) ((B.drop 28).take 6) (B.drop 34) = B := by
  rw [bdOK_eq] at h
  simp only [Bool.and_eq_true, ty16, decide_eq_true_eq] at h
  obtain ⟨⟨⟨⟨t1, t2⟩, tk⟩, i8⟩, hz⟩ := h
  refine ⟨hz, ?_⟩
  have hd : ∀ n, ∀ x ∈ B.drop n, okD (.int .u8) x := fun n x hx => hok x (List.mem_of_mem_drop hx)
  have two : ∀ n, n + 2 ≤ B.length → be (n2 (B.drop n)) 2 ++ B.drop (n + 2) = B.drop n := fun n hn => by
    rw [← List.drop_drop]
    exact drop2 (hd n) (by rw [List.length_drop]; omega)
  have a14 := ato_le (hd 14) 0
  have b14 := ato_le (hd 14) 1
  have bT : tagNum (n2 (B.drop 14) / 8192) (decide (n2 (B.drop 14) / 4096 % 2 = 1)) (n2 (B.drop 14) % 4096) = n2 (B.drop 14) := tagNum_back (by unfold n2; omega)
  have t12 := two 12 (by omega)
  have t14 := two 14 (by omega)
  have t16 := two 16 (by omega)
  rw [t1] at t12
  rw [t2] at t16
  have a0 := ato_le hok 18
  have hI := itagNum_back (a := ato B 18) (b := ato B 19 * 65536 + ato B 20 * 256 + ato B 21) a0 (isZ_iff.1 i8)
  have x18 := drop16 (xs := B.drop 18) (hd 18) (by rw [List.length_drop]; omega)
  simp only [ato_drop, Nat.reduceAdd, List.drop_drop] at x18
  unfold bfB
  rw [bT, hI]
  have e1 : [D.i 136, D.i 168] = be 34984 2 := rfl
  have e2 : [D.i 136, D.i 231] = be 35047 2 := rfl
  rw [e1, e2]
  simp only [List.append_assoc] at x18 ⊢
  rw [x18, t16, t14, t12, show B.drop 12 = (B.drop 6).drop 6 by rw [List.drop_drop], List.take_append_drop, List.take_append_drop]
end Go.Vc.Seat
