/- A part of the proof of the seat's laws: PfPbb17. It states no claim by itself. -/
import Derived.Test.YtdhfofnfhlnjbaaPfPbb14
set_option linter.unusedVariables false
set_option linter.unusedSimpArgs false
namespace Go.Vc.Seat
open Go.Vc Go.Proofs.Try
def Wb (xs : List D) : List D := xs.take 12 ++ ([D.i 136, D.i 168] ++ ((xs.drop 14).take 2 ++ ([D.i 136, D.i 231] ++ xs.drop 18)))
theorem bfB_W {xs : List D} (hok : ∀ x ∈ xs, okD (.int .u8) x) (h1 : 36 ≤ xs.length) (i8 : isZ (ato xs 18 % 8) = true) : bfB (xs.take 6) ((xs.drop 6).take 6) (n2 (xs.drop 14) / 8192) (decide (n2 (xs.drop 14) / 4096 % 2 = 1)) (n2 (xs.drop 14) % 4096) (ato xs 18 / 32) (decide (ato xs 18 / 16 % 2 = 1)) (decide (ato xs 18 / 8 % 2 = 1)) (ato xs 19 * 65536 + ato xs 20 * 256 + ato xs 21) ((xs.drop 22).take 6) ((xs.drop 28).take 6) (xs.drop 34) = Wb xs := by
  have hd : ∀ n, ∀ x ∈ xs.drop n, okD (.int .u8) x := fun n x hx => hok x (List.mem_of_mem_drop hx)
  have a14 := ato_le (hd 14) 0
  have b14 := ato_le (hd 14) 1
  have bT : tagNum (n2 (xs.drop 14) / 8192) (decide (n2 (xs.drop 14) / 4096 % 2 = 1)) (n2 (xs.drop 14) % 4096) = n2 (xs.drop 14) := tagNum_back (by unfold n2; omega)
  have t14 : be (n2 (xs.drop 14)) 2 ++ (xs.drop 14).drop 2 = xs.drop 14 := drop2 (hd 14) (by rw [List.length_drop]; omega)
  have t2 : (xs.drop 14).take 2 = be (n2 (xs.drop 14)) 2 := by
    rw [← t14, List.take_left' (be_length _ _), t14]
  have a0 := ato_le hok 18
  have hI := itagNum_back (a := ato xs 18) (b := ato xs 19 * 65536 + ato xs 20 * 256 + ato xs 21) a0 (isZ_iff.1 i8)
  have x18 := drop16 (xs := xs.drop 18) (hd 18) (by rw [List.length_drop]; omega)
  simp only [ato_drop, Nat.reduceAdd, List.drop_drop] at x18
  unfold bfB Wb
  rw [bT, hI, t2, show (12 : Nat) = 6 + 6 from rfl, List.take_add]
  simp only [List.append_assoc] at x18 ⊢
  rw [x18]
theorem Wb_same {xs : List D} (hok : ∀ x ∈ xs, okD (.int .u8) x) (h1 : 36 ≤ xs.length) (h : ty16 xs = true) : Wb xs = xs := by
  simp only [ty16, Bool.and_eq_true, decide_eq_true_eq] at h
  have hd : ∀ n, ∀ x ∈ xs.drop n, okD (.int .u8) x := fun n x hx => hok x (List.mem_of_mem_drop hx)
  have t12 : be (n2 (xs.drop 12)) 2 ++ (xs.drop 12).drop 2 = xs.drop 12 := drop2 (hd 12) (by rw [List.length_drop]; omega)
  have t16 : be (n2 (xs.drop 16)) 2 ++ (xs.drop 16).drop 2 = xs.drop 16 := drop2 (hd 16) (by rw [List.length_drop]; omega)
  rw [h.1, List.drop_drop] at t12
  rw [h.2, List.drop_drop] at t16
  unfold Wb
  have e1 : [D.i 136, D.i 168] = be 34984 2 := rfl
  have e2 : [D.i 136, D.i 231] = be 35047 2 := rfl
  rw [e1, e2, t16, show xs.drop 16 = (xs.drop 14).drop 2 by rw [List.drop_drop], List.take_append_drop, t12, List.take_append_drop]
theorem Wb_ty {xs : List D} (h1 : 36 ≤ xs.length) (h : Wb xs = xs) : ty16 xs = true := by
  have l12 : (xs.take 12).length = 12 := by rw [List.length_take]; omega
  have d12 : xs.drop 12 = [D.i 136, D.i 168] ++ ((xs.drop 14).take 2 ++ ([D.i 136, D.i 231] ++ xs.drop 18)) := by
    conv => lhs; rw [← h]
    unfold Wb
    rw [List.drop_left' l12]
  have l2 : ((xs.drop 14).take 2).length = 2 := by rw [List.length_take, List.length_drop]; omega
  have d16 : xs.drop 16 = [D.i 136, D.i 231] ++ xs.drop 18 := by
    rw [show xs.drop 16 = (xs.drop 12).drop 4 by rw [List.drop_drop], d12, show (4 : Nat) = 2 + 2 from rfl, ← List.drop_drop, List.drop_left' (by rfl), List.drop_left' l2]
  simp only [ty16, Bool.and_eq_true, decide_eq_true_eq]
  rw [d12, d16]
  exact ⟨rfl, rfl⟩
theorem okW {xs : List D} (hok : ∀ x ∈ xs, okD (.int .u8) x) : ∀ x ∈ Wb xs, okD (.int .u8) x := fun x hx => by
  have c : ∀ n : Int, n = 136 ∨ n = 168 ∨ n = 231 → okD (.int .u8) (D.i n) := fun n hn => ⟨by
    show IntKind.u8.has n
    rcases hn with rfl | rfl | rfl <;> simp [IntKind.has, IntKind.min, IntKind.max, IntKind.signed, IntKind.bits], rfl⟩
  simp only [Wb, List.mem_append, List.mem_cons, List.not_mem_nil, or_false] at hx
  rcases hx with hx | (rfl | rfl) | hx | (rfl | rfl) | hx
  · exact hok x (List.mem_of_mem_take hx)
  · exact c _ (.inl rfl)
  · exact c _ (.inr (.inl rfl))
  · exact hok x (List.mem_of_mem_drop (List.mem_of_mem_take hx))
  · exact c _ (.inl rfl)
  · exact c _ (.inr (.inr rfl))
  · exact hok x (List.mem_of_mem_drop hx)
theorem W_bytes {xs : List D} (hok : ∀ x ∈ xs, okD (.int .u8) x) (h1 : 36 ≤ xs.length) (i8 : isZ (ato xs 18 % 8) = true) : bytesOf (bfB (xs.take 6) ((xs.drop 6).take 6) (n2 (xs.drop 14) / 8192) (decide (n2 (xs.drop 14) / 4096 % 2 = 1)) (n2 (xs.drop 14) % 4096) (ato xs 18 / 32) (decide (ato xs 18 / 16 % 2 = 1)) (decide (ato xs 18 / 8 % 2 = 1)) (ato xs 19 * 65536 + ato xs 20 * 256 + ato xs 21) ((xs.drop 22).take 6) ((xs.drop 28).take 6) (xs.drop 34)) = bytesOf xs ↔ ty16 xs = true := by
  rw [bfB_W hok h1 i8]
  have := sameB_iff (okW hok) hok
  unfold sameB at this
  rw [decide_eq_true_eq] at this
  rw [this]
  exact ⟨Wb_ty h1, Wb_same hok h1⟩
end Go.Vc.Seat
