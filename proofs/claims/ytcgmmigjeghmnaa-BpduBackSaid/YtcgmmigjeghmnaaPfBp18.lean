/- A part of the proof of the seat's laws: PfBp18. It states no claim by itself. -/
import Derived.Test.YtcgmmigjeghmnaaPfBp14
set_option linter.unusedVariables false
set_option linter.unusedSimpArgs false
namespace Go.Vc.Seat
open Go.Vc Go.Proofs.Try
theorem num_app (xs ys : List D) : num (xs ++ ys) = ys.foldl (fun n x => n * 256 + x.int) (num xs) := by simp [num, List.foldl_append]
theorem num_fold (n : Int) : ∀ (k : Nat) (a : Int), (be n k).foldl (fun n x => n * 256 + x.int) a = a * 256 ^ k + n % 256 ^ k
  | 0, a => by simp [be]
  | k + 1, a => by
    rw [be, List.foldl_cons, num_fold n k, D.int, Int.pow_succ]
    have p : (0 : Int) < 256 ^ k := Int.pow_pos (by decide)
    have h1 := Int.emod_add_mul_ediv n (256 ^ k)
    have h2 := Int.emod_add_mul_ediv (n / 256 ^ k) 256
    have h3 : n % (256 ^ k * 256) = n % 256 ^ k + 256 ^ k * (n / 256 ^ k % 256) := by
      have e := Int.emod_add_mul_ediv n (256 ^ k * 256)
      have e2 : n / (256 ^ k * 256) = n / 256 ^ k / 256 := (Int.ediv_ediv_of_nonneg (Int.le_of_lt p)).symm
      rw [e2] at e
      have e3 : n = n % 256 ^ k + 256 ^ k * (n / 256 ^ k % 256) + 256 ^ k * 256 * (n / 256 ^ k / 256) := by
        conv => lhs; rw [← h1, ← h2]
        rw [Int.mul_add, Int.mul_assoc, Int.add_assoc]
      omega
    rw [h3, Int.add_mul, Int.mul_comm (256 ^ k) (n / 256 ^ k % 256), Int.mul_assoc, Int.mul_comm 256 (256 ^ k)]
    omega
theorem num_be (n : Int) (k : Nat) : num (be n k) = n % 256 ^ k := by
  unfold num
  rw [num_fold]
  omega
theorem at_mid (A B C : List D) (i k : Nat) (hA : A.length = i) (hB : B.length = k) : ((A ++ (B ++ C)).drop i).take k = B := by
  rw [List.drop_append_of_le_length (by omega), List.drop_of_length_le (by omega), List.nil_append, List.take_append_of_le_length (by omega), List.take_of_length_le (by omega)]
theorem ato_app (A B : List D) (i j : Nat) (hA : A.length = i) : ato (A ++ B) (i + j) = ato B j := by
  unfold ato
  rw [List.getD_eq_getElem?_getD, List.getD_eq_getElem?_getD, List.getElem?_append_right (by omega)]
  congr 3
  omega
/-- What the fields of a message may be. -/
structure OKM (m : BP) : Prop where
  R : 0 ≤ m.R ∧ m.R < 256 ^ 8
  C : 0 ≤ m.C ∧ m.C < 256 ^ 4
  B : 0 ≤ m.B ∧ m.B < 256 ^ 8
  P : 0 ≤ m.P ∧ m.P < 256 ^ 2
def bTail (m : BP) : List D := bTimes m ++ (if m.k = 3 then [.i 0] else [])
theorem bB_eq {m : BP} (h : m.k ≠ 2) : bBytes m = PRE m ++ bTail m := by
  simp only [bBytes, h, ↓reduceIte, PRE, bTail, List.append_assoc]
theorem bB_nums {m : BP} (h : m.k ≠ 2) (o : OKM m) : numAt (bBytes m) 5 8 = m.R ∧ numAt (bBytes m) 13 4 = m.C ∧ numAt (bBytes m) 17 8 = m.B ∧ numAt (bBytes m) 25 2 = m.P := by
  have hh : (bHead m).length = 4 := by unfold bHead; split <;> rfl
  have e : bBytes m = bHead m ++ [.i (bFlags m)] ++ be m.R 8 ++ be m.C 4 ++ be m.B 8 ++ be m.P 2 ++ bTail m := by rw [bB_eq h, PRE]
  refine ⟨?_, ?_, ?_, ?_⟩
  · have := at_mid (bHead m ++ [.i (bFlags m)]) (be m.R 8) (be m.C 4 ++ (be m.B 8 ++ (be m.P 2 ++ bTail m))) 5 8 (by simp [hh]) (be_length _ _)
    rw [numAt, e]
    simp only [List.append_assoc] at this ⊢
    rw [this, num_be, Int.emod_eq_of_lt o.R.1 o.R.2]
  · have := at_mid (bHead m ++ [.i (bFlags m)] ++ be m.R 8) (be m.C 4) (be m.B 8 ++ (be m.P 2 ++ bTail m)) 13 4 (by simp [hh, be_length]) (be_length _ _)
    rw [numAt, e]
    simp only [List.append_assoc] at this ⊢
    rw [this, num_be, Int.emod_eq_of_lt o.C.1 o.C.2]
  · have := at_mid (bHead m ++ [.i (bFlags m)] ++ be m.R 8 ++ be m.C 4) (be m.B 8) (be m.P 2 ++ bTail m) 17 8 (by simp [hh, be_length]) (be_length _ _)
    rw [numAt, e]
    simp only [List.append_assoc] at this ⊢
    rw [this, num_be, Int.emod_eq_of_lt o.B.1 o.B.2]
  · have := at_mid (bHead m ++ [.i (bFlags m)] ++ be m.R 8 ++ be m.C 4 ++ be m.B 8) (be m.P 2) (bTail m) 25 2 (by simp [hh, be_length]) (be_length _ _)
    rw [numAt, e]
    simp only [List.append_assoc] at this ⊢
    rw [this, num_be, Int.emod_eq_of_lt o.P.1 o.P.2]
theorem bB_times {m : BP} (h : m.k ≠ 2) : ato (bBytes m) 27 = m.ta ∧ ato (bBytes m) 29 = m.tm ∧ ato (bBytes m) 31 = m.th ∧ ato (bBytes m) 33 = m.td := by
  rw [bB_eq h]
  exact ⟨ato_app _ _ 27 0 (PRE_length m), ato_app _ _ 27 2 (PRE_length m), ato_app _ _ 27 4 (PRE_length m), ato_app _ _ 27 6 (PRE_length m)⟩
theorem flags_back1 : ∀ tc ack : Bool, bitN (bi tc 1 + bi ack 128) 1 = tc ∧ bitN (bi tc 1 + bi ack 128) 128 = ack := by decide +kernel
theorem flags_back3 : ∀ tc pr le fo ag : Bool, ∀ r : _root_.Fin 4, let f := bi tc 1 + bi pr 2 + 4 * ((r.val : Nat) : Int) + bi le 16 + bi fo 32 + bi ag 64;
    bitN f 1 = tc ∧ bitN f 2 = pr ∧ bitN f 16 = le ∧ bitN f 32 = fo ∧ bitN f 64 = ag ∧ f / 4 % 4 = ((r.val : Nat) : Int) := by decide +kernel
theorem role_back {r : Int} (h : r = 0 ∨ r = 1 ∨ r = 3 ∨ r = 4) : ∃ i : _root_.Fin 4, rRole r = ((i.val : Nat) : Int) ∧ roleOf ((i.val : Nat) : Int) = r := by
  rcases h with rfl | rfl | rfl | rfl
  · exact ⟨0, by decide, by decide⟩
  · exact ⟨1, by decide, by decide⟩
  · exact ⟨2, by decide, by decide⟩
  · exact ⟨3, by decide, by decide⟩
/-- What is put is read. -/
theorem read_back {m : BP} (hf : fineB m = true) (o : OKM m) : rdOK (bBytes m) = true ∧ rdM (bBytes m) = m := by
  suffices H : rdM (bBytes m) = m by
    refine ⟨?_, H⟩
    unfold rdOK
    rw [H, sameB_self, Bool.and_true, decide_eq_true_eq]
    rcases fine_k hf with h | h | h
    · exact .inl (bBytes_2 h)
    · exact .inr (.inl (bBytes_1 h))
    · exact .inr (.inr (bBytes_3 h))
  rcases fine_k hf with h | h | h
  · rw [(rd4 (bBytes_2 h)).1]
    unfold fineB at hf
    rw [if_pos h] at hf
    obtain ⟨a1, a2, a3, a4, a5, a6, a7, a8, a9, a10, a11, a12, a13, a14, a15⟩ := of_decide_eq_true hf
    cases m
    simp only at *
    subst_vars
    rfl
  · have h2 : m.k ≠ 2 := by rw [h]; decide
    rw [(rd35 (bBytes_1 h)).1]
    obtain ⟨n1, n2, n3, n4⟩ := bB_nums h2 o
    obtain ⟨t1, t2, t3, t4⟩ := bB_times h2
    have f4 : ato (bBytes m) 4 = bi m.tc 1 + bi m.ack 128 := by rw [bBytes_at4 h2, bFlags, if_neg (by rw [h]; decide)]
    obtain ⟨b1, b2⟩ := flags_back1 m.tc m.ack
    unfold cfgM
    rw [n1, n2, n3, n4, t1, t2, t3, t4, f4, b1, b2]
    unfold fineB at hf
    rw [if_neg h2, if_pos h] at hf
    obtain ⟨a1, a2, a3, a4, a5⟩ := of_decide_eq_true hf
    cases m
    simp only at *
    subst_vars
    rfl
  · have h2 : m.k ≠ 2 := by rw [h]; decide
    have h1 : m.k ≠ 1 := by rw [h]; decide
    rw [(rd36 (bBytes_3 h)).1]
    unfold fineB at hf
    rw [if_neg h2, if_neg h1] at hf
    obtain ⟨_, a1, a2⟩ := of_decide_eq_true hf
    obtain ⟨i, i1, i2⟩ := role_back a2
    obtain ⟨n1, n2, n3, n4⟩ := bB_nums h2 o
    obtain ⟨t1, t2, t3, t4⟩ := bB_times h2
    have f4 : ato (bBytes m) 4 = bi m.tc 1 + bi m.pr 2 + 4 * ((i.val : Nat) : Int) + bi m.le 16 + bi m.fo 32 + bi m.ag 64 := by rw [bBytes_at4 h2, bFlags, if_pos h, i1]
    obtain ⟨b1, b2, b3, b4, b5, b6⟩ := flags_back3 m.tc m.pr m.le m.fo m.ag i
    unfold rstM
    rw [n1, n2, n3, n4, t1, t2, t3, t4, f4, b1, b2, b3, b4, b5, b6, i2]
    cases m
    simp only at *
    subst_vars
    rfl
end Go.Vc.Seat
