/- A part of the proof of the seat's laws: PfBp16. It states no claim by itself. -/
import Derived.Test.YtcgmmigjeghmnaaPfBp15
set_option linter.unusedVariables false
set_option linter.unusedSimpArgs false
namespace Go.Vc.Seat
open Go.Vc Go.Proofs.Try
theorem fill_set (L : List D) (i : Nat) (x : D) (hi : i < 6) (h : i < L.length) (hx : x = L.getD i (.i 0)) : (L.take i ++ List.replicate (6 - i) (D.i 0)).set i x = L.take (i + 1) ++ List.replicate (6 - (i + 1)) (D.i 0) := by
  subst hx
  have e1 : 6 - i = (6 - (i + 1)) + 1 := by omega
  rw [e1, List.replicate_succ, List.take_succ_eq_append_getElem h, List.set_append_right _ _ (by simp; omega)]
  simp [h, Nat.min_eq_left (Nat.le_of_lt h), -List.take_append_getElem]
set_option maxRecDepth 20000 in
set_option maxHeartbeats 8000000 in
theorem decA {xs : List D} (hx : ∀ x ∈ xs, okD (.int .u8) x) (h21 : ¬ xs.length < 21) (ha : rdOK (xs.drop 17) = false) : Body orc nt_r05_Decode rs_r05_Decode ac_r05_Decode [.sl (.int .u8) xs .no] (.tup [macA six0, bpA bp0, .int .i64 50]) [] := by
  unfold ac_r05_Decode
  refine ⟨rfl, ?_⟩
  have hl : ¬ xs.length < 21 := h21
  have h2 : ¬ (xs.length : Int) < 21 := by omega
  have h4 : short (xs.drop 17) 4 = false := short_f.2 (by rw [List.length_drop]; omega)
  have h5 : List.take (xs.length - 17) (List.drop 17 xs) = List.drop 17 xs := take_drop_all xs 17
  have hm : fineB ⟨(rdM (xs.drop 17)).k, (rdM (xs.drop 17)).tc, (rdM (xs.drop 17)).ack, (rdM (xs.drop 17)).pr, (rdM (xs.drop 17)).le, (rdM (xs.drop 17)).fo, (rdM (xs.drop 17)).ag, (rdM (xs.drop 17)).ro, (rdM (xs.drop 17)).R, (rdM (xs.drop 17)).C, (rdM (xs.drop 17)).B, (rdM (xs.drop 17)).P, (rdM (xs.drop 17)).ta, (rdM (xs.drop 17)).tm, (rdM (xs.drop 17)).th, (rdM (xs.drop 17)).td⟩ = true := fine_rd _
  repeat' (first
    | (with_reducible first | refine st_seq (fun K' hn he hr => ?_) | refine st_block (fun K' hn he hr => ?_) | refine st_region ?_ | refine st_draw ?_ | refine st_cond ?_ | refine st_skip ?_ | refine st_exit ?_ | refine st_ret ?_ | refine st_loop ?_ | refine st_op (fun G gn => ?_) | refine st_nil ?_ | refine st_gop ?_ | refine st_dop (fun G gn => ?_) | refine st_dnil ?_ | refine st_gdop ?_ | refine st_tl ?_)
    | (with_reducible refine gn _ _ ?_; clear gn G)
    | (with_reducible refine gn _ _ _ _ ?_; clear gn G)
    | (with_reducible refine Wr.mk ?_)
    | (with_reducible refine hn _ _ ?_; clear hn he hr K')
    | (with_reducible refine he _ _ _ ?_; clear hn he hr K')
    | (with_reducible refine hr _ _ ?_; clear hn he hr K')
    | ((with_reducible refine Eqn.mk (fun hq => ?_) ?_) <;> first | contradiction | skip)
    | (with_reducible refine Bo.yes (by decide) ?_)
    | (with_reducible refine Bo.no (by decide) ?_)
    | ((with_reducible refine Bo.gen (fun c hb => ?_)) <;> (try simp only [Nat.reduceAdd, toD, toDs, dInt, dBool, dStr, dList, dFs, dFld, List.getD_cons_zero, List.getD_cons_succ, Nat.zero_add, Int.reduceToNat] at hb) <;> (try simp only [cond_true, cond_false, toD, toDs, dInt, dBool, dStr, dList, dFs, dFld, List.getD_cons_zero, List.getD_cons_succ, Nat.zero_add, eqA, eqAs, decide_true, decide_false, beq_self_eq_true, Bool.not_true, Bool.not_false, Bool.and_true, Bool.true_and, Bool.and_self, cmpI, ↓reduceIte, Bool.false_eq_true, reduceCtorEq, Int.reduceEq, Int.reduceLT, Int.reduceLE, h2] at hb) <;> first | (obtain rfl : c = true := hb) | (obtain rfl : c = false := hb) | skip)
    | ((with_reducible refine Br.cs (fun hq => ?_) (fun hq => ?_)) <;> (try simp only [cond_true, cond_false, toD, toDs, dInt, dBool, dStr, dList, dFs, dFld, List.getD_cons_zero, List.getD_cons_succ, Nat.zero_add, eqA, eqAs, decide_true, decide_false, beq_self_eq_true, Bool.not_true, Bool.not_false, Bool.and_true, Bool.true_and, Bool.and_self, cmpI, ↓reduceIte, Bool.false_eq_true, reduceCtorEq, Int.reduceEq, Int.reduceLT, Int.reduceLE, h2] at hq) <;> first | contradiction | subst hq | skip)
    | (with_reducible refine Nd.mk trivial ?_)
    | (with_reducible refine Nd.mk (by decide) ?_)
    | (with_reducible refine Nd.mk ?_ ?_)
    | (with_reducible refine Leaf.mk rfl ?_)
    | (with_reducible refine LeafS.fin rfl ?_)
    | (with_reducible refine Fin.mk ?_ rfl)
    | (with_reducible refine Fin.mk ?_ ?_)
    | ((with_reducible refine Nx.mk ?_ ?_ ?_ ?_) <;> first | rfl | skip)
    | (conv => whnf
       first
         | (with_reducible refine gn _ _ ?_; clear gn G)
         | (with_reducible refine gn _ _ _ _ ?_; clear gn G)
         | (with_reducible refine Wr.mk ?_)
         | (with_reducible refine hn _ _ ?_; clear hn he hr K')
         | (with_reducible refine he _ _ _ ?_; clear hn he hr K')
         | (with_reducible refine hr _ _ ?_; clear hn he hr K')
         | (with_reducible refine Nd.mk trivial ?_)
         | (with_reducible refine Nd.mk (by decide) ?_)
         | (with_reducible refine Nd.mk ?_ ?_)
         | (with_reducible refine Leaf.mk rfl ?_)
         | (with_reducible refine LeafS.fin rfl ?_)
         | (with_reducible refine Fin.mk ?_ rfl)
         | (with_reducible refine Fin.mk ?_ ?_)
         | ((with_reducible refine Nx.mk ?_ ?_ ?_ ?_) <;> first | rfl | skip)
         | (with_reducible show Bo _ _)
         | (with_reducible show Br _ _ _)
         | (with_reducible show Eqn _ _ _)))
  have hn0 := hn
  have he0 := he
  have hr0 := hr
  clear hn he hr
  refine loop_of (fun i : Nat => [(0, .sl u8 xs .no), (2, .ptr 0 [] T48), (3, .ptr 1 [] T31), (5, .ptr 2 [] T48), (6, .int .i64 i)]) (fun i => [.var T48 (zeroA T48) false, .var T31 (zeroA T31) false, .var T48 (.arr 6 u8 ((decS xs).take i ++ List.replicate (6 - i) (.i 0))) false]) (fun i => i ≤ 6) (fun i => 6 - i) 0 rfl rfl (Nat.zero_le _) (fun _ _ => rfl) ?_
  intro i hi J hJ K' hn he hr
  repeat' (first
    | (with_reducible first | refine st_seq (fun K' hn he hr => ?_) | refine st_block (fun K' hn he hr => ?_) | refine st_region ?_ | refine st_draw ?_ | refine st_cond ?_ | refine st_skip ?_ | refine st_exit ?_ | refine st_ret ?_ | refine st_loop ?_ | refine st_op (fun G gn => ?_) | refine st_nil ?_ | refine st_gop ?_ | refine st_dop (fun G gn => ?_) | refine st_dnil ?_ | refine st_gdop ?_ | refine st_tl ?_)
    | (with_reducible refine gn _ _ ?_; clear gn G)
    | (with_reducible refine gn _ _ _ _ ?_; clear gn G)
    | (with_reducible refine Wr.mk ?_)
    | (with_reducible refine hn _ _ ?_; clear hn he hr K')
    | (with_reducible refine he _ _ _ ?_; clear hn he hr K')
    | (with_reducible refine hr _ _ ?_; clear hn he hr K')
    | ((with_reducible refine Eqn.mk (fun hq => ?_) ?_) <;> first | contradiction | skip)
    | (with_reducible refine Bo.yes (by decide) ?_)
    | (with_reducible refine Bo.no (by decide) ?_)
    | ((with_reducible refine Bo.gen (fun c hb => ?_)) <;> (try simp only [Nat.reduceAdd, toD, toDs, dInt, dBool, dStr, dList, dFs, dFld, List.getD_cons_zero, List.getD_cons_succ, Nat.zero_add, Int.reduceToNat] at hb) <;> (try simp only [cond_true, cond_false, toD, toDs, dInt, dBool, dStr, dList, dFs, dFld, List.getD_cons_zero, List.getD_cons_succ, Nat.zero_add, eqA, eqAs, decide_true, decide_false, beq_self_eq_true, Bool.not_true, Bool.not_false, Bool.and_true, Bool.true_and, Bool.and_self, cmpI, ↓reduceIte, Bool.false_eq_true, reduceCtorEq, Int.reduceEq, Int.reduceLT, Int.reduceLE, h2] at hb) <;> first | (obtain rfl : c = true := hb) | (obtain rfl : c = false := hb) | skip)
    | ((with_reducible refine Br.cs (fun hq => ?_) (fun hq => ?_)) <;> (try simp only [cond_true, cond_false, toD, toDs, dInt, dBool, dStr, dList, dFs, dFld, List.getD_cons_zero, List.getD_cons_succ, Nat.zero_add, eqA, eqAs, decide_true, decide_false, beq_self_eq_true, Bool.not_true, Bool.not_false, Bool.and_true, Bool.true_and, Bool.and_self, cmpI, ↓reduceIte, Bool.false_eq_true, reduceCtorEq, Int.reduceEq, Int.reduceLT, Int.reduceLE, h2] at hq) <;> first | contradiction | subst hq | skip)
    | (with_reducible refine Nd.mk trivial ?_)
    | (with_reducible refine Nd.mk (by decide) ?_)
    | (with_reducible refine Nd.mk ?_ ?_)
    | (with_reducible refine Leaf.mk rfl ?_)
    | (with_reducible refine LeafS.fin rfl ?_)
    | (with_reducible refine Fin.mk ?_ rfl)
    | (with_reducible refine Fin.mk ?_ ?_)
    | ((with_reducible refine Nx.mk ?_ ?_ ?_ ?_) <;> first | rfl | skip)
    | (conv => whnf
       first
         | (with_reducible refine gn _ _ ?_; clear gn G)
         | (with_reducible refine gn _ _ _ _ ?_; clear gn G)
         | (with_reducible refine Wr.mk ?_)
         | (with_reducible refine hn _ _ ?_; clear hn he hr K')
         | (with_reducible refine he _ _ _ ?_; clear hn he hr K')
         | (with_reducible refine hr _ _ ?_; clear hn he hr K')
         | (with_reducible refine Nd.mk trivial ?_)
         | (with_reducible refine Nd.mk (by decide) ?_)
         | (with_reducible refine Nd.mk ?_ ?_)
         | (with_reducible refine Leaf.mk rfl ?_)
         | (with_reducible refine LeafS.fin rfl ?_)
         | (with_reducible refine Fin.mk ?_ rfl)
         | (with_reducible refine Fin.mk ?_ ?_)
         | ((with_reducible refine Nx.mk ?_ ?_ ?_ ?_) <;> first | rfl | skip)
         | (with_reducible show Bo _ _)
         | (with_reducible show Br _ _ _)
         | (with_reducible show Eqn _ _ _)))
  · have := of_decide_eq_true hb.symm
    rw [wi64_in (by omega) (by omega)]
    omega
  · have := of_decide_eq_true hb.symm
    omega
  · have hlt : i < 6 := by have := of_decide_eq_true hb.symm; omega
    have w6 : IntKind.i64.wrap (6 + (i : Int)) = (6 + i : Nat) := wi64_in (by omega) (by omega)
    have hg : (decS xs).getD i (.i 0) = xs.getD (6 + i) (.i 0) := by
      rw [decS, List.getD_eq_getElem?_getD, List.getD_eq_getElem?_getD, List.getElem?_take, if_pos hlt, List.getElem?_drop]
    have hf := fill_set (decS xs) i (.i (xs.getD (6 + i) (.i 0)).int) hlt (by rw [decS_length h21]; exact hlt) (by rw [canon hx, hg])
    refine J_of (hJ (i + 1) (by omega) (by omega)) ?_ ?_
    · rw [wi64_in (by omega) (by omega)]
      rfl
    · rw [w6, ← hf]
      rfl
  · have : i = 6 := by
      have := of_decide_eq_false hb.symm
      omega
    subst this
    have e6 : (decS xs).take 6 ++ List.replicate (6 - 6) (D.i 0) = decS xs := by
      rw [List.take_of_length_le (by rw [decS_length h21]; omega)]
      simp
    rw [e6]
    refine he0 _ _ _ ?_
    clear he0 hn0 hr0
    repeat' (first
      | (with_reducible first | refine st_seq (fun K' hn he hr => ?_) | refine st_block (fun K' hn he hr => ?_) | refine st_region ?_ | refine st_draw ?_ | refine st_cond ?_ | refine st_skip ?_ | refine st_exit ?_ | refine st_ret ?_ | refine st_loop ?_ | refine st_op (fun G gn => ?_) | refine st_nil ?_ | refine st_gop ?_ | refine st_dop (fun G gn => ?_) | refine st_dnil ?_ | refine st_gdop ?_ | refine st_tl ?_)
      | (with_reducible refine gn _ _ ?_; clear gn G)
      | (with_reducible refine gn _ _ _ _ ?_; clear gn G)
      | (with_reducible refine Wr.mk ?_)
      | (with_reducible refine hn _ _ ?_; clear hn he hr K')
      | (with_reducible refine he _ _ _ ?_; clear hn he hr K')
      | (with_reducible refine hr _ _ ?_; clear hn he hr K')
      | ((with_reducible refine Eqn.mk (fun hq => ?_) ?_) <;> first | contradiction | skip)
      | (with_reducible refine Bo.yes (by decide) ?_)
      | (with_reducible refine Bo.no (by decide) ?_)
      | ((with_reducible refine Bo.gen (fun c hb => ?_)) <;> (try simp only [Nat.reduceAdd, toD, toDs, dInt, dBool, dStr, dList, dFs, dFld, List.getD_cons_zero, List.getD_cons_succ, Nat.zero_add, Int.reduceToNat] at hb) <;> (try simp only [cond_true, cond_false, toD, toDs, dInt, dBool, dStr, dList, dFs, dFld, List.getD_cons_zero, List.getD_cons_succ, Nat.zero_add, eqA, eqAs, decide_true, decide_false, beq_self_eq_true, Bool.not_true, Bool.not_false, Bool.and_true, Bool.true_and, Bool.and_self, cmpI, ↓reduceIte, Bool.false_eq_true, reduceCtorEq, Int.reduceEq, Int.reduceLT, Int.reduceLE, ha, h5, h4, hm, Int.toNat_natCast, Int.reduceToNat, Nat.reduceSub] at hb) <;> first | (obtain rfl : c = true := hb) | (obtain rfl : c = false := hb) | skip)
      | ((with_reducible refine Br.cs (fun hq => ?_) (fun hq => ?_)) <;> (try simp only [cond_true, cond_false, toD, toDs, dInt, dBool, dStr, dList, dFs, dFld, List.getD_cons_zero, List.getD_cons_succ, Nat.zero_add, eqA, eqAs, decide_true, decide_false, beq_self_eq_true, Bool.not_true, Bool.not_false, Bool.and_true, Bool.true_and, Bool.and_self, cmpI, ↓reduceIte, Bool.false_eq_true, reduceCtorEq, Int.reduceEq, Int.reduceLT, Int.reduceLE, ha, h5, h4, hm, Int.toNat_natCast, Int.reduceToNat, Nat.reduceSub] at hq) <;> first | contradiction | subst hq | skip)
      | (with_reducible refine Nd.mk trivial ?_)
      | (with_reducible refine Nd.mk (by decide) ?_)
      | (with_reducible refine Nd.mk ?_ ?_)
      | (with_reducible refine Leaf.mk rfl ?_)
      | (with_reducible refine LeafS.fin rfl ?_)
      | (with_reducible refine Fin.mk ?_ rfl)
      | (with_reducible refine Fin.mk ?_ ?_)
      | ((with_reducible refine Nx.mk ?_ ?_ ?_ ?_) <;> first | rfl | skip)
      | (conv => whnf
         first
           | (with_reducible refine gn _ _ ?_; clear gn G)
           | (with_reducible refine gn _ _ _ _ ?_; clear gn G)
           | (with_reducible refine Wr.mk ?_)
           | (with_reducible refine hn _ _ ?_; clear hn he hr K')
           | (with_reducible refine he _ _ _ ?_; clear hn he hr K')
           | (with_reducible refine hr _ _ ?_; clear hn he hr K')
           | (with_reducible refine Nd.mk trivial ?_)
           | (with_reducible refine Nd.mk (by decide) ?_)
           | (with_reducible refine Nd.mk ?_ ?_)
           | (with_reducible refine Leaf.mk rfl ?_)
           | (with_reducible refine LeafS.fin rfl ?_)
           | (with_reducible refine Fin.mk ?_ rfl)
           | (with_reducible refine Fin.mk ?_ ?_)
           | ((with_reducible refine Nx.mk ?_ ?_ ?_ ?_) <;> first | rfl | skip)
           | (with_reducible show Bo _ _)
           | (with_reducible show Br _ _ _)
           | (with_reducible show Eqn _ _ _)))
    all_goals first | rfl | omega | (unfold cutOK; omega) | (simp only [Int.toNat_natCast, Int.reduceToNat, h5]; rfl)
set_option maxRecDepth 20000 in
set_option maxHeartbeats 8000000 in
theorem decB {xs : List D} (hx : ∀ x ∈ xs, okD (.int .u8) x) (h21 : ¬ xs.length < 21) (ha : rdOK (xs.drop 17) = true) (hs0 : single (decS xs) = false) : Body orc nt_r05_Decode rs_r05_Decode ac_r05_Decode [.sl (.int .u8) xs .no] (.tup [macA six0, bpA bp0, .int .i64 50]) [] := by
  unfold ac_r05_Decode
  refine ⟨rfl, ?_⟩
  have hl : ¬ xs.length < 21 := h21
  have h2 : ¬ (xs.length : Int) < 21 := by omega
  have h4 : short (xs.drop 17) 4 = false := short_f.2 (by rw [List.length_drop]; omega)
  have h5 : List.take (xs.length - 17) (List.drop 17 xs) = List.drop 17 xs := take_drop_all xs 17
  have hm : fineB ⟨(rdM (xs.drop 17)).k, (rdM (xs.drop 17)).tc, (rdM (xs.drop 17)).ack, (rdM (xs.drop 17)).pr, (rdM (xs.drop 17)).le, (rdM (xs.drop 17)).fo, (rdM (xs.drop 17)).ag, (rdM (xs.drop 17)).ro, (rdM (xs.drop 17)).R, (rdM (xs.drop 17)).C, (rdM (xs.drop 17)).B, (rdM (xs.drop 17)).P, (rdM (xs.drop 17)).ta, (rdM (xs.drop 17)).tm, (rdM (xs.drop 17)).th, (rdM (xs.drop 17)).td⟩ = true := fine_rd _
  repeat' (first
    | (with_reducible first | refine st_seq (fun K' hn he hr => ?_) | refine st_block (fun K' hn he hr => ?_) | refine st_region ?_ | refine st_draw ?_ | refine st_cond ?_ | refine st_skip ?_ | refine st_exit ?_ | refine st_ret ?_ | refine st_loop ?_ | refine st_op (fun G gn => ?_) | refine st_nil ?_ | refine st_gop ?_ | refine st_dop (fun G gn => ?_) | refine st_dnil ?_ | refine st_gdop ?_ | refine st_tl ?_)
    | (with_reducible refine gn _ _ ?_; clear gn G)
    | (with_reducible refine gn _ _ _ _ ?_; clear gn G)
    | (with_reducible refine Wr.mk ?_)
    | (with_reducible refine hn _ _ ?_; clear hn he hr K')
    | (with_reducible refine he _ _ _ ?_; clear hn he hr K')
    | (with_reducible refine hr _ _ ?_; clear hn he hr K')
    | ((with_reducible refine Eqn.mk (fun hq => ?_) ?_) <;> first | contradiction | skip)
    | (with_reducible refine Bo.yes (by decide) ?_)
    | (with_reducible refine Bo.no (by decide) ?_)
    | ((with_reducible refine Bo.gen (fun c hb => ?_)) <;> (try simp only [Nat.reduceAdd, toD, toDs, dInt, dBool, dStr, dList, dFs, dFld, List.getD_cons_zero, List.getD_cons_succ, Nat.zero_add, Int.reduceToNat] at hb) <;> (try simp only [cond_true, cond_false, toD, toDs, dInt, dBool, dStr, dList, dFs, dFld, List.getD_cons_zero, List.getD_cons_succ, Nat.zero_add, eqA, eqAs, decide_true, decide_false, beq_self_eq_true, Bool.not_true, Bool.not_false, Bool.and_true, Bool.true_and, Bool.and_self, cmpI, ↓reduceIte, Bool.false_eq_true, reduceCtorEq, Int.reduceEq, Int.reduceLT, Int.reduceLE, h2] at hb) <;> first | (obtain rfl : c = true := hb) | (obtain rfl : c = false := hb) | skip)
    | ((with_reducible refine Br.cs (fun hq => ?_) (fun hq => ?_)) <;> (try simp only [cond_true, cond_false, toD, toDs, dInt, dBool, dStr, dList, dFs, dFld, List.getD_cons_zero, List.getD_cons_succ, Nat.zero_add, eqA, eqAs, decide_true, decide_false, beq_self_eq_true, Bool.not_true, Bool.not_false, Bool.and_true, Bool.true_and, Bool.and_self, cmpI, ↓reduceIte, Bool.false_eq_true, reduceCtorEq, Int.reduceEq, Int.reduceLT, Int.reduceLE, h2] at hq) <;> first | contradiction | subst hq | skip)
    | (with_reducible refine Nd.mk trivial ?_)
    | (with_reducible refine Nd.mk (by decide) ?_)
    | (with_reducible refine Nd.mk ?_ ?_)
    | (with_reducible refine Leaf.mk rfl ?_)
    | (with_reducible refine LeafS.fin rfl ?_)
    | (with_reducible refine Fin.mk ?_ rfl)
    | (with_reducible refine Fin.mk ?_ ?_)
    | ((with_reducible refine Nx.mk ?_ ?_ ?_ ?_) <;> first | rfl | skip)
    | (conv => whnf
       first
         | (with_reducible refine gn _ _ ?_; clear gn G)
         | (with_reducible refine gn _ _ _ _ ?_; clear gn G)
         | (with_reducible refine Wr.mk ?_)
         | (with_reducible refine hn _ _ ?_; clear hn he hr K')
         | (with_reducible refine he _ _ _ ?_; clear hn he hr K')
         | (with_reducible refine hr _ _ ?_; clear hn he hr K')
         | (with_reducible refine Nd.mk trivial ?_)
         | (with_reducible refine Nd.mk (by decide) ?_)
         | (with_reducible refine Nd.mk ?_ ?_)
         | (with_reducible refine Leaf.mk rfl ?_)
         | (with_reducible refine LeafS.fin rfl ?_)
         | (with_reducible refine Fin.mk ?_ rfl)
         | (with_reducible refine Fin.mk ?_ ?_)
         | ((with_reducible refine Nx.mk ?_ ?_ ?_ ?_) <;> first | rfl | skip)
         | (with_reducible show Bo _ _)
         | (with_reducible show Br _ _ _)
         | (with_reducible show Eqn _ _ _)))
  have hn0 := hn
  have he0 := he
  have hr0 := hr
  clear hn he hr
  refine loop_of (fun i : Nat => [(0, .sl u8 xs .no), (2, .ptr 0 [] T48), (3, .ptr 1 [] T31), (5, .ptr 2 [] T48), (6, .int .i64 i)]) (fun i => [.var T48 (zeroA T48) false, .var T31 (zeroA T31) false, .var T48 (.arr 6 u8 ((decS xs).take i ++ List.replicate (6 - i) (.i 0))) false]) (fun i => i ≤ 6) (fun i => 6 - i) 0 rfl rfl (Nat.zero_le _) (fun _ _ => rfl) ?_
  intro i hi J hJ K' hn he hr
  repeat' (first
    | (with_reducible first | refine st_seq (fun K' hn he hr => ?_) | refine st_block (fun K' hn he hr => ?_) | refine st_region ?_ | refine st_draw ?_ | refine st_cond ?_ | refine st_skip ?_ | refine st_exit ?_ | refine st_ret ?_ | refine st_loop ?_ | refine st_op (fun G gn => ?_) | refine st_nil ?_ | refine st_gop ?_ | refine st_dop (fun G gn => ?_) | refine st_dnil ?_ | refine st_gdop ?_ | refine st_tl ?_)
    | (with_reducible refine gn _ _ ?_; clear gn G)
    | (with_reducible refine gn _ _ _ _ ?_; clear gn G)
    | (with_reducible refine Wr.mk ?_)
    | (with_reducible refine hn _ _ ?_; clear hn he hr K')
    | (with_reducible refine he _ _ _ ?_; clear hn he hr K')
    | (with_reducible refine hr _ _ ?_; clear hn he hr K')
    | ((with_reducible refine Eqn.mk (fun hq => ?_) ?_) <;> first | contradiction | skip)
    | (with_reducible refine Bo.yes (by decide) ?_)
    | (with_reducible refine Bo.no (by decide) ?_)
    | ((with_reducible refine Bo.gen (fun c hb => ?_)) <;> (try simp only [Nat.reduceAdd, toD, toDs, dInt, dBool, dStr, dList, dFs, dFld, List.getD_cons_zero, List.getD_cons_succ, Nat.zero_add, Int.reduceToNat] at hb) <;> (try simp only [cond_true, cond_false, toD, toDs, dInt, dBool, dStr, dList, dFs, dFld, List.getD_cons_zero, List.getD_cons_succ, Nat.zero_add, eqA, eqAs, decide_true, decide_false, beq_self_eq_true, Bool.not_true, Bool.not_false, Bool.and_true, Bool.true_and, Bool.and_self, cmpI, ↓reduceIte, Bool.false_eq_true, reduceCtorEq, Int.reduceEq, Int.reduceLT, Int.reduceLE, h2] at hb) <;> first | (obtain rfl : c = true := hb) | (obtain rfl : c = false := hb) | skip)
    | ((with_reducible refine Br.cs (fun hq => ?_) (fun hq => ?_)) <;> (try simp only [cond_true, cond_false, toD, toDs, dInt, dBool, dStr, dList, dFs, dFld, List.getD_cons_zero, List.getD_cons_succ, Nat.zero_add, eqA, eqAs, decide_true, decide_false, beq_self_eq_true, Bool.not_true, Bool.not_false, Bool.and_true, Bool.true_and, Bool.and_self, cmpI, ↓reduceIte, Bool.false_eq_true, reduceCtorEq, Int.reduceEq, Int.reduceLT, Int.reduceLE, h2] at hq) <;> first | contradiction | subst hq | skip)
    | (with_reducible refine Nd.mk trivial ?_)
    | (with_reducible refine Nd.mk (by decide) ?_)
    | (with_reducible refine Nd.mk ?_ ?_)
    | (with_reducible refine Leaf.mk rfl ?_)
    | (with_reducible refine LeafS.fin rfl ?_)
    | (with_reducible refine Fin.mk ?_ rfl)
    | (with_reducible refine Fin.mk ?_ ?_)
    | ((with_reducible refine Nx.mk ?_ ?_ ?_ ?_) <;> first | rfl | skip)
    | (conv => whnf
       first
         | (with_reducible refine gn _ _ ?_; clear gn G)
         | (with_reducible refine gn _ _ _ _ ?_; clear gn G)
         | (with_reducible refine Wr.mk ?_)
         | (with_reducible refine hn _ _ ?_; clear hn he hr K')
         | (with_reducible refine he _ _ _ ?_; clear hn he hr K')
         | (with_reducible refine hr _ _ ?_; clear hn he hr K')
         | (with_reducible refine Nd.mk trivial ?_)
         | (with_reducible refine Nd.mk (by decide) ?_)
         | (with_reducible refine Nd.mk ?_ ?_)
         | (with_reducible refine Leaf.mk rfl ?_)
         | (with_reducible refine LeafS.fin rfl ?_)
         | (with_reducible refine Fin.mk ?_ rfl)
         | (with_reducible refine Fin.mk ?_ ?_)
         | ((with_reducible refine Nx.mk ?_ ?_ ?_ ?_) <;> first | rfl | skip)
         | (with_reducible show Bo _ _)
         | (with_reducible show Br _ _ _)
         | (with_reducible show Eqn _ _ _)))
  · have := of_decide_eq_true hb.symm
    rw [wi64_in (by omega) (by omega)]
    omega
  · have := of_decide_eq_true hb.symm
    omega
  · have hlt : i < 6 := by have := of_decide_eq_true hb.symm; omega
    have w6 : IntKind.i64.wrap (6 + (i : Int)) = (6 + i : Nat) := wi64_in (by omega) (by omega)
    have hg : (decS xs).getD i (.i 0) = xs.getD (6 + i) (.i 0) := by
      rw [decS, List.getD_eq_getElem?_getD, List.getD_eq_getElem?_getD, List.getElem?_take, if_pos hlt, List.getElem?_drop]
    have hf := fill_set (decS xs) i (.i (xs.getD (6 + i) (.i 0)).int) hlt (by rw [decS_length h21]; exact hlt) (by rw [canon hx, hg])
    refine J_of (hJ (i + 1) (by omega) (by omega)) ?_ ?_
    · rw [wi64_in (by omega) (by omega)]
      rfl
    · rw [w6, ← hf]
      rfl
  · have : i = 6 := by
      have := of_decide_eq_false hb.symm
      omega
    subst this
    have e6 : (decS xs).take 6 ++ List.replicate (6 - 6) (D.i 0) = decS xs := by
      rw [List.take_of_length_le (by rw [decS_length h21]; omega)]
      simp
    rw [e6]
    refine he0 _ _ _ ?_
    clear he0 hn0 hr0
    repeat' (first
      | (with_reducible first | refine st_seq (fun K' hn he hr => ?_) | refine st_block (fun K' hn he hr => ?_) | refine st_region ?_ | refine st_draw ?_ | refine st_cond ?_ | refine st_skip ?_ | refine st_exit ?_ | refine st_ret ?_ | refine st_loop ?_ | refine st_op (fun G gn => ?_) | refine st_nil ?_ | refine st_gop ?_ | refine st_dop (fun G gn => ?_) | refine st_dnil ?_ | refine st_gdop ?_ | refine st_tl ?_)
      | (with_reducible refine gn _ _ ?_; clear gn G)
      | (with_reducible refine gn _ _ _ _ ?_; clear gn G)
      | (with_reducible refine Wr.mk ?_)
      | (with_reducible refine hn _ _ ?_; clear hn he hr K')
      | (with_reducible refine he _ _ _ ?_; clear hn he hr K')
      | (with_reducible refine hr _ _ ?_; clear hn he hr K')
      | ((with_reducible refine Eqn.mk (fun hq => ?_) ?_) <;> first | contradiction | skip)
      | (with_reducible refine Bo.yes (by decide) ?_)
      | (with_reducible refine Bo.no (by decide) ?_)
      | ((with_reducible refine Bo.gen (fun c hb => ?_)) <;> (try simp only [Nat.reduceAdd, toD, toDs, dInt, dBool, dStr, dList, dFs, dFld, List.getD_cons_zero, List.getD_cons_succ, Nat.zero_add, Int.reduceToNat] at hb) <;> (try simp only [cond_true, cond_false, toD, toDs, dInt, dBool, dStr, dList, dFs, dFld, List.getD_cons_zero, List.getD_cons_succ, Nat.zero_add, eqA, eqAs, decide_true, decide_false, beq_self_eq_true, Bool.not_true, Bool.not_false, Bool.and_true, Bool.true_and, Bool.and_self, cmpI, ↓reduceIte, Bool.false_eq_true, reduceCtorEq, Int.reduceEq, Int.reduceLT, Int.reduceLE, ha, hs0, h5, h4, hm, Int.toNat_natCast, Int.reduceToNat, Nat.reduceSub] at hb) <;> first | (obtain rfl : c = true := hb) | (obtain rfl : c = false := hb) | skip)
      | ((with_reducible refine Br.cs (fun hq => ?_) (fun hq => ?_)) <;> (try simp only [cond_true, cond_false, toD, toDs, dInt, dBool, dStr, dList, dFs, dFld, List.getD_cons_zero, List.getD_cons_succ, Nat.zero_add, eqA, eqAs, decide_true, decide_false, beq_self_eq_true, Bool.not_true, Bool.not_false, Bool.and_true, Bool.true_and, Bool.and_self, cmpI, ↓reduceIte, Bool.false_eq_true, reduceCtorEq, Int.reduceEq, Int.reduceLT, Int.reduceLE, ha, hs0, h5, h4, hm, Int.toNat_natCast, Int.reduceToNat, Nat.reduceSub] at hq) <;> first | contradiction | subst hq | skip)
      | (with_reducible refine Nd.mk trivial ?_)
      | (with_reducible refine Nd.mk (by decide) ?_)
      | (with_reducible refine Nd.mk ?_ ?_)
      | (with_reducible refine Leaf.mk rfl ?_)
      | (with_reducible refine LeafS.fin rfl ?_)
      | (with_reducible refine Fin.mk ?_ rfl)
      | (with_reducible refine Fin.mk ?_ ?_)
      | ((with_reducible refine Nx.mk ?_ ?_ ?_ ?_) <;> first | rfl | skip)
      | (conv => whnf
         first
           | (with_reducible refine gn _ _ ?_; clear gn G)
           | (with_reducible refine gn _ _ _ _ ?_; clear gn G)
           | (with_reducible refine Wr.mk ?_)
           | (with_reducible refine hn _ _ ?_; clear hn he hr K')
           | (with_reducible refine he _ _ _ ?_; clear hn he hr K')
           | (with_reducible refine hr _ _ ?_; clear hn he hr K')
           | (with_reducible refine Nd.mk trivial ?_)
           | (with_reducible refine Nd.mk (by decide) ?_)
           | (with_reducible refine Nd.mk ?_ ?_)
           | (with_reducible refine Leaf.mk rfl ?_)
           | (with_reducible refine LeafS.fin rfl ?_)
           | (with_reducible refine Fin.mk ?_ rfl)
           | (with_reducible refine Fin.mk ?_ ?_)
           | ((with_reducible refine Nx.mk ?_ ?_ ?_ ?_) <;> first | rfl | skip)
           | (with_reducible show Bo _ _)
           | (with_reducible show Br _ _ _)
           | (with_reducible show Eqn _ _ _)))
    all_goals first | rfl | omega | (unfold cutOK; omega) | (simp only [Int.toNat_natCast, Int.reduceToNat, h5]; rfl)
set_option maxRecDepth 20000 in
set_option maxHeartbeats 8000000 in
theorem decC {xs : List D} (hx : ∀ x ∈ xs, okD (.int .u8) x) (h21 : ¬ xs.length < 21) (ha : rdOK (xs.drop 17) = true) (hs0 : single (decS xs) = true) (hs : sameB (bEnc (decS xs) (decM xs)) xs = true) : Body orc nt_r05_Decode rs_r05_Decode ac_r05_Decode [.sl (.int .u8) xs .no] (.tup [macA (decS xs), bpA (decM xs), .int .i64 0]) [] := by
  have hqe : (bytesOf (bEnc (decS xs) ⟨(rdM (xs.drop 17)).k, (rdM (xs.drop 17)).tc, (rdM (xs.drop 17)).ack, (rdM (xs.drop 17)).pr, (rdM (xs.drop 17)).le, (rdM (xs.drop 17)).fo, (rdM (xs.drop 17)).ag, (rdM (xs.drop 17)).ro, (rdM (xs.drop 17)).R, (rdM (xs.drop 17)).C, (rdM (xs.drop 17)).B, (rdM (xs.drop 17)).P, (rdM (xs.drop 17)).ta, (rdM (xs.drop 17)).tm, (rdM (xs.drop 17)).th, (rdM (xs.drop 17)).td⟩) = bytesOf xs) = True := eq_true (of_decide_eq_true hs)
  unfold ac_r05_Decode
  refine ⟨rfl, ?_⟩
  have hl : ¬ xs.length < 21 := h21
  have h2 : ¬ (xs.length : Int) < 21 := by omega
  have h4 : short (xs.drop 17) 4 = false := short_f.2 (by rw [List.length_drop]; omega)
  have h5 : List.take (xs.length - 17) (List.drop 17 xs) = List.drop 17 xs := take_drop_all xs 17
  have hm : fineB ⟨(rdM (xs.drop 17)).k, (rdM (xs.drop 17)).tc, (rdM (xs.drop 17)).ack, (rdM (xs.drop 17)).pr, (rdM (xs.drop 17)).le, (rdM (xs.drop 17)).fo, (rdM (xs.drop 17)).ag, (rdM (xs.drop 17)).ro, (rdM (xs.drop 17)).R, (rdM (xs.drop 17)).C, (rdM (xs.drop 17)).B, (rdM (xs.drop 17)).P, (rdM (xs.drop 17)).ta, (rdM (xs.drop 17)).tm, (rdM (xs.drop 17)).th, (rdM (xs.drop 17)).td⟩ = true := fine_rd _
  repeat' (first
    | (with_reducible first | refine st_seq (fun K' hn he hr => ?_) | refine st_block (fun K' hn he hr => ?_) | refine st_region ?_ | refine st_draw ?_ | refine st_cond ?_ | refine st_skip ?_ | refine st_exit ?_ | refine st_ret ?_ | refine st_loop ?_ | refine st_op (fun G gn => ?_) | refine st_nil ?_ | refine st_gop ?_ | refine st_dop (fun G gn => ?_) | refine st_dnil ?_ | refine st_gdop ?_ | refine st_tl ?_)
    | (with_reducible refine gn _ _ ?_; clear gn G)
    | (with_reducible refine gn _ _ _ _ ?_; clear gn G)
    | (with_reducible refine Wr.mk ?_)
    | (with_reducible refine hn _ _ ?_; clear hn he hr K')
    | (with_reducible refine he _ _ _ ?_; clear hn he hr K')
    | (with_reducible refine hr _ _ ?_; clear hn he hr K')
    | ((with_reducible refine Eqn.mk (fun hq => ?_) ?_) <;> first | contradiction | skip)
    | (with_reducible refine Bo.yes (by decide) ?_)
    | (with_reducible refine Bo.no (by decide) ?_)
    | ((with_reducible refine Bo.gen (fun c hb => ?_)) <;> (try simp only [Nat.reduceAdd, toD, toDs, dInt, dBool, dStr, dList, dFs, dFld, List.getD_cons_zero, List.getD_cons_succ, Nat.zero_add, Int.reduceToNat] at hb) <;> (try simp only [cond_true, cond_false, toD, toDs, dInt, dBool, dStr, dList, dFs, dFld, List.getD_cons_zero, List.getD_cons_succ, Nat.zero_add, eqA, eqAs, decide_true, decide_false, beq_self_eq_true, Bool.not_true, Bool.not_false, Bool.and_true, Bool.true_and, Bool.and_self, cmpI, ↓reduceIte, Bool.false_eq_true, reduceCtorEq, Int.reduceEq, Int.reduceLT, Int.reduceLE, h2] at hb) <;> first | (obtain rfl : c = true := hb) | (obtain rfl : c = false := hb) | skip)
    | ((with_reducible refine Br.cs (fun hq => ?_) (fun hq => ?_)) <;> (try simp only [cond_true, cond_false, toD, toDs, dInt, dBool, dStr, dList, dFs, dFld, List.getD_cons_zero, List.getD_cons_succ, Nat.zero_add, eqA, eqAs, decide_true, decide_false, beq_self_eq_true, Bool.not_true, Bool.not_false, Bool.and_true, Bool.true_and, Bool.and_self, cmpI, ↓reduceIte, Bool.false_eq_true, reduceCtorEq, Int.reduceEq, Int.reduceLT, Int.reduceLE, h2] at hq) <;> first | contradiction | subst hq | skip)
    | (with_reducible refine Nd.mk trivial ?_)
    | (with_reducible refine Nd.mk (by decide) ?_)
    | (with_reducible refine Nd.mk ?_ ?_)
    | (with_reducible refine Leaf.mk rfl ?_)
    | (with_reducible refine LeafS.fin rfl ?_)
    | (with_reducible refine Fin.mk ?_ rfl)
    | (with_reducible refine Fin.mk ?_ ?_)
    | ((with_reducible refine Nx.mk ?_ ?_ ?_ ?_) <;> first | rfl | skip)
    | (conv => whnf
       first
         | (with_reducible refine gn _ _ ?_; clear gn G)
         | (with_reducible refine gn _ _ _ _ ?_; clear gn G)
         | (with_reducible refine Wr.mk ?_)
         | (with_reducible refine hn _ _ ?_; clear hn he hr K')
         | (with_reducible refine he _ _ _ ?_; clear hn he hr K')
         | (with_reducible refine hr _ _ ?_; clear hn he hr K')
         | (with_reducible refine Nd.mk trivial ?_)
         | (with_reducible refine Nd.mk (by decide) ?_)
         | (with_reducible refine Nd.mk ?_ ?_)
         | (with_reducible refine Leaf.mk rfl ?_)
         | (with_reducible refine LeafS.fin rfl ?_)
         | (with_reducible refine Fin.mk ?_ rfl)
         | (with_reducible refine Fin.mk ?_ ?_)
         | ((with_reducible refine Nx.mk ?_ ?_ ?_ ?_) <;> first | rfl | skip)
         | (with_reducible show Bo _ _)
         | (with_reducible show Br _ _ _)
         | (with_reducible show Eqn _ _ _)))
  have hn0 := hn
  have he0 := he
  have hr0 := hr
  clear hn he hr
  refine loop_of (fun i : Nat => [(0, .sl u8 xs .no), (2, .ptr 0 [] T48), (3, .ptr 1 [] T31), (5, .ptr 2 [] T48), (6, .int .i64 i)]) (fun i => [.var T48 (zeroA T48) false, .var T31 (zeroA T31) false, .var T48 (.arr 6 u8 ((decS xs).take i ++ List.replicate (6 - i) (.i 0))) false]) (fun i => i ≤ 6) (fun i => 6 - i) 0 rfl rfl (Nat.zero_le _) (fun _ _ => rfl) ?_
  intro i hi J hJ K' hn he hr
  repeat' (first
    | (with_reducible first | refine st_seq (fun K' hn he hr => ?_) | refine st_block (fun K' hn he hr => ?_) | refine st_region ?_ | refine st_draw ?_ | refine st_cond ?_ | refine st_skip ?_ | refine st_exit ?_ | refine st_ret ?_ | refine st_loop ?_ | refine st_op (fun G gn => ?_) | refine st_nil ?_ | refine st_gop ?_ | refine st_dop (fun G gn => ?_) | refine st_dnil ?_ | refine st_gdop ?_ | refine st_tl ?_)
    | (with_reducible refine gn _ _ ?_; clear gn G)
    | (with_reducible refine gn _ _ _ _ ?_; clear gn G)
    | (with_reducible refine Wr.mk ?_)
    | (with_reducible refine hn _ _ ?_; clear hn he hr K')
    | (with_reducible refine he _ _ _ ?_; clear hn he hr K')
    | (with_reducible refine hr _ _ ?_; clear hn he hr K')
    | ((with_reducible refine Eqn.mk (fun hq => ?_) ?_) <;> first | contradiction | skip)
    | (with_reducible refine Bo.yes (by decide) ?_)
    | (with_reducible refine Bo.no (by decide) ?_)
    | ((with_reducible refine Bo.gen (fun c hb => ?_)) <;> (try simp only [Nat.reduceAdd, toD, toDs, dInt, dBool, dStr, dList, dFs, dFld, List.getD_cons_zero, List.getD_cons_succ, Nat.zero_add, Int.reduceToNat] at hb) <;> (try simp only [cond_true, cond_false, toD, toDs, dInt, dBool, dStr, dList, dFs, dFld, List.getD_cons_zero, List.getD_cons_succ, Nat.zero_add, eqA, eqAs, decide_true, decide_false, beq_self_eq_true, Bool.not_true, Bool.not_false, Bool.and_true, Bool.true_and, Bool.and_self, cmpI, ↓reduceIte, Bool.false_eq_true, reduceCtorEq, Int.reduceEq, Int.reduceLT, Int.reduceLE, h2] at hb) <;> first | (obtain rfl : c = true := hb) | (obtain rfl : c = false := hb) | skip)
    | ((with_reducible refine Br.cs (fun hq => ?_) (fun hq => ?_)) <;> (try simp only [cond_true, cond_false, toD, toDs, dInt, dBool, dStr, dList, dFs, dFld, List.getD_cons_zero, List.getD_cons_succ, Nat.zero_add, eqA, eqAs, decide_true, decide_false, beq_self_eq_true, Bool.not_true, Bool.not_false, Bool.and_true, Bool.true_and, Bool.and_self, cmpI, ↓reduceIte, Bool.false_eq_true, reduceCtorEq, Int.reduceEq, Int.reduceLT, Int.reduceLE, h2] at hq) <;> first | contradiction | subst hq | skip)
    | (with_reducible refine Nd.mk trivial ?_)
    | (with_reducible refine Nd.mk (by decide) ?_)
    | (with_reducible refine Nd.mk ?_ ?_)
    | (with_reducible refine Leaf.mk rfl ?_)
    | (with_reducible refine LeafS.fin rfl ?_)
    | (with_reducible refine Fin.mk ?_ rfl)
    | (with_reducible refine Fin.mk ?_ ?_)
    | ((with_reducible refine Nx.mk ?_ ?_ ?_ ?_) <;> first | rfl | skip)
    | (conv => whnf
       first
         | (with_reducible refine gn _ _ ?_; clear gn G)
         | (with_reducible refine gn _ _ _ _ ?_; clear gn G)
         | (with_reducible refine Wr.mk ?_)
         | (with_reducible refine hn _ _ ?_; clear hn he hr K')
         | (with_reducible refine he _ _ _ ?_; clear hn he hr K')
         | (with_reducible refine hr _ _ ?_; clear hn he hr K')
         | (with_reducible refine Nd.mk trivial ?_)
         | (with_reducible refine Nd.mk (by decide) ?_)
         | (with_reducible refine Nd.mk ?_ ?_)
         | (with_reducible refine Leaf.mk rfl ?_)
         | (with_reducible refine LeafS.fin rfl ?_)
         | (with_reducible refine Fin.mk ?_ rfl)
         | (with_reducible refine Fin.mk ?_ ?_)
         | ((with_reducible refine Nx.mk ?_ ?_ ?_ ?_) <;> first | rfl | skip)
         | (with_reducible show Bo _ _)
         | (with_reducible show Br _ _ _)
         | (with_reducible show Eqn _ _ _)))
  · have := of_decide_eq_true hb.symm
    rw [wi64_in (by omega) (by omega)]
    omega
  · have := of_decide_eq_true hb.symm
    omega
  · have hlt : i < 6 := by have := of_decide_eq_true hb.symm; omega
    have w6 : IntKind.i64.wrap (6 + (i : Int)) = (6 + i : Nat) := wi64_in (by omega) (by omega)
    have hg : (decS xs).getD i (.i 0) = xs.getD (6 + i) (.i 0) := by
      rw [decS, List.getD_eq_getElem?_getD, List.getD_eq_getElem?_getD, List.getElem?_take, if_pos hlt, List.getElem?_drop]
    have hf := fill_set (decS xs) i (.i (xs.getD (6 + i) (.i 0)).int) hlt (by rw [decS_length h21]; exact hlt) (by rw [canon hx, hg])
    refine J_of (hJ (i + 1) (by omega) (by omega)) ?_ ?_
    · rw [wi64_in (by omega) (by omega)]
      rfl
    · rw [w6, ← hf]
      rfl
  · have : i = 6 := by
      have := of_decide_eq_false hb.symm
      omega
    subst this
    have e6 : (decS xs).take 6 ++ List.replicate (6 - 6) (D.i 0) = decS xs := by
      rw [List.take_of_length_le (by rw [decS_length h21]; omega)]
      simp
    rw [e6]
    refine he0 _ _ _ ?_
    clear he0 hn0 hr0
    repeat' (first
      | (with_reducible first | refine st_seq (fun K' hn he hr => ?_) | refine st_block (fun K' hn he hr => ?_) | refine st_region ?_ | refine st_draw ?_ | refine st_cond ?_ | refine st_skip ?_ | refine st_exit ?_ | refine st_ret ?_ | refine st_loop ?_ | refine st_op (fun G gn => ?_) | refine st_nil ?_ | refine st_gop ?_ | refine st_dop (fun G gn => ?_) | refine st_dnil ?_ | refine st_gdop ?_ | refine st_tl ?_)
      | (with_reducible refine gn _ _ ?_; clear gn G)
      | (with_reducible refine gn _ _ _ _ ?_; clear gn G)
      | (with_reducible refine Wr.mk ?_)
      | (with_reducible refine hn _ _ ?_; clear hn he hr K')
      | (with_reducible refine he _ _ _ ?_; clear hn he hr K')
      | (with_reducible refine hr _ _ ?_; clear hn he hr K')
      | ((with_reducible refine Eqn.mk (fun hq => ?_) ?_) <;> first | contradiction | skip)
      | (with_reducible refine Bo.yes (by decide) ?_)
      | (with_reducible refine Bo.no (by decide) ?_)
      | ((with_reducible refine Bo.gen (fun c hb => ?_)) <;> (try simp only [Nat.reduceAdd, toD, toDs, dInt, dBool, dStr, dList, dFs, dFld, List.getD_cons_zero, List.getD_cons_succ, Nat.zero_add, Int.reduceToNat] at hb) <;> (try simp only [cond_true, cond_false, toD, toDs, dInt, dBool, dStr, dList, dFs, dFld, List.getD_cons_zero, List.getD_cons_succ, Nat.zero_add, eqA, eqAs, decide_true, decide_false, beq_self_eq_true, Bool.not_true, Bool.not_false, Bool.and_true, Bool.true_and, Bool.and_self, cmpI, ↓reduceIte, Bool.false_eq_true, reduceCtorEq, Int.reduceEq, Int.reduceLT, Int.reduceLE, ha, hs0, hqe, h5, h4, hm, Int.toNat_natCast, Int.reduceToNat, Nat.reduceSub] at hb) <;> first | (obtain rfl : c = true := hb) | (obtain rfl : c = false := hb) | skip)
      | ((with_reducible refine Br.cs (fun hq => ?_) (fun hq => ?_)) <;> (try simp only [cond_true, cond_false, toD, toDs, dInt, dBool, dStr, dList, dFs, dFld, List.getD_cons_zero, List.getD_cons_succ, Nat.zero_add, eqA, eqAs, decide_true, decide_false, beq_self_eq_true, Bool.not_true, Bool.not_false, Bool.and_true, Bool.true_and, Bool.and_self, cmpI, ↓reduceIte, Bool.false_eq_true, reduceCtorEq, Int.reduceEq, Int.reduceLT, Int.reduceLE, ha, hs0, hqe, h5, h4, hm, Int.toNat_natCast, Int.reduceToNat, Nat.reduceSub] at hq) <;> first | contradiction | subst hq | skip)
      | (with_reducible refine Nd.mk trivial ?_)
      | (with_reducible refine Nd.mk (by decide) ?_)
      | (with_reducible refine Nd.mk ?_ ?_)
      | (with_reducible refine Leaf.mk rfl ?_)
      | (with_reducible refine LeafS.fin rfl ?_)
      | (with_reducible refine Fin.mk ?_ rfl)
      | (with_reducible refine Fin.mk ?_ ?_)
      | ((with_reducible refine Nx.mk ?_ ?_ ?_ ?_) <;> first | rfl | skip)
      | (conv => whnf
         first
           | (with_reducible refine gn _ _ ?_; clear gn G)
           | (with_reducible refine gn _ _ _ _ ?_; clear gn G)
           | (with_reducible refine Wr.mk ?_)
           | (with_reducible refine hn _ _ ?_; clear hn he hr K')
           | (with_reducible refine he _ _ _ ?_; clear hn he hr K')
           | (with_reducible refine hr _ _ ?_; clear hn he hr K')
           | (with_reducible refine Nd.mk trivial ?_)
           | (with_reducible refine Nd.mk (by decide) ?_)
           | (with_reducible refine Nd.mk ?_ ?_)
           | (with_reducible refine Leaf.mk rfl ?_)
           | (with_reducible refine LeafS.fin rfl ?_)
           | (with_reducible refine Fin.mk ?_ rfl)
           | (with_reducible refine Fin.mk ?_ ?_)
           | ((with_reducible refine Nx.mk ?_ ?_ ?_ ?_) <;> first | rfl | skip)
           | (with_reducible show Bo _ _)
           | (with_reducible show Br _ _ _)
           | (with_reducible show Eqn _ _ _)))
    all_goals first | rfl | omega | (unfold cutOK; omega) | (simp only [Int.toNat_natCast, Int.reduceToNat, h5]; rfl)
set_option maxRecDepth 20000 in
set_option maxHeartbeats 8000000 in
theorem decD {xs : List D} (hx : ∀ x ∈ xs, okD (.int .u8) x) (h21 : ¬ xs.length < 21) (ha : rdOK (xs.drop 17) = true) (hs0 : single (decS xs) = true) (hs : sameB (bEnc (decS xs) (decM xs)) xs = false) : Body orc nt_r05_Decode rs_r05_Decode ac_r05_Decode [.sl (.int .u8) xs .no] (.tup [macA six0, bpA bp0, .int .i64 50]) [] := by
  have hqe : (bytesOf (bEnc (decS xs) ⟨(rdM (xs.drop 17)).k, (rdM (xs.drop 17)).tc, (rdM (xs.drop 17)).ack, (rdM (xs.drop 17)).pr, (rdM (xs.drop 17)).le, (rdM (xs.drop 17)).fo, (rdM (xs.drop 17)).ag, (rdM (xs.drop 17)).ro, (rdM (xs.drop 17)).R, (rdM (xs.drop 17)).C, (rdM (xs.drop 17)).B, (rdM (xs.drop 17)).P, (rdM (xs.drop 17)).ta, (rdM (xs.drop 17)).tm, (rdM (xs.drop 17)).th, (rdM (xs.drop 17)).td⟩) = bytesOf xs) = False := eq_false (of_decide_eq_false hs)
  unfold ac_r05_Decode
  refine ⟨rfl, ?_⟩
  have hl : ¬ xs.length < 21 := h21
  have h2 : ¬ (xs.length : Int) < 21 := by omega
  have h4 : short (xs.drop 17) 4 = false := short_f.2 (by rw [List.length_drop]; omega)
  have h5 : List.take (xs.length - 17) (List.drop 17 xs) = List.drop 17 xs := take_drop_all xs 17
  have hm : fineB ⟨(rdM (xs.drop 17)).k, (rdM (xs.drop 17)).tc, (rdM (xs.drop 17)).ack, (rdM (xs.drop 17)).pr, (rdM (xs.drop 17)).le, (rdM (xs.drop 17)).fo, (rdM (xs.drop 17)).ag, (rdM (xs.drop 17)).ro, (rdM (xs.drop 17)).R, (rdM (xs.drop 17)).C, (rdM (xs.drop 17)).B, (rdM (xs.drop 17)).P, (rdM (xs.drop 17)).ta, (rdM (xs.drop 17)).tm, (rdM (xs.drop 17)).th, (rdM (xs.drop 17)).td⟩ = true := fine_rd _
  repeat' (first
    | (with_reducible first | refine st_seq (fun K' hn he hr => ?_) | refine st_block (fun K' hn he hr => ?_) | refine st_region ?_ | refine st_draw ?_ | refine st_cond ?_ | refine st_skip ?_ | refine st_exit ?_ | refine st_ret ?_ | refine st_loop ?_ | refine st_op (fun G gn => ?_) | refine st_nil ?_ | refine st_gop ?_ | refine st_dop (fun G gn => ?_) | refine st_dnil ?_ | refine st_gdop ?_ | refine st_tl ?_)
    | (with_reducible refine gn _ _ ?_; clear gn G)
    | (with_reducible refine gn _ _ _ _ ?_; clear gn G)
    | (with_reducible refine Wr.mk ?_)
    | (with_reducible refine hn _ _ ?_; clear hn he hr K')
    | (with_reducible refine he _ _ _ ?_; clear hn he hr K')
    | (with_reducible refine hr _ _ ?_; clear hn he hr K')
    | ((with_reducible refine Eqn.mk (fun hq => ?_) ?_) <;> first | contradiction | skip)
    | (with_reducible refine Bo.yes (by decide) ?_)
    | (with_reducible refine Bo.no (by decide) ?_)
    | ((with_reducible refine Bo.gen (fun c hb => ?_)) <;> (try simp only [Nat.reduceAdd, toD, toDs, dInt, dBool, dStr, dList, dFs, dFld, List.getD_cons_zero, List.getD_cons_succ, Nat.zero_add, Int.reduceToNat] at hb) <;> (try simp only [cond_true, cond_false, toD, toDs, dInt, dBool, dStr, dList, dFs, dFld, List.getD_cons_zero, List.getD_cons_succ, Nat.zero_add, eqA, eqAs, decide_true, decide_false, beq_self_eq_true, Bool.not_true, Bool.not_false, Bool.and_true, Bool.true_and, Bool.and_self, cmpI, ↓reduceIte, Bool.false_eq_true, reduceCtorEq, Int.reduceEq, Int.reduceLT, Int.reduceLE, h2] at hb) <;> first | (obtain rfl : c = true := hb) | (obtain rfl : c = false := hb) | skip)
    | ((with_reducible refine Br.cs (fun hq => ?_) (fun hq => ?_)) <;> (try simp only [cond_true, cond_false, toD, toDs, dInt, dBool, dStr, dList, dFs, dFld, List.getD_cons_zero, List.getD_cons_succ, Nat.zero_add, eqA, eqAs, decide_true, decide_false, beq_self_eq_true, Bool.not_true, Bool.not_false, Bool.and_true, Bool.true_and, Bool.and_self, cmpI, ↓reduceIte, Bool.false_eq_true, reduceCtorEq, Int.reduceEq, Int.reduceLT, Int.reduceLE, h2] at hq) <;> first | contradiction | subst hq | skip)
    | (with_reducible refine Nd.mk trivial ?_)
    | (with_reducible refine Nd.mk (by decide) ?_)
    | (with_reducible refine Nd.mk ?_ ?_)
    | (with_reducible refine Leaf.mk rfl ?_)
    | (with_reducible refine LeafS.fin rfl ?_)
    | (with_reducible refine Fin.mk ?_ rfl)
    | (with_reducible refine Fin.mk ?_ ?_)
    | ((with_reducible refine Nx.mk ?_ ?_ ?_ ?_) <;> first | rfl | skip)
    | (conv => whnf
       first
         | (with_reducible refine gn _ _ ?_; clear gn G)
         | (with_reducible refine gn _ _ _ _ ?_; clear gn G)
         | (with_reducible refine Wr.mk ?_)
         | (with_reducible refine hn _ _ ?_; clear hn he hr K')
         | (with_reducible refine he _ _ _ ?_; clear hn he hr K')
         | (with_reducible refine hr _ _ ?_; clear hn he hr K')
         | (with_reducible refine Nd.mk trivial ?_)
         | (with_reducible refine Nd.mk (by decide) ?_)
         | (with_reducible refine Nd.mk ?_ ?_)
         | (with_reducible refine Leaf.mk rfl ?_)
         | (with_reducible refine LeafS.fin rfl ?_)
         | (with_reducible refine Fin.mk ?_ rfl)
         | (with_reducible refine Fin.mk ?_ ?_)
         | ((with_reducible refine Nx.mk ?_ ?_ ?_ ?_) <;> first | rfl | skip)
         | (with_reducible show Bo _ _)
         | (with_reducible show Br _ _ _)
         | (with_reducible show Eqn _ _ _)))
  have hn0 := hn
  have he0 := he
  have hr0 := hr
  clear hn he hr
  refine loop_of (fun i : Nat => [(0, .sl u8 xs .no), (2, .ptr 0 [] T48), (3, .ptr 1 [] T31), (5, .ptr 2 [] T48), (6, .int .i64 i)]) (fun i => [.var T48 (zeroA T48) false, .var T31 (zeroA T31) false, .var T48 (.arr 6 u8 ((decS xs).take i ++ List.replicate (6 - i) (.i 0))) false]) (fun i => i ≤ 6) (fun i => 6 - i) 0 rfl rfl (Nat.zero_le _) (fun _ _ => rfl) ?_
  intro i hi J hJ K' hn he hr
  repeat' (first
    | (with_reducible first | refine st_seq (fun K' hn he hr => ?_) | refine st_block (fun K' hn he hr => ?_) | refine st_region ?_ | refine st_draw ?_ | refine st_cond ?_ | refine st_skip ?_ | refine st_exit ?_ | refine st_ret ?_ | refine st_loop ?_ | refine st_op (fun G gn => ?_) | refine st_nil ?_ | refine st_gop ?_ | refine st_dop (fun G gn => ?_) | refine st_dnil ?_ | refine st_gdop ?_ | refine st_tl ?_)
    | (with_reducible refine gn _ _ ?_; clear gn G)
    | (with_reducible refine gn _ _ _ _ ?_; clear gn G)
    | (with_reducible refine Wr.mk ?_)
    | (with_reducible refine hn _ _ ?_; clear hn he hr K')
    | (with_reducible refine he _ _ _ ?_; clear hn he hr K')
    | (with_reducible refine hr _ _ ?_; clear hn he hr K')
    | ((with_reducible refine Eqn.mk (fun hq => ?_) ?_) <;> first | contradiction | skip)
    | (with_reducible refine Bo.yes (by decide) ?_)
    | (with_reducible refine Bo.no (by decide) ?_)
    | ((with_reducible refine Bo.gen (fun c hb => ?_)) <;> (try simp only [Nat.reduceAdd, toD, toDs, dInt, dBool, dStr, dList, dFs, dFld, List.getD_cons_zero, List.getD_cons_succ, Nat.zero_add, Int.reduceToNat] at hb) <;> (try simp only [cond_true, cond_false, toD, toDs, dInt, dBool, dStr, dList, dFs, dFld, List.getD_cons_zero, List.getD_cons_succ, Nat.zero_add, eqA, eqAs, decide_true, decide_false, beq_self_eq_true, Bool.not_true, Bool.not_false, Bool.and_true, Bool.true_and, Bool.and_self, cmpI, ↓reduceIte, Bool.false_eq_true, reduceCtorEq, Int.reduceEq, Int.reduceLT, Int.reduceLE, h2] at hb) <;> first | (obtain rfl : c = true := hb) | (obtain rfl : c = false := hb) | skip)
    | ((with_reducible refine Br.cs (fun hq => ?_) (fun hq => ?_)) <;> (try simp only [cond_true, cond_false, toD, toDs, dInt, dBool, dStr, dList, dFs, dFld, List.getD_cons_zero, List.getD_cons_succ, Nat.zero_add, eqA, eqAs, decide_true, decide_false, beq_self_eq_true, Bool.not_true, Bool.not_false, Bool.and_true, Bool.true_and, Bool.and_self, cmpI, ↓reduceIte, Bool.false_eq_true, reduceCtorEq, Int.reduceEq, Int.reduceLT, Int.reduceLE, h2] at hq) <;> first | contradiction | subst hq | skip)
    | (with_reducible refine Nd.mk trivial ?_)
    | (with_reducible refine Nd.mk (by decide) ?_)
    | (with_reducible refine Nd.mk ?_ ?_)
    | (with_reducible refine Leaf.mk rfl ?_)
    | (with_reducible refine LeafS.fin rfl ?_)
    | (with_reducible refine Fin.mk ?_ rfl)
    | (with_reducible refine Fin.mk ?_ ?_)
    | ((with_reducible refine Nx.mk ?_ ?_ ?_ ?_) <;> first | rfl | skip)
    | (conv => whnf
       first
         | (with_reducible refine gn _ _ ?_; clear gn G)
         | (with_reducible refine gn _ _ _ _ ?_; clear gn G)
         | (with_reducible refine Wr.mk ?_)
         | (with_reducible refine hn _ _ ?_; clear hn he hr K')
         | (with_reducible refine he _ _ _ ?_; clear hn he hr K')
         | (with_reducible refine hr _ _ ?_; clear hn he hr K')
         | (with_reducible refine Nd.mk trivial ?_)
         | (with_reducible refine Nd.mk (by decide) ?_)
         | (with_reducible refine Nd.mk ?_ ?_)
         | (with_reducible refine Leaf.mk rfl ?_)
         | (with_reducible refine LeafS.fin rfl ?_)
         | (with_reducible refine Fin.mk ?_ rfl)
         | (with_reducible refine Fin.mk ?_ ?_)
         | ((with_reducible refine Nx.mk ?_ ?_ ?_ ?_) <;> first | rfl | skip)
         | (with_reducible show Bo _ _)
         | (with_reducible show Br _ _ _)
         | (with_reducible show Eqn _ _ _)))
  · have := of_decide_eq_true hb.symm
    rw [wi64_in (by omega) (by omega)]
    omega
  · have := of_decide_eq_true hb.symm
    omega
  · have hlt : i < 6 := by have := of_decide_eq_true hb.symm; omega
    have w6 : IntKind.i64.wrap (6 + (i : Int)) = (6 + i : Nat) := wi64_in (by omega) (by omega)
    have hg : (decS xs).getD i (.i 0) = xs.getD (6 + i) (.i 0) := by
      rw [decS, List.getD_eq_getElem?_getD, List.getD_eq_getElem?_getD, List.getElem?_take, if_pos hlt, List.getElem?_drop]
    have hf := fill_set (decS xs) i (.i (xs.getD (6 + i) (.i 0)).int) hlt (by rw [decS_length h21]; exact hlt) (by rw [canon hx, hg])
    refine J_of (hJ (i + 1) (by omega) (by omega)) ?_ ?_
    · rw [wi64_in (by omega) (by omega)]
      rfl
    · rw [w6, ← hf]
      rfl
  · have : i = 6 := by
      have := of_decide_eq_false hb.symm
      omega
    subst this
    have e6 : (decS xs).take 6 ++ List.replicate (6 - 6) (D.i 0) = decS xs := by
      rw [List.take_of_length_le (by rw [decS_length h21]; omega)]
      simp
    rw [e6]
    refine he0 _ _ _ ?_
    clear he0 hn0 hr0
    repeat' (first
      | (with_reducible first | refine st_seq (fun K' hn he hr => ?_) | refine st_block (fun K' hn he hr => ?_) | refine st_region ?_ | refine st_draw ?_ | refine st_cond ?_ | refine st_skip ?_ | refine st_exit ?_ | refine st_ret ?_ | refine st_loop ?_ | refine st_op (fun G gn => ?_) | refine st_nil ?_ | refine st_gop ?_ | refine st_dop (fun G gn => ?_) | refine st_dnil ?_ | refine st_gdop ?_ | refine st_tl ?_)
      | (with_reducible refine gn _ _ ?_; clear gn G)
      | (with_reducible refine gn _ _ _ _ ?_; clear gn G)
      | (with_reducible refine Wr.mk ?_)
      | (with_reducible refine hn _ _ ?_; clear hn he hr K')
      | (with_reducible refine he _ _ _ ?_; clear hn he hr K')
      | (with_reducible refine hr _ _ ?_; clear hn he hr K')
      | ((with_reducible refine Eqn.mk (fun hq => ?_) ?_) <;> first | contradiction | skip)
      | (with_reducible refine Bo.yes (by decide) ?_)
      | (with_reducible refine Bo.no (by decide) ?_)
      | ((with_reducible refine Bo.gen (fun c hb => ?_)) <;> (try simp only [Nat.reduceAdd, toD, toDs, dInt, dBool, dStr, dList, dFs, dFld, List.getD_cons_zero, List.getD_cons_succ, Nat.zero_add, Int.reduceToNat] at hb) <;> (try simp only [cond_true, cond_false, toD, toDs, dInt, dBool, dStr, dList, dFs, dFld, List.getD_cons_zero, List.getD_cons_succ, Nat.zero_add, eqA, eqAs, decide_true, decide_false, beq_self_eq_true, Bool.not_true, Bool.not_false, Bool.and_true, Bool.true_and, Bool.and_self, cmpI, ↓reduceIte, Bool.false_eq_true, reduceCtorEq, Int.reduceEq, Int.reduceLT, Int.reduceLE, ha, hs0, hqe, h5, h4, hm, Int.toNat_natCast, Int.reduceToNat, Nat.reduceSub] at hb) <;> first | (obtain rfl : c = true := hb) | (obtain rfl : c = false := hb) | skip)
      | ((with_reducible refine Br.cs (fun hq => ?_) (fun hq => ?_)) <;> (try simp only [cond_true, cond_false, toD, toDs, dInt, dBool, dStr, dList, dFs, dFld, List.getD_cons_zero, List.getD_cons_succ, Nat.zero_add, eqA, eqAs, decide_true, decide_false, beq_self_eq_true, Bool.not_true, Bool.not_false, Bool.and_true, Bool.true_and, Bool.and_self, cmpI, ↓reduceIte, Bool.false_eq_true, reduceCtorEq, Int.reduceEq, Int.reduceLT, Int.reduceLE, ha, hs0, hqe, h5, h4, hm, Int.toNat_natCast, Int.reduceToNat, Nat.reduceSub] at hq) <;> first | contradiction | subst hq | skip)
      | (with_reducible refine Nd.mk trivial ?_)
      | (with_reducible refine Nd.mk (by decide) ?_)
      | (with_reducible refine Nd.mk ?_ ?_)
      | (with_reducible refine Leaf.mk rfl ?_)
      | (with_reducible refine LeafS.fin rfl ?_)
      | (with_reducible refine Fin.mk ?_ rfl)
      | (with_reducible refine Fin.mk ?_ ?_)
      | ((with_reducible refine Nx.mk ?_ ?_ ?_ ?_) <;> first | rfl | skip)
      | (conv => whnf
         first
           | (with_reducible refine gn _ _ ?_; clear gn G)
           | (with_reducible refine gn _ _ _ _ ?_; clear gn G)
           | (with_reducible refine Wr.mk ?_)
           | (with_reducible refine hn _ _ ?_; clear hn he hr K')
           | (with_reducible refine he _ _ _ ?_; clear hn he hr K')
           | (with_reducible refine hr _ _ ?_; clear hn he hr K')
           | (with_reducible refine Nd.mk trivial ?_)
           | (with_reducible refine Nd.mk (by decide) ?_)
           | (with_reducible refine Nd.mk ?_ ?_)
           | (with_reducible refine Leaf.mk rfl ?_)
           | (with_reducible refine LeafS.fin rfl ?_)
           | (with_reducible refine Fin.mk ?_ rfl)
           | (with_reducible refine Fin.mk ?_ ?_)
           | ((with_reducible refine Nx.mk ?_ ?_ ?_ ?_) <;> first | rfl | skip)
           | (with_reducible show Bo _ _)
           | (with_reducible show Br _ _ _)
           | (with_reducible show Eqn _ _ _)))
    all_goals first | rfl | omega | (unfold cutOK; omega) | (simp only [Int.toNat_natCast, Int.reduceToNat, h5]; rfl)
theorem decSh {xs : List D} (h : xs.length < 21) : Body orc nt_r05_Decode rs_r05_Decode ac_r05_Decode [.sl (.int .u8) xs .no] (.tup [macA six0, bpA bp0, .int .i64 6]) [] := by
  unfold ac_r05_Decode
  refine ⟨rfl, ?_⟩
  have h2 : (xs.length : Int) < 21 := by omega
  repeat' (first
    | (with_reducible first | refine st_seq (fun K' hn he hr => ?_) | refine st_block (fun K' hn he hr => ?_) | refine st_region ?_ | refine st_draw ?_ | refine st_cond ?_ | refine st_skip ?_ | refine st_exit ?_ | refine st_ret ?_ | refine st_loop ?_ | refine st_op (fun G gn => ?_) | refine st_nil ?_ | refine st_gop ?_ | refine st_dop (fun G gn => ?_) | refine st_dnil ?_ | refine st_gdop ?_ | refine st_tl ?_)
    | (with_reducible refine gn _ _ ?_; clear gn G)
    | (with_reducible refine gn _ _ _ _ ?_; clear gn G)
    | (with_reducible refine Wr.mk ?_)
    | (with_reducible refine hn _ _ ?_; clear hn he hr K')
    | (with_reducible refine he _ _ _ ?_; clear hn he hr K')
    | (with_reducible refine hr _ _ ?_; clear hn he hr K')
    | ((with_reducible refine Eqn.mk (fun hq => ?_) ?_) <;> first | contradiction | skip)
    | (with_reducible refine Bo.yes (by decide) ?_)
    | (with_reducible refine Bo.no (by decide) ?_)
    | ((with_reducible refine Bo.gen (fun c hb => ?_)) <;> (try simp only [Nat.reduceAdd, toD, toDs, dInt, dBool, dStr, dList, dFs, dFld, List.getD_cons_zero, List.getD_cons_succ, Nat.zero_add, Int.reduceToNat] at hb) <;> (try simp only [cond_true, cond_false, toD, toDs, dInt, dBool, dStr, dList, dFs, dFld, List.getD_cons_zero, List.getD_cons_succ, Nat.zero_add, eqA, eqAs, decide_true, decide_false, beq_self_eq_true, Bool.not_true, Bool.not_false, Bool.and_true, Bool.true_and, Bool.and_self, cmpI, ↓reduceIte, Bool.false_eq_true, reduceCtorEq, Int.reduceEq, Int.reduceLT, Int.reduceLE, h2] at hb) <;> first | (obtain rfl : c = true := hb) | (obtain rfl : c = false := hb) | skip)
    | ((with_reducible refine Br.cs (fun hq => ?_) (fun hq => ?_)) <;> (try simp only [cond_true, cond_false, toD, toDs, dInt, dBool, dStr, dList, dFs, dFld, List.getD_cons_zero, List.getD_cons_succ, Nat.zero_add, eqA, eqAs, decide_true, decide_false, beq_self_eq_true, Bool.not_true, Bool.not_false, Bool.and_true, Bool.true_and, Bool.and_self, cmpI, ↓reduceIte, Bool.false_eq_true, reduceCtorEq, Int.reduceEq, Int.reduceLT, Int.reduceLE, h2] at hq) <;> first | contradiction | subst hq | skip)
    | (with_reducible refine Nd.mk trivial ?_)
    | (with_reducible refine Nd.mk (by decide) ?_)
    | (with_reducible refine Nd.mk ?_ ?_)
    | (with_reducible refine Leaf.mk rfl ?_)
    | (with_reducible refine LeafS.fin rfl ?_)
    | (with_reducible refine Fin.mk ?_ rfl)
    | (with_reducible refine Fin.mk ?_ ?_)
    | ((with_reducible refine Nx.mk ?_ ?_ ?_ ?_) <;> first | rfl | skip)
    | (conv => whnf
       first
         | (with_reducible refine gn _ _ ?_; clear gn G)
         | (with_reducible refine gn _ _ _ _ ?_; clear gn G)
         | (with_reducible refine Wr.mk ?_)
         | (with_reducible refine hn _ _ ?_; clear hn he hr K')
         | (with_reducible refine he _ _ _ ?_; clear hn he hr K')
         | (with_reducible refine hr _ _ ?_; clear hn he hr K')
         | (with_reducible refine Nd.mk trivial ?_)
         | (with_reducible refine Nd.mk (by decide) ?_)
         | (with_reducible refine Nd.mk ?_ ?_)
         | (with_reducible refine Leaf.mk rfl ?_)
         | (with_reducible refine LeafS.fin rfl ?_)
         | (with_reducible refine Fin.mk ?_ rfl)
         | (with_reducible refine Fin.mk ?_ ?_)
         | ((with_reducible refine Nx.mk ?_ ?_ ?_ ?_) <;> first | rfl | skip)
         | (with_reducible show Bo _ _)
         | (with_reducible show Br _ _ _)
         | (with_reducible show Eqn _ _ _)))
  all_goals rfl
theorem pok_r05_Decode : POK prog orc f_r05_Decode := by
  refine pok_of ok_r05_Decode mixed (by simp [ac_r05_Decode, acP, callsP, pok_r05_Read, pok_r05_Encode]) (by simp [ac_r05_Decode, acS, callsS]) fun args hok => ?_
  show Fits orc nt_r05_Decode rs_r05_Decode ac_r05_Decode args (pBpDec args)
  unfold ac_r05_Decode
  unfold pBpDec
  split
  · rename_i xs
    simp only [okAs, okA, maxLen] at hok
    have hx := hok.1.2
    refine ⟨fun h => decSh (short_iff.1 h), fun h => ?_⟩
    have h1 := short_f.1 h
    cases ha : rdOK (xs.drop 17)
    · have hd : decOK xs = false := by rw [decOK, ha]; rfl
      exact ⟨fun hr => absurd (hr.symm.trans hd) (by decide), fun hr => decA hx h1 ha⟩
    · cases hs0 : single (decS xs)
      · have hd : decOK xs = false := by rw [decOK, ha, hs0]; rfl
        exact ⟨fun hr => absurd (hr.symm.trans hd) (by decide), fun hr => decB hx h1 ha hs0⟩
      · have hd : decOK xs = sameB (bEnc (decS xs) (decM xs)) xs := by rw [decOK, ha, hs0]; rfl
        exact ⟨fun hr => decC hx h1 ha hs0 (hd.symm.trans hr), fun hr => decD hx h1 ha hs0 (hd.symm.trans hr)⟩
  · trivial
end Go.Vc.Seat
