/- A part of the proof of the seat's laws: PfPbb9. It states no claim by itself. -/
import Derived.Test.YtdhfofnfhlnjbaaPfPbb8
set_option linter.unusedVariables false
set_option linter.unusedSimpArgs false
namespace Go.Vc.Seat
open Go.Vc Go.Proofs.Try
theorem ato_take {xs : List D} {n i : Nat} (h : i < n) : ato (xs.take n) i = ato xs i := by
  unfold ato
  rw [List.getD_eq_getElem?_getD, List.getD_eq_getElem?_getD, List.getElem?_take_of_lt h]
theorem ato_drop {xs : List D} {n i : Nat} : ato (xs.drop n) i = ato xs (n + i) := by
  unfold ato
  rw [List.getD_eq_getElem?_getD, List.getD_eq_getElem?_getD, List.getElem?_drop]
theorem bdOK_eq (xs : List D) : bdOK xs = (ty16 xs && tagOK (n2 (xs.drop 14) / 8192) (n2 (xs.drop 14) % 4096) && isZ (ato xs 18 % 8) && isZ (bfChk (xs.take 6) ((xs.drop 6).take 6) (n2 (xs.drop 14) / 8192) (decide (n2 (xs.drop 14) / 4096 % 2 = 1)) (n2 (xs.drop 14) % 4096) (ato xs 18 / 32) (decide (ato xs 18 / 16 % 2 = 1)) (decide (ato xs 18 / 8 % 2 = 1)) (ato xs 19 * 65536 + ato xs 20 * 256 + ato xs 21) ((xs.drop 22).take 6) ((xs.drop 28).take 6) (xs.drop 34))) := rfl
set_option maxRecDepth 20000 in
set_option maxHeartbeats 8000000 in
theorem pok_pbb_Decode : POK prog orc f_pbb_Decode := by
  refine pok_of ok_pbb_Decode mixed (by simp [ac_pbb_Decode, acP, callsP, pok_tag_Take, pok_tag_TakeI, pok_slices_Clone_u8, pok_pbb_Check]) (by simp [ac_pbb_Decode, acS, callsS, sok_pbb_walk_address, sok_pbb_walk_kind, sok_pbb_left_cut]) fun args hok => ?_
  show Fits orc nt_pbb_Decode rs_pbb_Decode ac_pbb_Decode args (pBfDec args)
  unfold ac_pbb_Decode
  unfold pBfDec
  split
  · rename_i xs
    simp only [okAs, okA, maxLen] at hok
    refine ⟨fun h1 => ⟨rfl, ?_⟩, fun h1 => ⟨fun h2 hc => ⟨rfl, ?_⟩, fun h2 => ⟨fun h3 => ⟨rfl, ?_⟩, fun h3 => ⟨rfl, ?_⟩⟩⟩⟩
    all_goals simp only [Bool.not_eq_true', Bool.not_eq_false', short_iff, short_f] at *
    · have l1 : (xs.length : Int) < 36 := by omega
      repeat' (first
        | (with_reducible first | refine st_seq (fun K' hn he hr => ?_) | refine st_block (fun K' hn he hr => ?_) | refine st_region ?_ | refine st_draw ?_ | refine st_cond ?_ | refine st_skip ?_ | refine st_exit ?_ | refine st_ret ?_ | refine st_loop ?_ | refine st_op (fun G gn => ?_) | refine st_nil ?_ | refine st_gop ?_ | refine st_dop (fun G gn => ?_) | refine st_dnil ?_ | refine st_gdop ?_ | refine st_tl ?_)
        | (with_reducible refine gn _ _ ?_; clear gn G)
        | (with_reducible refine gn _ _ _ _ ?_; clear gn G)
        | (with_reducible refine Wr.mk ?_)
        | (with_reducible refine hn _ _ ?_; clear hn he hr K')
        | (with_reducible refine he _ _ _ ?_; clear hn he hr K')
        | (with_reducible refine hr _ _ ?_; clear hn he hr K')
        | ((with_reducible refine Eqn.mk (fun hq => ?_) ?_) <;> first | contradiction | skip)
        | (with_reducible refine Bo.yes (by decide) ?_)
        | (with_reducible refine Bo.no (by decide) ?_)
        | ((with_reducible refine Bo.gen (fun c hb => ?_)) <;> (try simp only [Nat.reduceAdd, toD, toDs, dInt, dBool, dStr, dList, dFs, dFld, List.getD_cons_zero, List.getD_cons_succ, Nat.zero_add, Int.reduceToNat] at hb) <;> (try simp only [cond_true, cond_false, toD, toDs, dInt, dBool, dStr, dList, dFs, dFld, List.getD_cons_zero, List.getD_cons_succ, Nat.zero_add, eqA, eqAs, decide_true, decide_false, beq_self_eq_true, Bool.not_true, Bool.not_false, Bool.and_true, Bool.true_and, Bool.and_self, cmpI, ↓reduceIte, Bool.false_eq_true, reduceCtorEq, Int.reduceEq, Int.reduceLT, Int.reduceLE, l1] at hb) <;> first | (obtain rfl : c = true := hb) | (obtain rfl : c = false := hb) | skip)
        | ((with_reducible refine Br.cs (fun hq => ?_) (fun hq => ?_)) <;> (try simp only [cond_true, cond_false, toD, toDs, dInt, dBool, dStr, dList, dFs, dFld, List.getD_cons_zero, List.getD_cons_succ, Nat.zero_add, eqA, eqAs, decide_true, decide_false, beq_self_eq_true, Bool.not_true, Bool.not_false, Bool.and_true, Bool.true_and, Bool.and_self, cmpI, ↓reduceIte, Bool.false_eq_true, reduceCtorEq, Int.reduceEq, Int.reduceLT, Int.reduceLE, l1] at hq) <;> first | contradiction | subst hq | skip)
        | (with_reducible refine Nd.mk trivial ?_)
        | (with_reducible refine Nd.mk (by decide) ?_)
        | (with_reducible refine Nd.mk ?_ ?_)
        | (with_reducible refine Leaf.mk rfl ?_)
        | (with_reducible refine LeafS.fin rfl ?_)
        | (with_reducible refine Fin.mk ?_ rfl)
        | (with_reducible refine Fin.mk ?_ ?_)
        | ((with_reducible refine Nx.mk ?_ ?_ ?_ ?_) <;> first | rfl | skip)
        | (conv => whnf
           first
             | (with_reducible refine gn _ _ ?_; clear gn G)
             | (with_reducible refine gn _ _ _ _ ?_; clear gn G)
             | (with_reducible refine Wr.mk ?_)
             | (with_reducible refine hn _ _ ?_; clear hn he hr K')
             | (with_reducible refine he _ _ _ ?_; clear hn he hr K')
             | (with_reducible refine hr _ _ ?_; clear hn he hr K')
             | (with_reducible refine Nd.mk trivial ?_)
             | (with_reducible refine Nd.mk (by decide) ?_)
             | (with_reducible refine Nd.mk ?_ ?_)
             | (with_reducible refine Leaf.mk rfl ?_)
             | (with_reducible refine LeafS.fin rfl ?_)
             | (with_reducible refine Fin.mk ?_ rfl)
             | (with_reducible refine Fin.mk ?_ ?_)
             | ((with_reducible refine Nx.mk ?_ ?_ ?_ ?_) <;> first | rfl | skip)
             | (with_reducible show Bo _ _)
             | (with_reducible show Br _ _ _)
             | (with_reducible show Eqn _ _ _)))
      all_goals first | rfl | omega
    · have l1 : ¬ (xs.length : Int) < 36 := by omega
      have l2 : 1536 < (xs.length : Int) := by omega
      repeat' (first
        | (with_reducible first | refine st_seq (fun K' hn he hr => ?_) | refine st_block (fun K' hn he hr => ?_) | refine st_region ?_ | refine st_draw ?_ | refine st_cond ?_ | refine st_skip ?_ | refine st_exit ?_ | refine st_ret ?_ | refine st_loop ?_ | refine st_op (fun G gn => ?_) | refine st_nil ?_ | refine st_gop ?_ | refine st_dop (fun G gn => ?_) | refine st_dnil ?_ | refine st_gdop ?_ | refine st_tl ?_)
        | (with_reducible refine gn _ _ ?_; clear gn G)
        | (with_reducible refine gn _ _ _ _ ?_; clear gn G)
        | (with_reducible refine Wr.mk ?_)
        | (with_reducible refine hn _ _ ?_; clear hn he hr K')
        | (with_reducible refine he _ _ _ ?_; clear hn he hr K')
        | (with_reducible refine hr _ _ ?_; clear hn he hr K')
        | ((with_reducible refine Eqn.mk (fun hq => ?_) ?_) <;> first | contradiction | skip)
        | (with_reducible refine Bo.yes (by decide) ?_)
        | (with_reducible refine Bo.no (by decide) ?_)
        | ((with_reducible refine Bo.gen (fun c hb => ?_)) <;> (try simp only [Nat.reduceAdd, toD, toDs, dInt, dBool, dStr, dList, dFs, dFld, List.getD_cons_zero, List.getD_cons_succ, Nat.zero_add, Int.reduceToNat] at hb) <;> (try simp only [cond_true, cond_false, toD, toDs, dInt, dBool, dStr, dList, dFs, dFld, List.getD_cons_zero, List.getD_cons_succ, Nat.zero_add, eqA, eqAs, decide_true, decide_false, beq_self_eq_true, Bool.not_true, Bool.not_false, Bool.and_true, Bool.true_and, Bool.and_self, cmpI, ↓reduceIte, Bool.false_eq_true, reduceCtorEq, Int.reduceEq, Int.reduceLT, Int.reduceLE, l1, l2] at hb) <;> first | (obtain rfl : c = true := hb) | (obtain rfl : c = false := hb) | skip)
        | ((with_reducible refine Br.cs (fun hq => ?_) (fun hq => ?_)) <;> (try simp only [cond_true, cond_false, toD, toDs, dInt, dBool, dStr, dList, dFs, dFld, List.getD_cons_zero, List.getD_cons_succ, Nat.zero_add, eqA, eqAs, decide_true, decide_false, beq_self_eq_true, Bool.not_true, Bool.not_false, Bool.and_true, Bool.true_and, Bool.and_self, cmpI, ↓reduceIte, Bool.false_eq_true, reduceCtorEq, Int.reduceEq, Int.reduceLT, Int.reduceLE, l1, l2] at hq) <;> first | contradiction | subst hq | skip)
        | (with_reducible refine Nd.mk trivial ?_)
        | (with_reducible refine Nd.mk (by decide) ?_)
        | (with_reducible refine Nd.mk ?_ ?_)
        | (with_reducible refine Leaf.mk rfl ?_)
        | (with_reducible refine LeafS.fin rfl ?_)
        | (with_reducible refine Fin.mk ?_ rfl)
        | (with_reducible refine Fin.mk ?_ ?_)
        | ((with_reducible refine Nx.mk ?_ ?_ ?_ ?_) <;> first | rfl | skip)
        | (conv => whnf
           first
             | (with_reducible refine gn _ _ ?_; clear gn G)
             | (with_reducible refine gn _ _ _ _ ?_; clear gn G)
             | (with_reducible refine Wr.mk ?_)
             | (with_reducible refine hn _ _ ?_; clear hn he hr K')
             | (with_reducible refine he _ _ _ ?_; clear hn he hr K')
             | (with_reducible refine hr _ _ ?_; clear hn he hr K')
             | (with_reducible refine Nd.mk trivial ?_)
             | (with_reducible refine Nd.mk (by decide) ?_)
             | (with_reducible refine Nd.mk ?_ ?_)
             | (with_reducible refine Leaf.mk rfl ?_)
             | (with_reducible refine LeafS.fin rfl ?_)
             | (with_reducible refine Fin.mk ?_ rfl)
             | (with_reducible refine Fin.mk ?_ ?_)
             | ((with_reducible refine Nx.mk ?_ ?_ ?_ ?_) <;> first | rfl | skip)
             | (with_reducible show Bo _ _)
             | (with_reducible show Br _ _ _)
             | (with_reducible show Eqn _ _ _)))
      all_goals first | rfl | omega
    · have l1 : ¬ (xs.length : Int) < 36 := by omega
      have l2 : ¬ 1536 < (xs.length : Int) := by omega
      have k0 : decide ((List.take 2 (List.drop 14 xs)).length < 2) = false := by simp; omega
      have k1 : ato (List.take 2 (List.drop 14 xs)) 0 * 256 + ato (List.take 2 (List.drop 14 xs)) 1 = n2 (List.drop 14 xs) := by unfold n2; rw [ato_take (by omega), ato_take (by omega)]
      have k2 : decide ((List.take 16 (List.drop 18 xs)).length < 16) = false := by simp; omega
      have k3 : ato (List.take 16 (List.drop 18 xs)) 0 = ato xs 18 := by rw [ato_take (by omega), ato_drop]
      have k4 : ato (List.take 16 (List.drop 18 xs)) 1 = ato xs 19 := by rw [ato_take (by omega), ato_drop]
      have k5 : ato (List.take 16 (List.drop 18 xs)) 2 = ato xs 20 := by rw [ato_take (by omega), ato_drop]
      have k6 : ato (List.take 16 (List.drop 18 xs)) 3 = ato xs 21 := by rw [ato_take (by omega), ato_drop]
      have k7 : List.take 6 (List.drop 4 (List.take 16 (List.drop 18 xs))) = List.take 6 (List.drop 22 xs) := by rw [List.drop_take, List.drop_drop, List.take_take]; rfl
      have k8 : List.take 6 (List.drop 10 (List.take 16 (List.drop 18 xs))) = List.take 6 (List.drop 28 xs) := by rw [List.drop_take, List.drop_drop, List.take_take]; rfl
      rw [bdOK_eq] at h3
      simp only [Bool.and_eq_true, ty16, decide_eq_true_eq] at h3
      obtain ⟨⟨⟨⟨t1, t2⟩, tk⟩, i8⟩, hz⟩ := h3
      have hz := isZ_iff.1 hz
      have i8' : decide (ato xs 18 % 8 = 0) = true := i8
      repeat' (first
        | (with_reducible first | refine st_seq (fun K' hn he hr => ?_) | refine st_block (fun K' hn he hr => ?_) | refine st_region ?_ | refine st_draw ?_ | refine st_cond ?_ | refine st_skip ?_ | refine st_exit ?_ | refine st_ret ?_ | refine st_loop ?_ | refine st_op (fun G gn => ?_) | refine st_nil ?_ | refine st_gop ?_ | refine st_dop (fun G gn => ?_) | refine st_dnil ?_ | refine st_gdop ?_ | refine st_tl ?_)
        | (with_reducible refine gn _ _ ?_; clear gn G)
        | (with_reducible refine gn _ _ _ _ ?_; clear gn G)
        | (with_reducible refine Wr.mk ?_)
        | (with_reducible refine hn _ _ ?_; clear hn he hr K')
        | (with_reducible refine he _ _ _ ?_; clear hn he hr K')
        | (with_reducible refine hr _ _ ?_; clear hn he hr K')
        | ((with_reducible refine Eqn.mk (fun hq => ?_) ?_) <;> first | contradiction | skip)
        | (with_reducible refine Bo.yes (by decide) ?_)
        | (with_reducible refine Bo.no (by decide) ?_)
        | ((with_reducible refine Bo.gen (fun c hb => ?_)) <;> (try simp only [Nat.reduceAdd, toD, toDs, dInt, dBool, dStr, dList, dFs, dFld, List.getD_cons_zero, List.getD_cons_succ, Nat.zero_add, Int.reduceToNat] at hb) <;> (try simp only [cond_true, cond_false, toD, toDs, dInt, dBool, dStr, dList, dFs, dFld, List.getD_cons_zero, List.getD_cons_succ, Nat.zero_add, eqA, eqAs, decide_true, decide_false, beq_self_eq_true, Bool.not_true, Bool.not_false, Bool.and_true, Bool.true_and, Bool.and_self, cmpI, ↓reduceIte, Bool.false_eq_true, reduceCtorEq, Int.reduceEq, Int.reduceLT, Int.reduceLE, t1, t2, tk, i8', hz, k0, k1, k2, k3, k4, k5, k6, k7, k8, l1, l2, Int.reduceToNat, List.drop_drop, Nat.reduceAdd, decide_true, eq_self, Bool.not_true, Bool.or_false] at hb) <;> first | (obtain rfl : c = true := hb) | (obtain rfl : c = false := hb) | skip)
        | ((with_reducible refine Br.cs (fun hq => ?_) (fun hq => ?_)) <;> (try simp only [cond_true, cond_false, toD, toDs, dInt, dBool, dStr, dList, dFs, dFld, List.getD_cons_zero, List.getD_cons_succ, Nat.zero_add, eqA, eqAs, decide_true, decide_false, beq_self_eq_true, Bool.not_true, Bool.not_false, Bool.and_true, Bool.true_and, Bool.and_self, cmpI, ↓reduceIte, Bool.false_eq_true, reduceCtorEq, Int.reduceEq, Int.reduceLT, Int.reduceLE, t1, t2, tk, i8', hz, k0, k1, k2, k3, k4, k5, k6, k7, k8, l1, l2, Int.reduceToNat, List.drop_drop, Nat.reduceAdd, decide_true, eq_self, Bool.not_true, Bool.or_false] at hq) <;> first | contradiction | subst hq | skip)
        | (with_reducible refine Nd.mk trivial ?_)
        | (with_reducible refine Nd.mk (by decide) ?_)
        | (with_reducible refine Nd.mk ?_ ?_)
        | (with_reducible refine Leaf.mk rfl ?_)
        | (with_reducible refine LeafS.fin rfl ?_)
        | (with_reducible refine Fin.mk ?_ rfl)
        | (with_reducible refine Fin.mk ?_ ?_)
        | ((with_reducible refine Nx.mk ?_ ?_ ?_ ?_) <;> first | rfl | skip)
        | (conv => whnf
           first
             | (with_reducible refine gn _ _ ?_; clear gn G)
             | (with_reducible refine gn _ _ _ _ ?_; clear gn G)
             | (with_reducible refine Wr.mk ?_)
             | (with_reducible refine hn _ _ ?_; clear hn he hr K')
             | (with_reducible refine he _ _ _ ?_; clear hn he hr K')
             | (with_reducible refine hr _ _ ?_; clear hn he hr K')
             | (with_reducible refine Nd.mk trivial ?_)
             | (with_reducible refine Nd.mk (by decide) ?_)
             | (with_reducible refine Nd.mk ?_ ?_)
             | (with_reducible refine Leaf.mk rfl ?_)
             | (with_reducible refine LeafS.fin rfl ?_)
             | (with_reducible refine Fin.mk ?_ rfl)
             | (with_reducible refine Fin.mk ?_ ?_)
             | ((with_reducible refine Nx.mk ?_ ?_ ?_ ?_) <;> first | rfl | skip)
             | (with_reducible show Bo _ _)
             | (with_reducible show Br _ _ _)
             | (with_reducible show Eqn _ _ _)))
      all_goals (try simp only [Int.reduceToNat, List.drop_drop, Nat.reduceAdd, k3, k4, k5, k6, k7, k8])
      all_goals (try rw [k1])
      all_goals first
        | rfl
        | omega
        | (simp only [List.length_drop, List.length_take]; omega)
        | (simp only [List.length_drop]; done)
    · have l1 : ¬ (xs.length : Int) < 36 := by omega
      have l2 : ¬ 1536 < (xs.length : Int) := by omega
      have k0 : decide ((List.take 2 (List.drop 14 xs)).length < 2) = false := by simp; omega
      have k1 : ato (List.take 2 (List.drop 14 xs)) 0 * 256 + ato (List.take 2 (List.drop 14 xs)) 1 = n2 (List.drop 14 xs) := by unfold n2; rw [ato_take (by omega), ato_take (by omega)]
      have k2 : decide ((List.take 16 (List.drop 18 xs)).length < 16) = false := by simp; omega
      have k3 : ato (List.take 16 (List.drop 18 xs)) 0 = ato xs 18 := by rw [ato_take (by omega), ato_drop]
      have k4 : ato (List.take 16 (List.drop 18 xs)) 1 = ato xs 19 := by rw [ato_take (by omega), ato_drop]
      have k5 : ato (List.take 16 (List.drop 18 xs)) 2 = ato xs 20 := by rw [ato_take (by omega), ato_drop]
      have k6 : ato (List.take 16 (List.drop 18 xs)) 3 = ato xs 21 := by rw [ato_take (by omega), ato_drop]
      have k7 : List.take 6 (List.drop 4 (List.take 16 (List.drop 18 xs))) = List.take 6 (List.drop 22 xs) := by rw [List.drop_take, List.drop_drop, List.take_take]; rfl
      have k8 : List.take 6 (List.drop 10 (List.take 16 (List.drop 18 xs))) = List.take 6 (List.drop 28 xs) := by rw [List.drop_take, List.drop_drop, List.take_take]; rfl
      rw [bdOK_eq] at h3
      by_cases t1 : n2 (xs.drop 12) = 34984
      · by_cases t2 : n2 (xs.drop 16) = 35047
        · have hty : ty16 xs = true := by simp [ty16, t1, t2]
          rw [hty, Bool.true_and] at h3
          cases tk : tagOK (n2 (xs.drop 14) / 8192) (n2 (xs.drop 14) % 4096)
          · clear h3
            repeat' (first
              | (with_reducible first | refine st_seq (fun K' hn he hr => ?_) | refine st_block (fun K' hn he hr => ?_) | refine st_region ?_ | refine st_draw ?_ | refine st_cond ?_ | refine st_skip ?_ | refine st_exit ?_ | refine st_ret ?_ | refine st_loop ?_ | refine st_op (fun G gn => ?_) | refine st_nil ?_ | refine st_gop ?_ | refine st_dop (fun G gn => ?_) | refine st_dnil ?_ | refine st_gdop ?_ | refine st_tl ?_)
              | (with_reducible refine gn _ _ ?_; clear gn G)
              | (with_reducible refine gn _ _ _ _ ?_; clear gn G)
              | (with_reducible refine Wr.mk ?_)
              | (with_reducible refine hn _ _ ?_; clear hn he hr K')
              | (with_reducible refine he _ _ _ ?_; clear hn he hr K')
              | (with_reducible refine hr _ _ ?_; clear hn he hr K')
              | ((with_reducible refine Eqn.mk (fun hq => ?_) ?_) <;> first | contradiction | skip)
              | (with_reducible refine Bo.yes (by decide) ?_)
              | (with_reducible refine Bo.no (by decide) ?_)
              | ((with_reducible refine Bo.gen (fun c hb => ?_)) <;> (try simp only [Nat.reduceAdd, toD, toDs, dInt, dBool, dStr, dList, dFs, dFld, List.getD_cons_zero, List.getD_cons_succ, Nat.zero_add, Int.reduceToNat] at hb) <;> (try simp only [cond_true, cond_false, toD, toDs, dInt, dBool, dStr, dList, dFs, dFld, List.getD_cons_zero, List.getD_cons_succ, Nat.zero_add, eqA, eqAs, decide_true, decide_false, beq_self_eq_true, Bool.not_true, Bool.not_false, Bool.and_true, Bool.true_and, Bool.and_self, cmpI, ↓reduceIte, Bool.false_eq_true, reduceCtorEq, Int.reduceEq, Int.reduceLT, Int.reduceLE, t1, t2, tk, k0, k1, k2, k3, k4, k5, k6, k7, k8, l1, l2, Int.reduceToNat, List.drop_drop, Nat.reduceAdd, decide_true, eq_self, Bool.not_true, Bool.or_false] at hb) <;> first | (obtain rfl : c = true := hb) | (obtain rfl : c = false := hb) | skip)
              | ((with_reducible refine Br.cs (fun hq => ?_) (fun hq => ?_)) <;> (try simp only [cond_true, cond_false, toD, toDs, dInt, dBool, dStr, dList, dFs, dFld, List.getD_cons_zero, List.getD_cons_succ, Nat.zero_add, eqA, eqAs, decide_true, decide_false, beq_self_eq_true, Bool.not_true, Bool.not_false, Bool.and_true, Bool.true_and, Bool.and_self, cmpI, ↓reduceIte, Bool.false_eq_true, reduceCtorEq, Int.reduceEq, Int.reduceLT, Int.reduceLE, t1, t2, tk, k0, k1, k2, k3, k4, k5, k6, k7, k8, l1, l2, Int.reduceToNat, List.drop_drop, Nat.reduceAdd, decide_true, eq_self, Bool.not_true, Bool.or_false] at hq) <;> first | contradiction | subst hq | skip)
              | (with_reducible refine Nd.mk trivial ?_)
              | (with_reducible refine Nd.mk (by decide) ?_)
              | (with_reducible refine Nd.mk ?_ ?_)
              | (with_reducible refine Leaf.mk rfl ?_)
              | (with_reducible refine LeafS.fin rfl ?_)
              | (with_reducible refine Fin.mk ?_ rfl)
              | (with_reducible refine Fin.mk ?_ ?_)
              | ((with_reducible refine Nx.mk ?_ ?_ ?_ ?_) <;> first | rfl | skip)
              | (conv => whnf
                 first
                   | (with_reducible refine gn _ _ ?_; clear gn G)
                   | (with_reducible refine gn _ _ _ _ ?_; clear gn G)
                   | (with_reducible refine Wr.mk ?_)
                   | (with_reducible refine hn _ _ ?_; clear hn he hr K')
                   | (with_reducible refine he _ _ _ ?_; clear hn he hr K')
                   | (with_reducible refine hr _ _ ?_; clear hn he hr K')
                   | (with_reducible refine Nd.mk trivial ?_)
                   | (with_reducible refine Nd.mk (by decide) ?_)
                   | (with_reducible refine Nd.mk ?_ ?_)
                   | (with_reducible refine Leaf.mk rfl ?_)
                   | (with_reducible refine LeafS.fin rfl ?_)
                   | (with_reducible refine Fin.mk ?_ rfl)
                   | (with_reducible refine Fin.mk ?_ ?_)
                   | ((with_reducible refine Nx.mk ?_ ?_ ?_ ?_) <;> first | rfl | skip)
                   | (with_reducible show Bo _ _)
                   | (with_reducible show Br _ _ _)
                   | (with_reducible show Eqn _ _ _)))
            all_goals (try simp only [Int.reduceToNat, List.drop_drop, Nat.reduceAdd, k3, k4, k5, k6, k7, k8])
            all_goals (try rw [k1])
            all_goals first
              | rfl
              | omega
              | (simp only [List.length_drop, List.length_take]; omega)
              | (simp only [List.length_drop]; done)
          · rw [tk, Bool.true_and] at h3
            cases i8 : isZ (ato xs 18 % 8)
            · clear h3
              have i8' : decide (ato xs 18 % 8 = 0) = false := i8
              repeat' (first
                | (with_reducible first | refine st_seq (fun K' hn he hr => ?_) | refine st_block (fun K' hn he hr => ?_) | refine st_region ?_ | refine st_draw ?_ | refine st_cond ?_ | refine st_skip ?_ | refine st_exit ?_ | refine st_ret ?_ | refine st_loop ?_ | refine st_op (fun G gn => ?_) | refine st_nil ?_ | refine st_gop ?_ | refine st_dop (fun G gn => ?_) | refine st_dnil ?_ | refine st_gdop ?_ | refine st_tl ?_)
                | (with_reducible refine gn _ _ ?_; clear gn G)
                | (with_reducible refine gn _ _ _ _ ?_; clear gn G)
                | (with_reducible refine Wr.mk ?_)
                | (with_reducible refine hn _ _ ?_; clear hn he hr K')
                | (with_reducible refine he _ _ _ ?_; clear hn he hr K')
                | (with_reducible refine hr _ _ ?_; clear hn he hr K')
                | ((with_reducible refine Eqn.mk (fun hq => ?_) ?_) <;> first | contradiction | skip)
                | (with_reducible refine Bo.yes (by decide) ?_)
                | (with_reducible refine Bo.no (by decide) ?_)
                | ((with_reducible refine Bo.gen (fun c hb => ?_)) <;> (try simp only [Nat.reduceAdd, toD, toDs, dInt, dBool, dStr, dList, dFs, dFld, List.getD_cons_zero, List.getD_cons_succ, Nat.zero_add, Int.reduceToNat] at hb) <;> (try simp only [cond_true, cond_false, toD, toDs, dInt, dBool, dStr, dList, dFs, dFld, List.getD_cons_zero, List.getD_cons_succ, Nat.zero_add, eqA, eqAs, decide_true, decide_false, beq_self_eq_true, Bool.not_true, Bool.not_false, Bool.and_true, Bool.true_and, Bool.and_self, cmpI, ↓reduceIte, Bool.false_eq_true, reduceCtorEq, Int.reduceEq, Int.reduceLT, Int.reduceLE, t1, t2, tk, i8', k0, k1, k2, k3, k4, k5, k6, k7, k8, l1, l2, Int.reduceToNat, List.drop_drop, Nat.reduceAdd, decide_true, eq_self, Bool.not_true, Bool.or_false] at hb) <;> first | (obtain rfl : c = true := hb) | (obtain rfl : c = false := hb) | skip)
                | ((with_reducible refine Br.cs (fun hq => ?_) (fun hq => ?_)) <;> (try simp only [cond_true, cond_false, toD, toDs, dInt, dBool, dStr, dList, dFs, dFld, List.getD_cons_zero, List.getD_cons_succ, Nat.zero_add, eqA, eqAs, decide_true, decide_false, beq_self_eq_true, Bool.not_true, Bool.not_false, Bool.and_true, Bool.true_and, Bool.and_self, cmpI, ↓reduceIte, Bool.false_eq_true, reduceCtorEq, Int.reduceEq, Int.reduceLT, Int.reduceLE, t1, t2, tk, i8', k0, k1, k2, k3, k4, k5, k6, k7, k8, l1, l2, Int.reduceToNat, List.drop_drop, Nat.reduceAdd, decide_true, eq_self, Bool.not_true, Bool.or_false] at hq) <;> first | contradiction | subst hq | skip)
                | (with_reducible refine Nd.mk trivial ?_)
                | (with_reducible refine Nd.mk (by decide) ?_)
                | (with_reducible refine Nd.mk ?_ ?_)
                | (with_reducible refine Leaf.mk rfl ?_)
                | (with_reducible refine LeafS.fin rfl ?_)
                | (with_reducible refine Fin.mk ?_ rfl)
                | (with_reducible refine Fin.mk ?_ ?_)
                | ((with_reducible refine Nx.mk ?_ ?_ ?_ ?_) <;> first | rfl | skip)
                | (conv => whnf
                   first
                     | (with_reducible refine gn _ _ ?_; clear gn G)
                     | (with_reducible refine gn _ _ _ _ ?_; clear gn G)
                     | (with_reducible refine Wr.mk ?_)
                     | (with_reducible refine hn _ _ ?_; clear hn he hr K')
                     | (with_reducible refine he _ _ _ ?_; clear hn he hr K')
                     | (with_reducible refine hr _ _ ?_; clear hn he hr K')
                     | (with_reducible refine Nd.mk trivial ?_)
                     | (with_reducible refine Nd.mk (by decide) ?_)
                     | (with_reducible refine Nd.mk ?_ ?_)
                     | (with_reducible refine Leaf.mk rfl ?_)
                     | (with_reducible refine LeafS.fin rfl ?_)
                     | (with_reducible refine Fin.mk ?_ rfl)
                     | (with_reducible refine Fin.mk ?_ ?_)
                     | ((with_reducible refine Nx.mk ?_ ?_ ?_ ?_) <;> first | rfl | skip)
                     | (with_reducible show Bo _ _)
                     | (with_reducible show Br _ _ _)
                     | (with_reducible show Eqn _ _ _)))
              all_goals (try simp only [Int.reduceToNat, List.drop_drop, Nat.reduceAdd, k3, k4, k5, k6, k7, k8])
              all_goals (try rw [k1])
              all_goals first
                | rfl
                | omega
                | (simp only [List.length_drop, List.length_take]; omega)
                | (simp only [List.length_drop]; done)
            · have i8' : decide (ato xs 18 % 8 = 0) = true := i8
              rw [i8, Bool.true_and] at h3
              have hz : ¬ bfChk (xs.take 6) ((xs.drop 6).take 6) (n2 (xs.drop 14) / 8192) (decide (n2 (xs.drop 14) / 4096 % 2 = 1)) (n2 (xs.drop 14) % 4096) (ato xs 18 / 32) (decide (ato xs 18 / 16 % 2 = 1)) (decide (ato xs 18 / 8 % 2 = 1)) (ato xs 19 * 65536 + ato xs 20 * 256 + ato xs 21) ((xs.drop 22).take 6) ((xs.drop 28).take 6) (xs.drop 34) = 0 := fun h => by rw [isZ_iff.2 h] at h3; cases h3
              repeat' (first
                | (with_reducible first | refine st_seq (fun K' hn he hr => ?_) | refine st_block (fun K' hn he hr => ?_) | refine st_region ?_ | refine st_draw ?_ | refine st_cond ?_ | refine st_skip ?_ | refine st_exit ?_ | refine st_ret ?_ | refine st_loop ?_ | refine st_op (fun G gn => ?_) | refine st_nil ?_ | refine st_gop ?_ | refine st_dop (fun G gn => ?_) | refine st_dnil ?_ | refine st_gdop ?_ | refine st_tl ?_)
                | (with_reducible refine gn _ _ ?_; clear gn G)
                | (with_reducible refine gn _ _ _ _ ?_; clear gn G)
                | (with_reducible refine Wr.mk ?_)
                | (with_reducible refine hn _ _ ?_; clear hn he hr K')
                | (with_reducible refine he _ _ _ ?_; clear hn he hr K')
                | (with_reducible refine hr _ _ ?_; clear hn he hr K')
                | ((with_reducible refine Eqn.mk (fun hq => ?_) ?_) <;> first | contradiction | skip)
                | (with_reducible refine Bo.yes (by decide) ?_)
                | (with_reducible refine Bo.no (by decide) ?_)
                | ((with_reducible refine Bo.gen (fun c hb => ?_)) <;> (try simp only [Nat.reduceAdd, toD, toDs, dInt, dBool, dStr, dList, dFs, dFld, List.getD_cons_zero, List.getD_cons_succ, Nat.zero_add, Int.reduceToNat] at hb) <;> (try simp only [cond_true, cond_false, toD, toDs, dInt, dBool, dStr, dList, dFs, dFld, List.getD_cons_zero, List.getD_cons_succ, Nat.zero_add, eqA, eqAs, decide_true, decide_false, beq_self_eq_true, Bool.not_true, Bool.not_false, Bool.and_true, Bool.true_and, Bool.and_self, cmpI, ↓reduceIte, Bool.false_eq_true, reduceCtorEq, Int.reduceEq, Int.reduceLT, Int.reduceLE, t1, t2, tk, i8', hz, k0, k1, k2, k3, k4, k5, k6, k7, k8, l1, l2, Int.reduceToNat, List.drop_drop, Nat.reduceAdd, decide_true, eq_self, Bool.not_true, Bool.or_false] at hb) <;> first | (obtain rfl : c = true := hb) | (obtain rfl : c = false := hb) | skip)
                | ((with_reducible refine Br.cs (fun hq => ?_) (fun hq => ?_)) <;> (try simp only [cond_true, cond_false, toD, toDs, dInt, dBool, dStr, dList, dFs, dFld, List.getD_cons_zero, List.getD_cons_succ, Nat.zero_add, eqA, eqAs, decide_true, decide_false, beq_self_eq_true, Bool.not_true, Bool.not_false, Bool.and_true, Bool.true_and, Bool.and_self, cmpI, ↓reduceIte, Bool.false_eq_true, reduceCtorEq, Int.reduceEq, Int.reduceLT, Int.reduceLE, t1, t2, tk, i8', hz, k0, k1, k2, k3, k4, k5, k6, k7, k8, l1, l2, Int.reduceToNat, List.drop_drop, Nat.reduceAdd, decide_true, eq_self, Bool.not_true, Bool.or_false] at hq) <;> first | contradiction | subst hq | skip)
                | (with_reducible refine Nd.mk trivial ?_)
                | (with_reducible refine Nd.mk (by decide) ?_)
                | (with_reducible refine Nd.mk ?_ ?_)
                | (with_reducible refine Leaf.mk rfl ?_)
                | (with_reducible refine LeafS.fin rfl ?_)
                | (with_reducible refine Fin.mk ?_ rfl)
                | (with_reducible refine Fin.mk ?_ ?_)
                | ((with_reducible refine Nx.mk ?_ ?_ ?_ ?_) <;> first | rfl | skip)
                | (conv => whnf
                   first
                     | (with_reducible refine gn _ _ ?_; clear gn G)
                     | (with_reducible refine gn _ _ _ _ ?_; clear gn G)
                     | (with_reducible refine Wr.mk ?_)
                     | (with_reducible refine hn _ _ ?_; clear hn he hr K')
                     | (with_reducible refine he _ _ _ ?_; clear hn he hr K')
                     | (with_reducible refine hr _ _ ?_; clear hn he hr K')
                     | (with_reducible refine Nd.mk trivial ?_)
                     | (with_reducible refine Nd.mk (by decide) ?_)
                     | (with_reducible refine Nd.mk ?_ ?_)
                     | (with_reducible refine Leaf.mk rfl ?_)
                     | (with_reducible refine LeafS.fin rfl ?_)
                     | (with_reducible refine Fin.mk ?_ rfl)
                     | (with_reducible refine Fin.mk ?_ ?_)
                     | ((with_reducible refine Nx.mk ?_ ?_ ?_ ?_) <;> first | rfl | skip)
                     | (with_reducible show Bo _ _)
                     | (with_reducible show Br _ _ _)
                     | (with_reducible show Eqn _ _ _)))
              all_goals (try simp only [Int.reduceToNat, List.drop_drop, Nat.reduceAdd, k3, k4, k5, k6, k7, k8])
              all_goals (try rw [k1])
              all_goals first
                | rfl
                | omega
                | (simp only [List.length_drop, List.length_take]; omega)
                | (simp only [List.length_drop]; done)
        · clear h3
          have t2' : decide (n2 (xs.drop 16) = 35047) = false := decide_eq_false t2
          repeat' (first
            | (with_reducible first | refine st_seq (fun K' hn he hr => ?_) | refine st_block (fun K' hn he hr => ?_) | refine st_region ?_ | refine st_draw ?_ | refine st_cond ?_ | refine st_skip ?_ | refine st_exit ?_ | refine st_ret ?_ | refine st_loop ?_ | refine st_op (fun G gn => ?_) | refine st_nil ?_ | refine st_gop ?_ | refine st_dop (fun G gn => ?_) | refine st_dnil ?_ | refine st_gdop ?_ | refine st_tl ?_)
            | (with_reducible refine gn _ _ ?_; clear gn G)
            | (with_reducible refine gn _ _ _ _ ?_; clear gn G)
            | (with_reducible refine Wr.mk ?_)
            | (with_reducible refine hn _ _ ?_; clear hn he hr K')
            | (with_reducible refine he _ _ _ ?_; clear hn he hr K')
            | (with_reducible refine hr _ _ ?_; clear hn he hr K')
            | ((with_reducible refine Eqn.mk (fun hq => ?_) ?_) <;> first | contradiction | skip)
            | (with_reducible refine Bo.yes (by decide) ?_)
            | (with_reducible refine Bo.no (by decide) ?_)
            | ((with_reducible refine Bo.gen (fun c hb => ?_)) <;> (try simp only [Nat.reduceAdd, toD, toDs, dInt, dBool, dStr, dList, dFs, dFld, List.getD_cons_zero, List.getD_cons_succ, Nat.zero_add, Int.reduceToNat] at hb) <;> (try simp only [cond_true, cond_false, toD, toDs, dInt, dBool, dStr, dList, dFs, dFld, List.getD_cons_zero, List.getD_cons_succ, Nat.zero_add, eqA, eqAs, decide_true, decide_false, beq_self_eq_true, Bool.not_true, Bool.not_false, Bool.and_true, Bool.true_and, Bool.and_self, cmpI, ↓reduceIte, Bool.false_eq_true, reduceCtorEq, Int.reduceEq, Int.reduceLT, Int.reduceLE, t1, t2, t2', k0, k1, k2, k3, k4, k5, k6, k7, k8, l1, l2, Int.reduceToNat, List.drop_drop, Nat.reduceAdd, decide_true, eq_self, Bool.not_true, Bool.not_false, Bool.or_false, Bool.or_true] at hb) <;> first | (obtain rfl : c = true := hb) | (obtain rfl : c = false := hb) | skip)
            | ((with_reducible refine Br.cs (fun hq => ?_) (fun hq => ?_)) <;> (try simp only [cond_true, cond_false, toD, toDs, dInt, dBool, dStr, dList, dFs, dFld, List.getD_cons_zero, List.getD_cons_succ, Nat.zero_add, eqA, eqAs, decide_true, decide_false, beq_self_eq_true, Bool.not_true, Bool.not_false, Bool.and_true, Bool.true_and, Bool.and_self, cmpI, ↓reduceIte, Bool.false_eq_true, reduceCtorEq, Int.reduceEq, Int.reduceLT, Int.reduceLE, t1, t2, t2', k0, k1, k2, k3, k4, k5, k6, k7, k8, l1, l2, Int.reduceToNat, List.drop_drop, Nat.reduceAdd, decide_true, eq_self, Bool.not_true, Bool.not_false, Bool.or_false, Bool.or_true] at hq) <;> first | contradiction | subst hq | skip)
            | (with_reducible refine Nd.mk trivial ?_)
            | (with_reducible refine Nd.mk (by decide) ?_)
            | (with_reducible refine Nd.mk ?_ ?_)
            | (with_reducible refine Leaf.mk rfl ?_)
            | (with_reducible refine LeafS.fin rfl ?_)
            | (with_reducible refine Fin.mk ?_ rfl)
            | (with_reducible refine Fin.mk ?_ ?_)
            | ((with_reducible refine Nx.mk ?_ ?_ ?_ ?_) <;> first | rfl | skip)
            | (conv => whnf
               first
                 | (with_reducible refine gn _ _ ?_; clear gn G)
                 | (with_reducible refine gn _ _ _ _ ?_; clear gn G)
                 | (with_reducible refine Wr.mk ?_)
                 | (with_reducible refine hn _ _ ?_; clear hn he hr K')
                 | (with_reducible refine he _ _ _ ?_; clear hn he hr K')
                 | (with_reducible refine hr _ _ ?_; clear hn he hr K')
                 | (with_reducible refine Nd.mk trivial ?_)
                 | (with_reducible refine Nd.mk (by decide) ?_)
                 | (with_reducible refine Nd.mk ?_ ?_)
                 | (with_reducible refine Leaf.mk rfl ?_)
                 | (with_reducible refine LeafS.fin rfl ?_)
                 | (with_reducible refine Fin.mk ?_ rfl)
                 | (with_reducible refine Fin.mk ?_ ?_)
                 | ((with_reducible refine Nx.mk ?_ ?_ ?_ ?_) <;> first | rfl | skip)
                 | (with_reducible show Bo _ _)
                 | (with_reducible show Br _ _ _)
                 | (with_reducible show Eqn _ _ _)))
          all_goals (try simp only [Int.reduceToNat, List.drop_drop, Nat.reduceAdd, k3, k4, k5, k6, k7, k8])
          all_goals (try rw [k1])
          all_goals first
            | rfl
            | omega
            | (simp only [List.length_drop, List.length_take]; omega)
            | (simp only [List.length_drop]; done)
      · clear h3
        have t1' : decide (n2 (xs.drop 12) = 34984) = false := decide_eq_false t1
        repeat' (first
          | (with_reducible first | refine st_seq (fun K' hn he hr => ?_) | refine st_block (fun K' hn he hr => ?_) | refine st_region ?_ | refine st_draw ?_ | refine st_cond ?_ | refine st_skip ?_ | refine st_exit ?_ | refine st_ret ?_ | refine st_loop ?_ | refine st_op (fun G gn => ?_) | refine st_nil ?_ | refine st_gop ?_ | refine st_dop (fun G gn => ?_) | refine st_dnil ?_ | refine st_gdop ?_ | refine st_tl ?_)
          | (with_reducible refine gn _ _ ?_; clear gn G)
          | (with_reducible refine gn _ _ _ _ ?_; clear gn G)
          | (with_reducible refine Wr.mk ?_)
          | (with_reducible refine hn _ _ ?_; clear hn he hr K')
          | (with_reducible refine he _ _ _ ?_; clear hn he hr K')
          | (with_reducible refine hr _ _ ?_; clear hn he hr K')
          | ((with_reducible refine Eqn.mk (fun hq => ?_) ?_) <;> first | contradiction | skip)
          | (with_reducible refine Bo.yes (by decide) ?_)
          | (with_reducible refine Bo.no (by decide) ?_)
          | ((with_reducible refine Bo.gen (fun c hb => ?_)) <;> (try simp only [Nat.reduceAdd, toD, toDs, dInt, dBool, dStr, dList, dFs, dFld, List.getD_cons_zero, List.getD_cons_succ, Nat.zero_add, Int.reduceToNat] at hb) <;> (try simp only [cond_true, cond_false, toD, toDs, dInt, dBool, dStr, dList, dFs, dFld, List.getD_cons_zero, List.getD_cons_succ, Nat.zero_add, eqA, eqAs, decide_true, decide_false, beq_self_eq_true, Bool.not_true, Bool.not_false, Bool.and_true, Bool.true_and, Bool.and_self, cmpI, ↓reduceIte, Bool.false_eq_true, reduceCtorEq, Int.reduceEq, Int.reduceLT, Int.reduceLE, t1, t1', k0, k1, k2, k3, k4, k5, k6, k7, k8, l1, l2, Int.reduceToNat, List.drop_drop, Nat.reduceAdd, decide_true, eq_self, Bool.not_true, Bool.not_false, Bool.or_false, Bool.or_true, Bool.true_or] at hb) <;> first | (obtain rfl : c = true := hb) | (obtain rfl : c = false := hb) | skip)
          | ((with_reducible refine Br.cs (fun hq => ?_) (fun hq => ?_)) <;> (try simp only [cond_true, cond_false, toD, toDs, dInt, dBool, dStr, dList, dFs, dFld, List.getD_cons_zero, List.getD_cons_succ, Nat.zero_add, eqA, eqAs, decide_true, decide_false, beq_self_eq_true, Bool.not_true, Bool.not_false, Bool.and_true, Bool.true_and, Bool.and_self, cmpI, ↓reduceIte, Bool.false_eq_true, reduceCtorEq, Int.reduceEq, Int.reduceLT, Int.reduceLE, t1, t1', k0, k1, k2, k3, k4, k5, k6, k7, k8, l1, l2, Int.reduceToNat, List.drop_drop, Nat.reduceAdd, decide_true, eq_self, Bool.not_true, Bool.not_false, Bool.or_false, Bool.or_true, Bool.true_or] at hq) <;> first | contradiction | subst hq | skip)
          | (with_reducible refine Nd.mk trivial ?_)
          | (with_reducible refine Nd.mk (by decide) ?_)
          | (with_reducible refine Nd.mk ?_ ?_)
          | (with_reducible refine Leaf.mk rfl ?_)
          | (with_reducible refine LeafS.fin rfl ?_)
          | (with_reducible refine Fin.mk ?_ rfl)
          | (with_reducible refine Fin.mk ?_ ?_)
          | ((with_reducible refine Nx.mk ?_ ?_ ?_ ?_) <;> first | rfl | skip)
          | (conv => whnf
             first
               | (with_reducible refine gn _ _ ?_; clear gn G)
               | (with_reducible refine gn _ _ _ _ ?_; clear gn G)
               | (with_reducible refine Wr.mk ?_)
               | (with_reducible refine hn _ _ ?_; clear hn he hr K')
               | (with_reducible refine he _ _ _ ?_; clear hn he hr K')
               | (with_reducible refine hr _ _ ?_; clear hn he hr K')
               | (with_reducible refine Nd.mk trivial ?_)
               | (with_reducible refine Nd.mk (by decide) ?_)
               | (with_reducible refine Nd.mk ?_ ?_)
               | (with_reducible refine Leaf.mk rfl ?_)
               | (with_reducible refine LeafS.fin rfl ?_)
               | (with_reducible refine Fin.mk ?_ rfl)
               | (with_reducible refine Fin.mk ?_ ?_)
               | ((with_reducible refine Nx.mk ?_ ?_ ?_ ?_) <;> first | rfl | skip)
               | (with_reducible show Bo _ _)
               | (with_reducible show Br _ _ _)
               | (with_reducible show Eqn _ _ _)))
        all_goals (try simp only [Int.reduceToNat, List.drop_drop, Nat.reduceAdd, k3, k4, k5, k6, k7, k8])
        all_goals (try rw [k1])
        all_goals first
          | rfl
          | omega
          | (simp only [List.length_drop, List.length_take]; omega)
          | (simp only [List.length_drop]; done)
  · trivial
end Go.Vc.Seat
