/- A part of the proof of the seat's laws: PfPbb2. It states no claim by itself. -/
import Derived.Test.YtdhfofnfhlnjbaaPfPbb1
set_option linter.unusedVariables false
set_option linter.unusedSimpArgs false
namespace Go.Vc.Seat
open Go.Vc Go.Proofs.Try
set_option maxRecDepth 20000 in
set_option maxHeartbeats 4000000 in
theorem pok_r04_Check : POK prog orc f_r04_Check := by
  refine pok_of ok_r04_Check mixed (by simp [ac_r04_Check, acP, callsP, pok_r01_Kind, pok_r02_Is, pok_r02_IsI, pok_r04_Inside, pok_r03_Check]) (by simp [ac_r04_Check, acS, callsS]) fun args hok => ?_
  show Fits orc nt_r04_Check rs_r04_Check ac_r04_Check args (pBfCheck args)
  unfold ac_r04_Check
  unfold pBfCheck
  split
  · rename_i da sa p d v q e u i ia ib rest
    obtain ⟨X, hX, e0, e1, e2, e3, e4, e5, e6, e7, e8, e9, e10, e11⟩ := bfX da sa p d v q e u i ia ib rest
    refine ⟨rfl, ?_⟩
    clear hok
    cases h1 : tagOK p v <;> cases h2 : itagOK q i
    all_goals refine st_seq (fun K1 hn1 he1 hr1 => ?_)
    all_goals repeat' (first
                | (with_reducible first | refine st_seq (fun K' hn he hr => ?_) | refine st_block (fun K' hn he hr => ?_) | refine st_region ?_ | refine st_draw ?_ | refine st_cond ?_ | refine st_skip ?_ | refine st_exit ?_ | refine st_ret ?_ | refine st_loop ?_ | refine st_op (fun G gn => ?_) | refine st_nil ?_ | refine st_gop ?_ | refine st_dop (fun G gn => ?_) | refine st_dnil ?_ | refine st_gdop ?_ | refine st_tl ?_)
                | (with_reducible refine gn _ _ ?_; clear gn G)
                | (with_reducible refine gn _ _ _ _ ?_; clear gn G)
                | (with_reducible refine Wr.mk ?_)
                | (with_reducible refine hn _ _ ?_; clear hn he hr K')
                | (with_reducible refine he _ _ _ ?_; clear hn he hr K')
                | (with_reducible refine hr _ _ ?_; clear hn he hr K')
                | ((with_reducible refine Eqn.mk (fun hq => ?_) ?_) <;> first | contradiction | skip)
                | (with_reducible refine Bo.yes (by decide) ?_)
                | (with_reducible refine Bo.no (by decide) ?_)
                | ((with_reducible refine Bo.gen (fun c hb => ?_)) <;> (try simp only [Nat.reduceAdd, toD, toDs, dInt, dBool, dStr, dList, dFs, dFld, List.getD_cons_zero, List.getD_cons_succ, Nat.zero_add, Int.reduceToNat] at hb) <;> (try simp only [cond_true, cond_false, toD, toDs, dInt, dBool, dStr, dList, dFs, dFld, List.getD_cons_zero, List.getD_cons_succ, Nat.zero_add, eqA, eqAs, decide_true, decide_false, beq_self_eq_true, Bool.not_true, Bool.not_false, Bool.and_true, Bool.true_and, Bool.and_self, cmpI, ↓reduceIte, Bool.false_eq_true, reduceCtorEq, Int.reduceEq, Int.reduceLT, Int.reduceLE] at hb) <;> first | (obtain rfl : c = true := hb) | (obtain rfl : c = false := hb) | skip)
                | ((with_reducible refine Br.cs (fun hq => ?_) (fun hq => ?_)) <;> (try simp only [cond_true, cond_false, toD, toDs, dInt, dBool, dStr, dList, dFs, dFld, List.getD_cons_zero, List.getD_cons_succ, Nat.zero_add, eqA, eqAs, decide_true, decide_false, beq_self_eq_true, Bool.not_true, Bool.not_false, Bool.and_true, Bool.true_and, Bool.and_self, cmpI, ↓reduceIte, Bool.false_eq_true, reduceCtorEq, Int.reduceEq, Int.reduceLT, Int.reduceLE] at hq) <;> first | contradiction | subst hq | skip)
                | (with_reducible refine Nd.mk trivial ?_)
                | (with_reducible refine Nd.mk (by decide) ?_)
                | (with_reducible refine Nd.mk ?_ ?_)
                | (with_reducible refine Leaf.mk rfl ?_)
                | (with_reducible refine LeafS.fin rfl ?_)
                | (with_reducible refine Fin.mk ?_ rfl)
                | (with_reducible refine Fin.mk ?_ ?_)
                | ((with_reducible refine Nx.mk ?_ ?_ ?_ ?_) <;> first | rfl | skip)
                | (conv => whnf
                   first
                     | (with_reducible refine gn _ _ ?_; clear gn G)
                     | (with_reducible refine gn _ _ _ _ ?_; clear gn G)
                     | (with_reducible refine Wr.mk ?_)
                     | (with_reducible refine hn _ _ ?_; clear hn he hr K')
                     | (with_reducible refine he _ _ _ ?_; clear hn he hr K')
                     | (with_reducible refine hr _ _ ?_; clear hn he hr K')
                     | (with_reducible refine Nd.mk trivial ?_)
                     | (with_reducible refine Nd.mk (by decide) ?_)
                     | (with_reducible refine Nd.mk ?_ ?_)
                     | (with_reducible refine Leaf.mk rfl ?_)
                     | (with_reducible refine LeafS.fin rfl ?_)
                     | (with_reducible refine Fin.mk ?_ rfl)
                     | (with_reducible refine Fin.mk ?_ ?_)
                     | ((with_reducible refine Nx.mk ?_ ?_ ?_ ?_) <;> first | rfl | skip)
                     | (with_reducible show Bo _ _)
                     | (with_reducible show Br _ _ _)
                     | (with_reducible show Eqn _ _ _)))
    all_goals refine hn1 _ _ ?_
    all_goals clear hn1 he1 hr1 K1
    all_goals rw [hX]
    all_goals clear hX
    all_goals repeat' (first
                | (with_reducible first | refine st_seq (fun K' hn he hr => ?_) | refine st_block (fun K' hn he hr => ?_) | refine st_region ?_ | refine st_draw ?_ | refine st_cond ?_ | refine st_skip ?_ | refine st_exit ?_ | refine st_ret ?_ | refine st_loop ?_ | refine st_op (fun G gn => ?_) | refine st_nil ?_ | refine st_gop ?_ | refine st_dop (fun G gn => ?_) | refine st_dnil ?_ | refine st_gdop ?_ | refine st_tl ?_)
                | (with_reducible refine gn _ _ ?_; clear gn G)
                | (with_reducible refine gn _ _ _ _ ?_; clear gn G)
                | (with_reducible refine Wr.mk ?_)
                | (with_reducible refine hn _ _ ?_; clear hn he hr K')
                | (with_reducible refine he _ _ _ ?_; clear hn he hr K')
                | (with_reducible refine hr _ _ ?_; clear hn he hr K')
                | ((with_reducible refine Eqn.mk (fun hq => ?_) ?_) <;> first | contradiction | skip)
                | (with_reducible refine Bo.yes (by decide) ?_)
                | (with_reducible refine Bo.no (by decide) ?_)
                | ((with_reducible refine Bo.gen (fun c hb => ?_)) <;> (try simp only [Nat.reduceAdd, toD, toDs, dInt, dBool, dStr, dList, dFs, dFld, List.getD_cons_zero, List.getD_cons_succ, Nat.zero_add, Int.reduceToNat] at hb) <;> (try simp only [cond_true, cond_false, toD, toDs, dInt, dBool, dStr, dList, dFs, dFld, List.getD_cons_zero, List.getD_cons_succ, Nat.zero_add, eqA, eqAs, decide_true, decide_false, beq_self_eq_true, Bool.not_true, Bool.not_false, Bool.and_true, Bool.true_and, Bool.and_self, cmpI, ↓reduceIte, Bool.false_eq_true, reduceCtorEq, Int.reduceEq, Int.reduceLT, Int.reduceLE, e0, e1, e2, e3, e4, e5, e6, e7, e8, e9, e10, e11, h1, h2, Bool.not_false, Bool.not_true] at hb) <;> first | (obtain rfl : c = true := hb) | (obtain rfl : c = false := hb) | skip)
                | ((with_reducible refine Br.cs (fun hq => ?_) (fun hq => ?_)) <;> (try simp only [cond_true, cond_false, toD, toDs, dInt, dBool, dStr, dList, dFs, dFld, List.getD_cons_zero, List.getD_cons_succ, Nat.zero_add, eqA, eqAs, decide_true, decide_false, beq_self_eq_true, Bool.not_true, Bool.not_false, Bool.and_true, Bool.true_and, Bool.and_self, cmpI, ↓reduceIte, Bool.false_eq_true, reduceCtorEq, Int.reduceEq, Int.reduceLT, Int.reduceLE, e0, e1, e2, e3, e4, e5, e6, e7, e8, e9, e10, e11, h1, h2, Bool.not_false, Bool.not_true] at hq) <;> first | contradiction | subst hq | skip)
                | (with_reducible refine Nd.mk trivial ?_)
                | (with_reducible refine Nd.mk (by decide) ?_)
                | (with_reducible refine Nd.mk ?_ ?_)
                | (with_reducible refine Leaf.mk rfl ?_)
                | (with_reducible refine LeafS.fin rfl ?_)
                | (with_reducible refine Fin.mk ?_ rfl)
                | (with_reducible refine Fin.mk ?_ ?_)
                | ((with_reducible refine Nx.mk ?_ ?_ ?_ ?_) <;> first | rfl | skip)
                | (conv => whnf
                   first
                     | (with_reducible refine gn _ _ ?_; clear gn G)
                     | (with_reducible refine gn _ _ _ _ ?_; clear gn G)
                     | (with_reducible refine Wr.mk ?_)
                     | (with_reducible refine hn _ _ ?_; clear hn he hr K')
                     | (with_reducible refine he _ _ _ ?_; clear hn he hr K')
                     | (with_reducible refine hr _ _ ?_; clear hn he hr K')
                     | (with_reducible refine Nd.mk trivial ?_)
                     | (with_reducible refine Nd.mk (by decide) ?_)
                     | (with_reducible refine Nd.mk ?_ ?_)
                     | (with_reducible refine Leaf.mk rfl ?_)
                     | (with_reducible refine LeafS.fin rfl ?_)
                     | (with_reducible refine Fin.mk ?_ rfl)
                     | (with_reducible refine Fin.mk ?_ ?_)
                     | ((with_reducible refine Nx.mk ?_ ?_ ?_ ?_) <;> first | rfl | skip)
                     | (with_reducible show Bo _ _)
                     | (with_reducible show Br _ _ _)
                     | (with_reducible show Eqn _ _ _)))
    all_goals simp only [ct_not, cf_not, ctd, cfd, dtd, dfd] at *
    all_goals first
      | (simp only [Nat.zero_add, Nat.reduceAdd, e11]; omega)
      | (refine congrArg (AV.int .i64) ?_; first
          | (rw [bchk_long (by assumption)]; done)
          | (rw [bchk_ok (by assumption) (bfOK_iff.2 ⟨by assumption, by assumption, h1, h2, by assumption, by assumption⟩)]; done)
          | (rw [bchk_not (by assumption) (by rw [← Bool.not_eq_true, bfOK_iff]; rintro ⟨g1, g2, g3, g4, g5, g6⟩; first | contradiction | (simp_all; done))]; done))
  · trivial
theorem pok_l04_few : POK prog orc f_l04_few := by
  refine pok_of ok_l04_few mixed (by simp [ac_l04_few, acP, callsP]) (by simp [ac_l04_few, acS, callsS]) fun args hok => ?_
  show Fits orc nt_l04_few rs_l04_few ac_l04_few args (pFrFew args)
  unfold ac_l04_few
  unfold pFrFew
  split
  · rename_i da sa t p d v rest
    refine ⟨rfl, ?_⟩
    repeat' (first
      | (with_reducible first | refine st_seq (fun K' hn he hr => ?_) | refine st_block (fun K' hn he hr => ?_) | refine st_region ?_ | refine st_draw ?_ | refine st_cond ?_ | refine st_skip ?_ | refine st_exit ?_ | refine st_ret ?_ | refine st_loop ?_ | refine st_op (fun G gn => ?_) | refine st_nil ?_ | refine st_gop ?_ | refine st_dop (fun G gn => ?_) | refine st_dnil ?_ | refine st_gdop ?_ | refine st_tl ?_)
      | (with_reducible refine gn _ _ ?_; clear gn G)
      | (with_reducible refine gn _ _ _ _ ?_; clear gn G)
      | (with_reducible refine Wr.mk ?_)
      | (with_reducible refine hn _ _ ?_; clear hn he hr K')
      | (with_reducible refine he _ _ _ ?_; clear hn he hr K')
      | (with_reducible refine hr _ _ ?_; clear hn he hr K')
      | ((with_reducible refine Eqn.mk (fun hq => ?_) ?_) <;> first | contradiction | skip)
      | (with_reducible refine Bo.yes (by decide) ?_)
      | (with_reducible refine Bo.no (by decide) ?_)
      | ((with_reducible refine Bo.gen (fun c hb => ?_)) <;> (try simp only [Nat.reduceAdd, toD, toDs, dInt, dBool, dStr, dList, dFs, dFld, List.getD_cons_zero, List.getD_cons_succ, Nat.zero_add, Int.reduceToNat] at hb) <;> (try simp only [cond_true, cond_false, toD, toDs, dInt, dBool, dStr, dList, dFs, dFld, List.getD_cons_zero, List.getD_cons_succ, Nat.zero_add, eqA, eqAs, decide_true, decide_false, beq_self_eq_true, Bool.not_true, Bool.not_false, Bool.and_true, Bool.true_and, Bool.and_self, cmpI, ↓reduceIte, Bool.false_eq_true, reduceCtorEq, Int.reduceEq, Int.reduceLT, Int.reduceLE] at hb) <;> first | (obtain rfl : c = true := hb) | (obtain rfl : c = false := hb) | skip)
      | ((with_reducible refine Br.cs (fun hq => ?_) (fun hq => ?_)) <;> (try simp only [cond_true, cond_false, toD, toDs, dInt, dBool, dStr, dList, dFs, dFld, List.getD_cons_zero, List.getD_cons_succ, Nat.zero_add, eqA, eqAs, decide_true, decide_false, beq_self_eq_true, Bool.not_true, Bool.not_false, Bool.and_true, Bool.true_and, Bool.and_self, cmpI, ↓reduceIte, Bool.false_eq_true, reduceCtorEq, Int.reduceEq, Int.reduceLT, Int.reduceLE] at hq) <;> first | contradiction | subst hq | skip)
      | (with_reducible refine Nd.mk trivial ?_)
      | (with_reducible refine Nd.mk (by decide) ?_)
      | (with_reducible refine Nd.mk ?_ ?_)
      | (with_reducible refine Leaf.mk rfl ?_)
      | (with_reducible refine LeafS.fin rfl ?_)
      | (with_reducible refine Fin.mk ?_ rfl)
      | (with_reducible refine Fin.mk ?_ ?_)
      | ((with_reducible refine Nx.mk ?_ ?_ ?_ ?_) <;> first | rfl | skip)
      | (conv => whnf
         first
           | (with_reducible refine gn _ _ ?_; clear gn G)
           | (with_reducible refine gn _ _ _ _ ?_; clear gn G)
           | (with_reducible refine Wr.mk ?_)
           | (with_reducible refine hn _ _ ?_; clear hn he hr K')
           | (with_reducible refine he _ _ _ ?_; clear hn he hr K')
           | (with_reducible refine hr _ _ ?_; clear hn he hr K')
           | (with_reducible refine Nd.mk trivial ?_)
           | (with_reducible refine Nd.mk (by decide) ?_)
           | (with_reducible refine Nd.mk ?_ ?_)
           | (with_reducible refine Leaf.mk rfl ?_)
           | (with_reducible refine LeafS.fin rfl ?_)
           | (with_reducible refine Fin.mk ?_ rfl)
           | (with_reducible refine Fin.mk ?_ ?_)
           | ((with_reducible refine Nx.mk ?_ ?_ ?_ ?_) <;> first | rfl | skip)
           | (with_reducible show Bo _ _)
           | (with_reducible show Br _ _ _)
           | (with_reducible show Eqn _ _ _)))
    all_goals simp only [ctd, cfd] at *
    all_goals first | omega | (unfold cutOK; omega) | rfl | (rw [List.take_of_length_le (by omega)]; done) | (rw [List.take_of_length_le (by omega)]; rfl)
  · trivial
theorem pok_l04_Few : POK prog orc f_l04_Few := by
  refine pok_of ok_l04_Few mixed (by simp [ac_l04_Few, acP, callsP]) (by simp [ac_l04_Few, acS, callsS]) fun args hok => ?_
  show Fits orc nt_l04_Few rs_l04_Few ac_l04_Few args (pBfFew args)
  unfold ac_l04_Few
  unfold pBfFew
  split
  · rename_i da sa p d v q e u i ia ib rest
    refine ⟨rfl, ?_⟩
    repeat' (first
      | (with_reducible first | refine st_seq (fun K' hn he hr => ?_) | refine st_block (fun K' hn he hr => ?_) | refine st_region ?_ | refine st_draw ?_ | refine st_cond ?_ | refine st_skip ?_ | refine st_exit ?_ | refine st_ret ?_ | refine st_loop ?_ | refine st_op (fun G gn => ?_) | refine st_nil ?_ | refine st_gop ?_ | refine st_dop (fun G gn => ?_) | refine st_dnil ?_ | refine st_gdop ?_ | refine st_tl ?_)
      | (with_reducible refine gn _ _ ?_; clear gn G)
      | (with_reducible refine gn _ _ _ _ ?_; clear gn G)
      | (with_reducible refine Wr.mk ?_)
      | (with_reducible refine hn _ _ ?_; clear hn he hr K')
      | (with_reducible refine he _ _ _ ?_; clear hn he hr K')
      | (with_reducible refine hr _ _ ?_; clear hn he hr K')
      | ((with_reducible refine Eqn.mk (fun hq => ?_) ?_) <;> first | contradiction | skip)
      | (with_reducible refine Bo.yes (by decide) ?_)
      | (with_reducible refine Bo.no (by decide) ?_)
      | ((with_reducible refine Bo.gen (fun c hb => ?_)) <;> (try simp only [Nat.reduceAdd, toD, toDs, dInt, dBool, dStr, dList, dFs, dFld, List.getD_cons_zero, List.getD_cons_succ, Nat.zero_add, Int.reduceToNat] at hb) <;> (try simp only [cond_true, cond_false, toD, toDs, dInt, dBool, dStr, dList, dFs, dFld, List.getD_cons_zero, List.getD_cons_succ, Nat.zero_add, eqA, eqAs, decide_true, decide_false, beq_self_eq_true, Bool.not_true, Bool.not_false, Bool.and_true, Bool.true_and, Bool.and_self, cmpI, ↓reduceIte, Bool.false_eq_true, reduceCtorEq, Int.reduceEq, Int.reduceLT, Int.reduceLE] at hb) <;> first | (obtain rfl : c = true := hb) | (obtain rfl : c = false := hb) | skip)
      | ((with_reducible refine Br.cs (fun hq => ?_) (fun hq => ?_)) <;> (try simp only [cond_true, cond_false, toD, toDs, dInt, dBool, dStr, dList, dFs, dFld, List.getD_cons_zero, List.getD_cons_succ, Nat.zero_add, eqA, eqAs, decide_true, decide_false, beq_self_eq_true, Bool.not_true, Bool.not_false, Bool.and_true, Bool.true_and, Bool.and_self, cmpI, ↓reduceIte, Bool.false_eq_true, reduceCtorEq, Int.reduceEq, Int.reduceLT, Int.reduceLE] at hq) <;> first | contradiction | subst hq | skip)
      | (with_reducible refine Nd.mk trivial ?_)
      | (with_reducible refine Nd.mk (by decide) ?_)
      | (with_reducible refine Nd.mk ?_ ?_)
      | (with_reducible refine Leaf.mk rfl ?_)
      | (with_reducible refine LeafS.fin rfl ?_)
      | (with_reducible refine Fin.mk ?_ rfl)
      | (with_reducible refine Fin.mk ?_ ?_)
      | ((with_reducible refine Nx.mk ?_ ?_ ?_ ?_) <;> first | rfl | skip)
      | (conv => whnf
         first
           | (with_reducible refine gn _ _ ?_; clear gn G)
           | (with_reducible refine gn _ _ _ _ ?_; clear gn G)
           | (with_reducible refine Wr.mk ?_)
           | (with_reducible refine hn _ _ ?_; clear hn he hr K')
           | (with_reducible refine he _ _ _ ?_; clear hn he hr K')
           | (with_reducible refine hr _ _ ?_; clear hn he hr K')
           | (with_reducible refine Nd.mk trivial ?_)
           | (with_reducible refine Nd.mk (by decide) ?_)
           | (with_reducible refine Nd.mk ?_ ?_)
           | (with_reducible refine Leaf.mk rfl ?_)
           | (with_reducible refine LeafS.fin rfl ?_)
           | (with_reducible refine Fin.mk ?_ rfl)
           | (with_reducible refine Fin.mk ?_ ?_)
           | ((with_reducible refine Nx.mk ?_ ?_ ?_ ?_) <;> first | rfl | skip)
           | (with_reducible show Bo _ _)
           | (with_reducible show Br _ _ _)
           | (with_reducible show Eqn _ _ _)))
    all_goals simp only [ctd, cfd] at *
    all_goals first | omega | (unfold cutOK; omega) | rfl | (rw [List.take_of_length_le (by omega)]; done) | (rw [List.take_of_length_le (by omega)]; rfl)
  · trivial
theorem pok_l04_one : POK prog orc f_l04_one := by
  refine pok_of ok_l04_one mixed (by simp [ac_l04_one, acP, callsP]) (by simp [ac_l04_one, acS, callsS]) fun args hok => ?_
  show Fits orc nt_l04_one rs_l04_one ac_l04_one args (pOne args)
  unfold ac_l04_one
  unfold pOne
  split
  · refine ⟨rfl, ?_⟩
    repeat' (first
      | (with_reducible first | refine st_seq (fun K' hn he hr => ?_) | refine st_block (fun K' hn he hr => ?_) | refine st_region ?_ | refine st_draw ?_ | refine st_cond ?_ | refine st_skip ?_ | refine st_exit ?_ | refine st_ret ?_ | refine st_loop ?_ | refine st_op (fun G gn => ?_) | refine st_nil ?_ | refine st_gop ?_ | refine st_dop (fun G gn => ?_) | refine st_dnil ?_ | refine st_gdop ?_ | refine st_tl ?_)
      | (with_reducible refine gn _ _ ?_; clear gn G)
      | (with_reducible refine gn _ _ _ _ ?_; clear gn G)
      | (with_reducible refine Wr.mk ?_)
      | (with_reducible refine hn _ _ ?_; clear hn he hr K')
      | (with_reducible refine he _ _ _ ?_; clear hn he hr K')
      | (with_reducible refine hr _ _ ?_; clear hn he hr K')
      | ((with_reducible refine Eqn.mk (fun hq => ?_) ?_) <;> first | contradiction | skip)
      | (with_reducible refine Bo.yes (by decide) ?_)
      | (with_reducible refine Bo.no (by decide) ?_)
      | ((with_reducible refine Bo.gen (fun c hb => ?_)) <;> (try simp only [Nat.reduceAdd, toD, toDs, dInt, dBool, dStr, dList, dFs, dFld, List.getD_cons_zero, List.getD_cons_succ, Nat.zero_add, Int.reduceToNat] at hb) <;> (try simp only [cond_true, cond_false, toD, toDs, dInt, dBool, dStr, dList, dFs, dFld, List.getD_cons_zero, List.getD_cons_succ, Nat.zero_add, eqA, eqAs, decide_true, decide_false, beq_self_eq_true, Bool.not_true, Bool.not_false, Bool.and_true, Bool.true_and, Bool.and_self, cmpI, ↓reduceIte, Bool.false_eq_true, reduceCtorEq, Int.reduceEq, Int.reduceLT, Int.reduceLE] at hb) <;> first | (obtain rfl : c = true := hb) | (obtain rfl : c = false := hb) | skip)
      | ((with_reducible refine Br.cs (fun hq => ?_) (fun hq => ?_)) <;> (try simp only [cond_true, cond_false, toD, toDs, dInt, dBool, dStr, dList, dFs, dFld, List.getD_cons_zero, List.getD_cons_succ, Nat.zero_add, eqA, eqAs, decide_true, decide_false, beq_self_eq_true, Bool.not_true, Bool.not_false, Bool.and_true, Bool.true_and, Bool.and_self, cmpI, ↓reduceIte, Bool.false_eq_true, reduceCtorEq, Int.reduceEq, Int.reduceLT, Int.reduceLE] at hq) <;> first | contradiction | subst hq | skip)
      | (with_reducible refine Nd.mk trivial ?_)
      | (with_reducible refine Nd.mk (by decide) ?_)
      | (with_reducible refine Nd.mk ?_ ?_)
      | (with_reducible refine Leaf.mk rfl ?_)
      | (with_reducible refine LeafS.fin rfl ?_)
      | (with_reducible refine Fin.mk ?_ rfl)
      | (with_reducible refine Fin.mk ?_ ?_)
      | ((with_reducible refine Nx.mk ?_ ?_ ?_ ?_) <;> first | rfl | skip)
      | (conv => whnf
         first
           | (with_reducible refine gn _ _ ?_; clear gn G)
           | (with_reducible refine gn _ _ _ _ ?_; clear gn G)
           | (with_reducible refine Wr.mk ?_)
           | (with_reducible refine hn _ _ ?_; clear hn he hr K')
           | (with_reducible refine he _ _ _ ?_; clear hn he hr K')
           | (with_reducible refine hr _ _ ?_; clear hn he hr K')
           | (with_reducible refine Nd.mk trivial ?_)
           | (with_reducible refine Nd.mk (by decide) ?_)
           | (with_reducible refine Nd.mk ?_ ?_)
           | (with_reducible refine Leaf.mk rfl ?_)
           | (with_reducible refine LeafS.fin rfl ?_)
           | (with_reducible refine Fin.mk ?_ rfl)
           | (with_reducible refine Fin.mk ?_ ?_)
           | ((with_reducible refine Nx.mk ?_ ?_ ?_ ?_) <;> first | rfl | skip)
           | (with_reducible show Bo _ _)
           | (with_reducible show Br _ _ _)
           | (with_reducible show Eqn _ _ _)))
    all_goals first | rfl
  · trivial
end Go.Vc.Seat
