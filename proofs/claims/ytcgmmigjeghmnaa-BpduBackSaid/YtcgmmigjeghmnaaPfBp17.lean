/- A part of the proof of the seat's laws: PfBp17. It states no claim by itself. -/
import Derived.Test.YtcgmmigjeghmnaaPfBp16
import Derived.Test.YtcgmmigjeghmnaaPfBp14
set_option linter.unusedVariables false
set_option linter.unusedSimpArgs false
namespace Go.Vc.Seat
open Go.Vc Go.Proofs.Try
set_option maxRecDepth 20000 in
set_option maxHeartbeats 8000000 in
theorem pok_l05_awake : POK prog orc f_l05_awake := by
  refine pok_of ok_l05_awake mixed (by simp [ac_l05_awake, acP, callsP, pok_bpdu_Encode, pok_bpdu_Decode, pok_bpdu_Read, pok_bpdu_Is, pok_bpdu_Check]) (by simp [ac_l05_awake, acS, callsS]) fun args hok => ?_
  show Fits orc nt_l05_awake rs_l05_awake ac_l05_awake args (pYes5 args)
  unfold ac_l05_awake
  unfold pYes5
  split
  · refine ⟨rfl, ?_⟩
    repeat' (first
      | (with_reducible first | refine st_seq (fun K' hn he hr => ?_) | refine st_block (fun K' hn he hr => ?_) | refine st_region ?_ | refine st_draw ?_ | refine st_cond ?_ | refine st_skip ?_ | refine st_exit ?_ | refine st_ret ?_ | refine st_loop ?_ | refine st_op (fun G gn => ?_) | refine st_nil ?_ | refine st_gop ?_ | refine st_dop (fun G gn => ?_) | refine st_dnil ?_ | refine st_gdop ?_ | refine st_tl ?_)
      | (with_reducible refine gn _ _ ?_; clear gn G)
      | (with_reducible refine gn _ _ _ _ ?_; clear gn G)
      | (with_reducible refine Wr.mk ?_)
      | (with_reducible refine hn _ _ ?_; clear hn he hr K')
      | (with_reducible refine he _ _ _ ?_; clear hn he hr K')
      | (with_reducible refine hr _ _ ?_; clear hn he hr K')
      | ((with_reducible refine Eqn.mk (fun hq => ?_) ?_) <;> first | contradiction | skip)
      | (with_reducible refine Bo.yes (by decide) ?_)
      | (with_reducible refine Bo.no (by decide) ?_)
      | ((with_reducible refine Bo.gen (fun c hb => ?_)) <;> (try simp only [Nat.reduceAdd, toD, toDs, dInt, dBool, dStr, dList, dFs, dFld, List.getD_cons_zero, List.getD_cons_succ, Nat.zero_add, Int.reduceToNat] at hb) <;> (try simp only [cond_true, cond_false, toD, toDs, dInt, dBool, dStr, dList, dFs, dFld, List.getD_cons_zero, List.getD_cons_succ, Nat.zero_add, eqA, eqAs, decide_true, decide_false, beq_self_eq_true, Bool.not_true, Bool.not_false, Bool.and_true, Bool.true_and, Bool.and_self, cmpI, ↓reduceIte, Bool.false_eq_true, reduceCtorEq, Int.reduceEq, Int.reduceLT, Int.reduceLE] at hb) <;> first | (obtain rfl : c = true := hb) | (obtain rfl : c = false := hb) | skip)
      | ((with_reducible refine Br.cs (fun hq => ?_) (fun hq => ?_)) <;> (try simp only [cond_true, cond_false, toD, toDs, dInt, dBool, dStr, dList, dFs, dFld, List.getD_cons_zero, List.getD_cons_succ, Nat.zero_add, eqA, eqAs, decide_true, decide_false, beq_self_eq_true, Bool.not_true, Bool.not_false, Bool.and_true, Bool.true_and, Bool.and_self, cmpI, ↓reduceIte, Bool.false_eq_true, reduceCtorEq, Int.reduceEq, Int.reduceLT, Int.reduceLE] at hq) <;> first | contradiction | subst hq | skip)
      | (with_reducible refine Nd.mk trivial ?_)
      | (with_reducible refine Nd.mk (by decide) ?_)
      | (with_reducible refine Nd.mk ?_ ?_)
      | (with_reducible refine Leaf.mk rfl ?_)
      | (with_reducible refine LeafS.fin rfl ?_)
      | (with_reducible refine Fin.mk ?_ rfl)
      | (with_reducible refine Fin.mk ?_ ?_)
      | ((with_reducible refine Nx.mk ?_ ?_ ?_ ?_) <;> first | rfl | skip)
      | (conv => whnf
         first
           | (with_reducible refine gn _ _ ?_; clear gn G)
           | (with_reducible refine gn _ _ _ _ ?_; clear gn G)
           | (with_reducible refine Wr.mk ?_)
           | (with_reducible refine hn _ _ ?_; clear hn he hr K')
           | (with_reducible refine he _ _ _ ?_; clear hn he hr K')
           | (with_reducible refine hr _ _ ?_; clear hn he hr K')
           | (with_reducible refine Nd.mk trivial ?_)
           | (with_reducible refine Nd.mk (by decide) ?_)
           | (with_reducible refine Nd.mk ?_ ?_)
           | (with_reducible refine Leaf.mk rfl ?_)
           | (with_reducible refine LeafS.fin rfl ?_)
           | (with_reducible refine Fin.mk ?_ rfl)
           | (with_reducible refine Fin.mk ?_ ?_)
           | ((with_reducible refine Nx.mk ?_ ?_ ?_ ?_) <;> first | rfl | skip)
           | (with_reducible show Bo _ _)
           | (with_reducible show Br _ _ _)
           | (with_reducible show Eqn _ _ _)))
    all_goals first | rfl
  · trivial
end Go.Vc.Seat
