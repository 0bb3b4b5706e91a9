/- A part of the proof of the seat's laws: PfSn15. It states no claim by itself. -/
import Derived.Test.YtpdcgjpkcjhbjaaPfSn14
import Derived.Test.YtpdcgjpkcjhbjaaPfSn6b
set_option linter.unusedVariables false
set_option linter.unusedSimpArgs false
namespace Go.Vc.Seat
open Go.Vc Go.Proofs.Try

def ids3 : List D := [.i 1, .i 2, .i 3]
def es3 : List D := [.a [.i 0, .i 0, .i 1, .i 0, .i 10, .i 10], .a [.i 1, .i 1, .i 2, .i 0, .i 10, .i 10], .a [.i 2, .i 1, .i 0, .i 1, .i 10, .i 10]]
theorem ok3 : spanOK ids3 es3 = true := by decide
theorem tree3 : treeI (endsD ids3 es3) 3 = [.i 0, .i 2] := by kernel_rfl
theorem pok_l16_awake : POK prog orc f_l16_awake := by
  refine pok_of ok_l16_awake mixed (by simp [ac_l16_awake, acP, callsP, pok_l16_edge, pok_span_Tree]) (by simp [ac_l16_awake, acS, callsS]) fun args hok => ?_
  show Fits orc nt_l16_awake rs_l16_awake ac_l16_awake args (pAwakeS args)
  unfold ac_l16_awake
  unfold pAwakeS
  split
  · refine ⟨rfl, ?_⟩
    repeat' (first | (with_reducible first | refine st_seq (fun K' hn he hr => ?_) | refine st_block (fun K' hn he hr => ?_) | refine st_region ?_ | refine st_tregion ?_ | refine st_draw ?_ | refine st_cond ?_ | refine st_skip ?_ | refine st_exit ?_ | refine st_ret ?_ | refine st_loop ?_ | refine st_op (fun G gn => ?_) | refine st_nil ?_ | refine st_gop ?_ | refine st_dop (fun G gn => ?_) | refine st_dnil ?_ | refine st_gdop ?_ | refine st_tl ?_) | (with_reducible refine gn _ _ ?_; clear gn G) | (with_reducible refine gn _ _ _ _ ?_; clear gn G) | (with_reducible first | refine Wr.mk ?_) | (with_reducible refine hn _ _ ?_; clear hn he hr K') | (with_reducible refine he _ _ _ ?_; clear hn he hr K') | (with_reducible refine hr _ _ ?_; clear hn he hr K') | ((with_reducible refine Eqn.mk (fun hq => ?_) ?_) <;> first | contradiction | skip) | (with_reducible first | refine Bo.yes (by decide) ?_ | refine Bo.no (by decide) ?_) | ((with_reducible refine Bo.gen (fun c hb => ?_)) <;> (try simp only [Nat.reduceAdd, toD, toDs, dInt, dBool, dStr, dList, dFs, dFld, List.getD_cons_zero, List.getD_cons_succ, Nat.zero_add, Int.reduceToNat] at hb) <;> (try simp only [cond_true, cond_false, toD, toDs, dInt, dBool, dStr, dList, dFs, dFld, List.getD_cons_zero, List.getD_cons_succ, Nat.zero_add, eqA, eqAs, decide_true, decide_false, beq_self_eq_true, Bool.not_true, Bool.not_false, Bool.and_true, Bool.true_and, Bool.and_self, cmpI, ↓reduceIte, Bool.false_eq_true, reduceCtorEq, Int.reduceEq, Int.reduceLT, Int.reduceLE, ok3] at hb) <;> first | (obtain rfl : c = true := hb) | (obtain rfl : c = false := hb) | skip) | ((with_reducible refine Br.cs (fun hq => ?_) (fun hq => ?_)) <;> (try simp only [cond_true, cond_false, toD, toDs, dInt, dBool, dStr, dList, dFs, dFld, List.getD_cons_zero, List.getD_cons_succ, Nat.zero_add, eqA, eqAs, decide_true, decide_false, beq_self_eq_true, Bool.not_true, Bool.not_false, Bool.and_true, Bool.true_and, Bool.and_self, cmpI, ↓reduceIte, Bool.false_eq_true, reduceCtorEq, Int.reduceEq, Int.reduceLT, Int.reduceLE, ok3] at hq) <;> first | contradiction | subst hq | skip) | (with_reducible first | refine Nd.mk trivial ?_ | refine Nd.mk (by decide) ?_ | refine Nd.mk ?_ ?_ | refine Leaf.mk rfl ?_ | refine LeafS.fin rfl ?_ | refine Fin.mk ?_ rfl | refine Fin.mk ?_ ?_) | ((with_reducible refine Nx.mk ?_ ?_ ?_ ?_) <;> first | rfl | skip) | ((conv => whnf); first | (with_reducible refine gn _ _ ?_; clear gn G) | (with_reducible refine gn _ _ _ _ ?_; clear gn G) | (with_reducible first | refine Wr.mk ?_) | (with_reducible refine hn _ _ ?_; clear hn he hr K') | (with_reducible refine he _ _ _ ?_; clear hn he hr K') | (with_reducible refine hr _ _ ?_; clear hn he hr K') | (with_reducible first | refine Nd.mk trivial ?_ | refine Nd.mk (by decide) ?_ | refine Nd.mk ?_ ?_ | refine Leaf.mk rfl ?_ | refine LeafS.fin rfl ?_ | refine Fin.mk ?_ rfl | refine Fin.mk ?_ ?_) | ((with_reducible refine Nx.mk ?_ ?_ ?_ ?_) <;> first | rfl | skip) | (with_reducible first | show Bo _ _ | show Br _ _ _ | show Eqn _ _ _)))
    all_goals rfl
  · trivial
end Go.Vc.Seat
