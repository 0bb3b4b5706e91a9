/- A part of the proof of the seat's laws: PfTagPuts. It states no claim by itself. -/
import Derived.Test.YtgcakbnkeiajeaaPfTag3
set_option linter.unusedVariables false
set_option linter.unusedSimpArgs false
namespace Go.Vc.Seat
open Go.Vc Go.Proofs.Try

set_option maxHeartbeats 4000000 in
theorem pok_l02_TagPuts : POK prog orc f_l02_TagPuts := by
  refine pok_of ok_l02_TagPuts mixed (by simp [ac_l02_TagPuts, acP, callsP, pok_tag_Put, pok_r02_Put, pok_tag_PutI, pok_r02_PutI, pok_tag_Check, pok_r02_Check, pok_tag_CheckI, pok_r02_CheckI, pok_l02_awake]) (by simp [ac_l02_TagPuts, acS, callsS]) fun args hok => ?_
  show Fits orc nt_l02_TagPuts rs_l02_TagPuts ac_l02_TagPuts args (pTagPuts args)
  unfold ac_l02_TagPuts
  unfold pTagPuts
  split
  · rename_i p d v q e u i da sa
    refine ⟨rfl, ?_⟩
    cases ht : tagOK p v <;> cases hi : itagOK q i
    all_goals repeat' (first
                | (with_reducible refine st_seq (fun K' hn he hr => ?_)) | (with_reducible refine st_block (fun K' hn he hr => ?_)) | (with_reducible refine st_region ?_) | (with_reducible refine st_draw ?_) | (with_reducible refine st_cond ?_) | (with_reducible refine st_skip ?_) | (with_reducible refine st_exit ?_) | (with_reducible refine st_ret ?_) | (with_reducible refine st_loop ?_)
                | (with_reducible refine st_op (fun G gn => ?_)) | (with_reducible refine st_nil ?_) | (with_reducible refine st_gop ?_) | (with_reducible refine st_dop (fun G gn => ?_)) | (with_reducible refine st_dnil ?_) | (with_reducible refine st_gdop ?_) | (with_reducible refine st_tl ?_)
                | (with_reducible refine gn _ _ ?_; clear gn G)
                | (with_reducible refine gn _ _ _ _ ?_; clear gn G)
                | (with_reducible refine Wr.mk ?_)
                | (with_reducible refine hn _ _ ?_; clear hn he hr K')
                | (with_reducible refine he _ _ _ ?_; clear hn he hr K')
                | (with_reducible refine hr _ _ ?_; clear hn he hr K')
                | (with_reducible refine Bo.yes (by decide) ?_)
                | (with_reducible refine Bo.no (by decide) ?_)
                | ((with_reducible refine Bo.gen (fun c hb => ?_)) <;> (try simp only [cond_true, cond_false, toD, toDs, dInt, dBool, dStr, dList, dFs, dFld, List.getD_cons_zero, List.getD_cons_succ, Nat.zero_add, eqA, eqAs, decide_true, decide_false, beq_self_eq_true, Bool.not_true, Bool.not_false, Bool.and_true, Bool.true_and, Bool.and_self, cmpI, ↓reduceIte, Bool.false_eq_true, reduceCtorEq, Int.reduceEq, Int.reduceLT, Int.reduceLE, ht, hi] at hb) <;> first | (obtain rfl : c = true := hb) | (obtain rfl : c = false := hb) | skip)
                | ((with_reducible refine Br.cs (fun h => ?_) (fun h => ?_)) <;> (try simp only [cond_true, cond_false, toD, toDs, dInt, dBool, dStr, dList, dFs, dFld, List.getD_cons_zero, List.getD_cons_succ, Nat.zero_add, eqA, eqAs, decide_true, decide_false, beq_self_eq_true, Bool.not_true, Bool.not_false, Bool.and_true, Bool.true_and, Bool.and_self, cmpI, ↓reduceIte, Bool.false_eq_true, reduceCtorEq, Int.reduceEq, Int.reduceLT, Int.reduceLE, ht, hi] at h) <;> first | contradiction | subst h | skip)
                | (with_reducible refine Nd.mk trivial ?_)
                | (with_reducible refine Nd.mk (by decide) ?_)
                | (with_reducible refine Nd.mk ?_ ?_)
                | (with_reducible refine Leaf.mk rfl ?_)
                | (with_reducible refine Fin.mk ?_ rfl)
                | (with_reducible refine Fin.mk ?_ ?_)
                | ((with_reducible refine Nx.mk ?_ ?_ ?_ ?_) <;> first | rfl | skip)
                | (conv => whnf
                   first
                     | (with_reducible refine gn _ _ ?_; clear gn G)
                     | (with_reducible refine gn _ _ _ _ ?_; clear gn G)
                     | (with_reducible refine Wr.mk ?_)
                     | (with_reducible refine hn _ _ ?_; clear hn he hr K')
                     | (with_reducible refine he _ _ _ ?_; clear hn he hr K')
                     | (with_reducible refine hr _ _ ?_; clear hn he hr K')
                     | (with_reducible refine Bo.yes (by decide) ?_)
                     | (with_reducible refine Bo.no (by decide) ?_)
                     | ((with_reducible refine Bo.gen (fun c hb => ?_)) <;> (try simp only [cond_true, cond_false, toD, toDs, dInt, dBool, dStr, dList, dFs, dFld, List.getD_cons_zero, List.getD_cons_succ, Nat.zero_add, eqA, eqAs, decide_true, decide_false, beq_self_eq_true, Bool.not_true, Bool.not_false, Bool.and_true, Bool.true_and, Bool.and_self, cmpI, ↓reduceIte, Bool.false_eq_true, reduceCtorEq, Int.reduceEq, Int.reduceLT, Int.reduceLE, ht, hi] at hb) <;> first | (obtain rfl : c = true := hb) | (obtain rfl : c = false := hb) | skip)
                     | ((with_reducible refine Br.cs (fun h => ?_) (fun h => ?_)) <;> (try simp only [cond_true, cond_false, toD, toDs, dInt, dBool, dStr, dList, dFs, dFld, List.getD_cons_zero, List.getD_cons_succ, Nat.zero_add, eqA, eqAs, decide_true, decide_false, beq_self_eq_true, Bool.not_true, Bool.not_false, Bool.and_true, Bool.true_and, Bool.and_self, cmpI, ↓reduceIte, Bool.false_eq_true, reduceCtorEq, Int.reduceEq, Int.reduceLT, Int.reduceLE, ht, hi] at h) <;> first | contradiction | subst h | skip)
                     | (with_reducible refine Nd.mk trivial ?_)
                     | (with_reducible refine Nd.mk (by decide) ?_)
                     | (with_reducible refine Nd.mk ?_ ?_)
                     | (with_reducible refine Leaf.mk rfl ?_)
                     | (with_reducible refine Fin.mk ?_ rfl)
                     | (with_reducible refine Fin.mk ?_ ?_)
                     | ((with_reducible refine Nx.mk ?_ ?_ ?_ ?_) <;> first | rfl | skip)))
    all_goals rfl
  · trivial
end Go.Vc.Seat
