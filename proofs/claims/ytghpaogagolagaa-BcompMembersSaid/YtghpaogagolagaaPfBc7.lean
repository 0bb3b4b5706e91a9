/- A part of the proof of the seat's laws: PfBc7. It states no claim by itself. -/
import Derived.Test.YtghpaogagolagaaPfBc6
import Derived.Test.YtghpaogagolagaaPfBc4
set_option linter.unusedVariables false
set_option linter.unusedSimpArgs false
namespace Go.Vc.Seat
open Go.Vc Go.Proofs.Try

set_option maxRecDepth 20000 in
set_option maxHeartbeats 8000000 in
theorem pok_l19_awake : POK prog orc f_l19_awake := by
  refine pok_of ok_l19_awake mixed (by simp [ac_l19_awake, acP, callsP, pok_bcomp_Out, pok_r18_SameInts, pok_bcomp_In, pok_bcomp_Learns, pok_bcomp_Accept]) (by simp [ac_l19_awake, acS, callsS]) fun args hok => ?_
  show Fits orc nt_l19_awake rs_l19_awake ac_l19_awake args (pYes19 args)
  unfold ac_l19_awake
  unfold pYes19
  split
  · refine ⟨rfl, ?_⟩
    clear hok
    repeat' (first | (with_reducible first | refine st_seq (fun K' hn he hr => ?_) | refine st_block (fun K' hn he hr => ?_) | refine st_region ?_ | refine st_tregion ?_ | refine st_draw ?_ | refine st_cond ?_ | refine st_loop ?_ | refine st_op (fun G gn => ?_) | refine st_gop ?_ | refine st_dop (fun G gn => ?_) | refine st_gdop ?_ | refine st_tl ?_) | ((conv => whnf); first | (with_reducible first | (refine gn _ _ ?_; clear gn G) | (refine gn _ _ _ _ ?_; clear gn G) | refine Wr.mk ?_ | (refine hn _ _ ?_; clear hn he hr K') | (refine he _ _ _ ?_; clear hn he hr K') | (refine hr _ _ ?_; clear hn he hr K') | refine Bo.yes (by decide) ?_ | refine Bo.no (by decide) ?_ | refine Nd.mk trivial ?_ | refine Nd.mk (by decide) ?_ | refine Nd.mk ?_ ?_ | refine Leaf.mk rfl ?_ | refine LeafS.fin rfl ?_ | refine Fin.mk ?_ rfl | refine Fin.mk ?_ ?_) | ((with_reducible refine Eqn.mk (fun hq => ?_) ?_) <;> try contradiction) | ((with_reducible refine Bo.gen (fun c hb => ?_)) <;> (try simp only [Nat.reduceAdd, Int.reduceToNat, toD, toDs, bl0, List.getD_cons_zero, List.getD_cons_succ] at hb) <;> (try simp only [↓reduceIte, reduceCtorEq, Int.reduceEq, Int.reduceLT, Int.reduceLE, eqA, eqAs, cmpI, cond_true, cond_false, beq_self_eq_true, bl1, toD, toDs, bl0, List.getD_cons_zero, List.getD_cons_succ] at hb) <;> first | (obtain rfl : c = true := hb) | (obtain rfl : c = false := hb) | skip) | ((with_reducible refine Br.cs (fun hq => ?_) (fun hq => ?_)) <;> (try simp only [↓reduceIte, reduceCtorEq, Int.reduceEq, Int.reduceLT, Int.reduceLE, eqA, eqAs, cmpI, cond_true, cond_false, beq_self_eq_true, bl1, toD, toDs, bl0, List.getD_cons_zero, List.getD_cons_succ] at hq) <;> first | contradiction | subst hq | skip) | ((with_reducible refine Nx.mk ?_ ?_ ?_ ?_) <;> try rfl)))
    all_goals first | rfl | exact Nat.le_of_ble_eq_true (by kernel_rfl)
  · trivial
end Go.Vc.Seat
