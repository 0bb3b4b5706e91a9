/- A part of the proof of the seat's laws: BcPfEth1. It states no claim by itself. -/
import Derived.Test.YtghpaogagolagaaBcPfTag5
import Derived.Test.YtghpaogagolagaaPfAto
set_option linter.unusedVariables false
set_option linter.unusedSimpArgs false
namespace Go.Vc.Seat
open Go.Vc Go.Proofs.Try

theorem pok_mac_Many : POK prog orc f_mac_Many := by
  refine pok_of ok_mac_Many mixed (by simp [ac_mac_Many, acP, callsP]) (by simp [ac_mac_Many, acS, callsS]) fun args hok => ?_
  show Fits orc nt_mac_Many rs_mac_Many ac_mac_Many args (pMany args)
  unfold ac_mac_Many
  unfold pMany
  split
  · rename_i m
    simp only [okAs, okA, maxLen] at hok
    have h0 := ato_le hok.1.2 0
    have e1 : bitI .and .u8 (m.getD 0 (.i 0)).int 1 = ato m 0 % 2 := by
      unfold ato at h0 ⊢
      rw [bit_and (k := .u8) (x := (m.getD 0 (.i 0)).int) (y := 1) rfl 1 (by decide) (by omega) (show _ < (2 : Int) ^ 8 by omega) rfl]; rfl
    refine ⟨rfl, ?_⟩
    repeat' (first | (with_reducible first | refine st_seq (fun K' hn he hr => ?_) | refine st_block (fun K' hn he hr => ?_) | refine st_region ?_ | refine st_tregion ?_ | refine st_draw ?_ | refine st_cond ?_ | refine st_skip ?_ | refine st_exit ?_ | refine st_ret ?_ | refine st_loop ?_ | refine st_op (fun G gn => ?_) | refine st_nil ?_ | refine st_gop ?_ | refine st_dop (fun G gn => ?_) | refine st_dnil ?_ | refine st_gdop ?_ | refine st_tl ?_) | (with_reducible refine gn _ _ ?_; clear gn G) | (with_reducible refine gn _ _ _ _ ?_; clear gn G) | (with_reducible first | refine Wr.mk ?_) | (with_reducible refine hn _ _ ?_; clear hn he hr K') | (with_reducible refine he _ _ _ ?_; clear hn he hr K') | (with_reducible refine hr _ _ ?_; clear hn he hr K') | ((with_reducible refine Eqn.mk (fun hq => ?_) ?_) <;> first | contradiction | skip) | (with_reducible first | refine Bo.yes (by decide) ?_ | refine Bo.no (by decide) ?_) | ((with_reducible refine Bo.gen (fun c hb => ?_)) <;> (try simp only [Nat.reduceAdd, toD, toDs, dInt, dBool, dStr, dList, dFs, dFld, List.getD_cons_zero, List.getD_cons_succ, Nat.zero_add, Int.reduceToNat] at hb) <;> (try simp only [cond_true, cond_false, toD, toDs, dInt, dBool, dStr, dList, dFs, dFld, List.getD_cons_zero, List.getD_cons_succ, Nat.zero_add, eqA, eqAs, decide_true, decide_false, beq_self_eq_true, Bool.not_true, Bool.not_false, Bool.and_true, Bool.true_and, Bool.and_self, cmpI, ↓reduceIte, Bool.false_eq_true, reduceCtorEq, Int.reduceEq, Int.reduceLT, Int.reduceLE] at hb) <;> first | (obtain rfl : c = true := hb) | (obtain rfl : c = false := hb) | skip) | ((with_reducible refine Br.cs (fun hq => ?_) (fun hq => ?_)) <;> (try simp only [cond_true, cond_false, toD, toDs, dInt, dBool, dStr, dList, dFs, dFld, List.getD_cons_zero, List.getD_cons_succ, Nat.zero_add, eqA, eqAs, decide_true, decide_false, beq_self_eq_true, Bool.not_true, Bool.not_false, Bool.and_true, Bool.true_and, Bool.and_self, cmpI, ↓reduceIte, Bool.false_eq_true, reduceCtorEq, Int.reduceEq, Int.reduceLT, Int.reduceLE] at hq) <;> first | contradiction | subst hq | skip) | (with_reducible first | refine Nd.mk trivial ?_ | refine Nd.mk (by decide) ?_ | refine Nd.mk ?_ ?_ | refine Leaf.mk rfl ?_ | refine LeafS.fin rfl ?_ | refine Fin.mk ?_ rfl | refine Fin.mk ?_ ?_) | ((with_reducible refine Nx.mk ?_ ?_ ?_ ?_) <;> first | rfl | skip) | ((conv => whnf); first | (with_reducible refine gn _ _ ?_; clear gn G) | (with_reducible refine gn _ _ _ _ ?_; clear gn G) | (with_reducible first | refine Wr.mk ?_) | (with_reducible refine hn _ _ ?_; clear hn he hr K') | (with_reducible refine he _ _ _ ?_; clear hn he hr K') | (with_reducible refine hr _ _ ?_; clear hn he hr K') | (with_reducible first | refine Nd.mk trivial ?_ | refine Nd.mk (by decide) ?_ | refine Nd.mk ?_ ?_ | refine Leaf.mk rfl ?_ | refine LeafS.fin rfl ?_ | refine Fin.mk ?_ rfl | refine Fin.mk ?_ ?_) | ((with_reducible refine Nx.mk ?_ ?_ ?_ ?_) <;> first | rfl | skip) | (with_reducible first | show Bo _ _ | show Br _ _ _ | show Eqn _ _ _)))
    all_goals (try simp only [toD, toDs, dInt, dBool, dStr, dList, dFs, dFld, List.getD_cons_zero, List.getD_cons_succ, Nat.zero_add, Int.reduceToNat, Nat.reduceAdd, setPartsD, zeroDs, List.replicate, List.set_cons_zero, List.set_cons_succ, zeroD, Nat.reduceMul, Nat.reducePow, Int.reducePow, Int.reduceMul, Nat.min_def, IntKind.bits, Nat.reduceLeDiff, ct_eq, cf_eq, ct_ne, cf_ne, ct_lt, cf_lt, ct_le, cf_le, ct_gt, cf_gt, ct_ge, cf_ge, ct_not, cf_not, ct_and, cf_and, ct_dec, cf_dec, cond_true, cond_false, i_nil, Int.toNat_natCast, Nat.sub_zero, List.drop_zero, ↓reduceIte, Bool.false_eq_true, Int.sub_zero, Int.add_zero, e1] at *)
    all_goals first | contradiction | (exfalso; omega) | (exfalso; simp_all only [Bool.false_eq_true, reduceCtorEq]; done) | skip
    subst_vars
    rfl
  · trivial
theorem six_step {P : Nat → Prop} {i : Nat} (h : ∀ j, j < i → P j) (hi : P i) : ∀ j, j < i + 1 → P j := fun j hj => by
  rcases Nat.lt_or_eq_of_le (Nat.le_of_lt_succ hj) with h1 | h1
  · exact h j h1
  · subst h1; exact hi
end Go.Vc.Seat
