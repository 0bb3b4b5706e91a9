/- A part of the proof of the seat's laws: PfPbb3. It states no claim by itself. -/
import Derived.Test.YtdhfofnfhlnjbaaPfPbb2
set_option linter.unusedVariables false
set_option linter.unusedSimpArgs false
namespace Go.Vc.Seat
open Go.Vc Go.Proofs.Try
theorem sameBf_self (da sa : List D) (p : Int) (d : Bool) (v : Int) (q : Int) (e u : Bool) (i : Int) (ia ib : List D) (rest : List D) : sameBf da sa p d v q e u i ia ib rest da sa p d v q e u i ia ib rest = true := by
  unfold sameBf
  simp [eq6, eqDn_int, eqTag, eqITag, sameB_self]
theorem sameBf_eq (da sa : List D) (p : Int) (d : Bool) (v : Int) (q : Int) (e u : Bool) (i : Int) (ia ib : List D) (rest : List D) (da' sa' : List D) (p' : Int) (d' : Bool) (v' : Int) (q' : Int) (e' u' : Bool) (i' : Int) (ia' ib' : List D) (rest' : List D) :
    sameBf da sa p d v q e u i ia ib rest da' sa' p' d' v' q' e' u' i' ia' ib' rest' = (eqDn (eqD (.int .u8)) 6 da da' && eqDn (eqD (.int .u8)) 6 sa sa' && (decide (p = p') && ((d == d') && decide (v = v'))) && (decide (q = q') && ((e == e') && ((u == u') && (decide (i = i') && (eqDn (eqD (.int .u8)) 6 ia ia' && eqDn (eqD (.int .u8)) 6 ib ib'))))) && sameB rest rest') := rfl
set_option maxRecDepth 20000 in
set_option maxHeartbeats 4000000 in
theorem pok_r04_Same : POK prog orc f_r04_Same := by
  refine pok_of ok_r04_Same mixed (by simp [ac_r04_Same, acP, callsP]) (by simp [ac_r04_Same, acS, callsS]) fun args hok => ?_
  show Fits orc nt_r04_Same rs_r04_Same ac_r04_Same args (pBfSame args)
  unfold ac_r04_Same
  unfold pBfSame
  split
  · rename_i da sa p d v q e u i ia ib rest da' sa' p' d' v' q' e' u' i' ia' ib' rest'
    obtain ⟨X, hX, e0, e1, e2, e3, e4, e5, e6, e7, e8, e9, e10, e11⟩ := bfX da sa p d v q e u i ia ib rest
    obtain ⟨Y, hY, g0, g1, g2, g3, g4, g5, g6, g7, g8, g9, g10, g11⟩ := bfX da' sa' p' d' v' q' e' u' i' ia' ib' rest'
    refine ⟨rfl, ?_⟩
    clear hok
    refine st_seq (fun K1 hn1 he1 hr1 => ?_)
    repeat' (first
      | (with_reducible first | refine st_seq (fun K' hn he hr => ?_) | refine st_block (fun K' hn he hr => ?_) | refine st_region ?_ | refine st_draw ?_ | refine st_cond ?_ | refine st_skip ?_ | refine st_exit ?_ | refine st_ret ?_ | refine st_loop ?_ | refine st_op (fun G gn => ?_) | refine st_nil ?_ | refine st_gop ?_ | refine st_dop (fun G gn => ?_) | refine st_dnil ?_ | refine st_gdop ?_ | refine st_tl ?_)
      | (with_reducible refine gn _ _ ?_; clear gn G)
      | (with_reducible refine gn _ _ _ _ ?_; clear gn G)
      | (with_reducible refine Wr.mk ?_)
      | (with_reducible refine hn _ _ ?_; clear hn he hr K')
      | (with_reducible refine he _ _ _ ?_; clear hn he hr K')
      | (with_reducible refine hr _ _ ?_; clear hn he hr K')
      | ((with_reducible refine Eqn.mk (fun hq => ?_) ?_) <;> first | contradiction | skip)
      | (with_reducible refine Bo.yes (by decide) ?_)
      | (with_reducible refine Bo.no (by decide) ?_)
      | ((with_reducible refine Bo.gen (fun c hb => ?_)) <;> (try simp only [Nat.reduceAdd, toD, toDs, dInt, dBool, dStr, dList, dFs, dFld, List.getD_cons_zero, List.getD_cons_succ, Nat.zero_add, Int.reduceToNat] at hb) <;> (try simp only [cond_true, cond_false, toD, toDs, dInt, dBool, dStr, dList, dFs, dFld, List.getD_cons_zero, List.getD_cons_succ, Nat.zero_add, eqA, eqAs, decide_true, decide_false, beq_self_eq_true, Bool.not_true, Bool.not_false, Bool.and_true, Bool.true_and, Bool.and_self, cmpI, ↓reduceIte, Bool.false_eq_true, reduceCtorEq, Int.reduceEq, Int.reduceLT, Int.reduceLE] at hb) <;> first | (obtain rfl : c = true := hb) | (obtain rfl : c = false := hb) | skip)
      | ((with_reducible refine Br.cs (fun hq => ?_) (fun hq => ?_)) <;> (try simp only [cond_true, cond_false, toD, toDs, dInt, dBool, dStr, dList, dFs, dFld, List.getD_cons_zero, List.getD_cons_succ, Nat.zero_add, eqA, eqAs, decide_true, decide_false, beq_self_eq_true, Bool.not_true, Bool.not_false, Bool.and_true, Bool.true_and, Bool.and_self, cmpI, ↓reduceIte, Bool.false_eq_true, reduceCtorEq, Int.reduceEq, Int.reduceLT, Int.reduceLE] at hq) <;> first | contradiction | subst hq | skip)
      | (with_reducible refine Nd.mk trivial ?_)
      | (with_reducible refine Nd.mk (by decide) ?_)
      | (with_reducible refine Nd.mk ?_ ?_)
      | (with_reducible refine Leaf.mk rfl ?_)
      | (with_reducible refine LeafS.fin rfl ?_)
      | (with_reducible refine Fin.mk ?_ rfl)
      | (with_reducible refine Fin.mk ?_ ?_)
      | ((with_reducible refine Nx.mk ?_ ?_ ?_ ?_) <;> first | rfl | skip)
      | (conv => whnf
         first
           | (with_reducible refine gn _ _ ?_; clear gn G)
           | (with_reducible refine gn _ _ _ _ ?_; clear gn G)
           | (with_reducible refine Wr.mk ?_)
           | (with_reducible refine hn _ _ ?_; clear hn he hr K')
           | (with_reducible refine he _ _ _ ?_; clear hn he hr K')
           | (with_reducible refine hr _ _ ?_; clear hn he hr K')
           | (with_reducible refine Nd.mk trivial ?_)
           | (with_reducible refine Nd.mk (by decide) ?_)
           | (with_reducible refine Nd.mk ?_ ?_)
           | (with_reducible refine Leaf.mk rfl ?_)
           | (with_reducible refine LeafS.fin rfl ?_)
           | (with_reducible refine Fin.mk ?_ rfl)
           | (with_reducible refine Fin.mk ?_ ?_)
           | ((with_reducible refine Nx.mk ?_ ?_ ?_ ?_) <;> first | rfl | skip)
           | (with_reducible show Bo _ _)
           | (with_reducible show Br _ _ _)
           | (with_reducible show Eqn _ _ _)))
    refine hn1 _ _ ?_
    clear hn1 he1 hr1 K1
    rw [hX, hY]
    clear hX hY
    repeat' (first
      | (with_reducible first | refine st_seq (fun K' hn he hr => ?_) | refine st_block (fun K' hn he hr => ?_) | refine st_region ?_ | refine st_draw ?_ | refine st_cond ?_ | refine st_skip ?_ | refine st_exit ?_ | refine st_ret ?_ | refine st_loop ?_ | refine st_op (fun G gn => ?_) | refine st_nil ?_ | refine st_gop ?_ | refine st_dop (fun G gn => ?_) | refine st_dnil ?_ | refine st_gdop ?_ | refine st_tl ?_)
      | (with_reducible refine gn _ _ ?_; clear gn G)
      | (with_reducible refine gn _ _ _ _ ?_; clear gn G)
      | (with_reducible refine Wr.mk ?_)
      | (with_reducible refine hn _ _ ?_; clear hn he hr K')
      | (with_reducible refine he _ _ _ ?_; clear hn he hr K')
      | (with_reducible refine hr _ _ ?_; clear hn he hr K')
      | ((with_reducible refine Eqn.mk (fun hq => ?_) ?_) <;> first | contradiction | skip)
      | (with_reducible refine Bo.yes (by decide) ?_)
      | (with_reducible refine Bo.no (by decide) ?_)
      | ((with_reducible refine Bo.gen (fun c hb => ?_)) <;> (try simp only [Nat.reduceAdd, toD, toDs, dInt, dBool, dStr, dList, dFs, dFld, List.getD_cons_zero, List.getD_cons_succ, Nat.zero_add, Int.reduceToNat] at hb) <;> (try simp only [cond_true, cond_false, toD, toDs, dInt, dBool, dStr, dList, dFs, dFld, List.getD_cons_zero, List.getD_cons_succ, Nat.zero_add, eqA, eqAs, decide_true, decide_false, beq_self_eq_true, Bool.not_true, Bool.not_false, Bool.and_true, Bool.true_and, Bool.and_self, cmpI, ↓reduceIte, Bool.false_eq_true, reduceCtorEq, Int.reduceEq, Int.reduceLT, Int.reduceLE, e0, e1, e2, e3, e4, e5, e6, e7, e8, e9, e10, e11, g0, g1, g2, g3, g4, g5, g6, g7, g8, g9, g10, g11] at hb) <;> first | (obtain rfl : c = true := hb) | (obtain rfl : c = false := hb) | skip)
      | ((with_reducible refine Br.cs (fun hq => ?_) (fun hq => ?_)) <;> (try simp only [cond_true, cond_false, toD, toDs, dInt, dBool, dStr, dList, dFs, dFld, List.getD_cons_zero, List.getD_cons_succ, Nat.zero_add, eqA, eqAs, decide_true, decide_false, beq_self_eq_true, Bool.not_true, Bool.not_false, Bool.and_true, Bool.true_and, Bool.and_self, cmpI, ↓reduceIte, Bool.false_eq_true, reduceCtorEq, Int.reduceEq, Int.reduceLT, Int.reduceLE, e0, e1, e2, e3, e4, e5, e6, e7, e8, e9, e10, e11, g0, g1, g2, g3, g4, g5, g6, g7, g8, g9, g10, g11] at hq) <;> first | contradiction | subst hq | skip)
      | (with_reducible refine Nd.mk trivial ?_)
      | (with_reducible refine Nd.mk (by decide) ?_)
      | (with_reducible refine Nd.mk ?_ ?_)
      | (with_reducible refine Leaf.mk rfl ?_)
      | (with_reducible refine LeafS.fin rfl ?_)
      | (with_reducible refine Fin.mk ?_ rfl)
      | (with_reducible refine Fin.mk ?_ ?_)
      | ((with_reducible refine Nx.mk ?_ ?_ ?_ ?_) <;> first | rfl | skip)
      | (conv => whnf
         first
           | (with_reducible refine gn _ _ ?_; clear gn G)
           | (with_reducible refine gn _ _ _ _ ?_; clear gn G)
           | (with_reducible refine Wr.mk ?_)
           | (with_reducible refine hn _ _ ?_; clear hn he hr K')
           | (with_reducible refine he _ _ _ ?_; clear hn he hr K')
           | (with_reducible refine hr _ _ ?_; clear hn he hr K')
           | (with_reducible refine Nd.mk trivial ?_)
           | (with_reducible refine Nd.mk (by decide) ?_)
           | (with_reducible refine Nd.mk ?_ ?_)
           | (with_reducible refine Leaf.mk rfl ?_)
           | (with_reducible refine LeafS.fin rfl ?_)
           | (with_reducible refine Fin.mk ?_ rfl)
           | (with_reducible refine Fin.mk ?_ ?_)
           | ((with_reducible refine Nx.mk ?_ ?_ ?_ ?_) <;> first | rfl | skip)
           | (with_reducible show Bo _ _)
           | (with_reducible show Br _ _ _)
           | (with_reducible show Eqn _ _ _)))
    all_goals (refine congrArg AV.bool ?_; rw [sameBf_eq])
    all_goals first | (simp_all; done) | (simp_all [sameB]; done)
  · trivial
set_option maxRecDepth 20000 in
set_option maxHeartbeats 4000000 in
theorem pok_pbb_Same : POK prog orc f_pbb_Same := by
  refine pok_of ok_pbb_Same mixed (by simp [ac_pbb_Same, acP, callsP, pok_slices_Equal_u8]) (by simp [ac_pbb_Same, acS, callsS]) fun args hok => ?_
  show Fits orc nt_pbb_Same rs_pbb_Same ac_pbb_Same args (pBfSame args)
  unfold ac_pbb_Same
  unfold pBfSame
  split
  · rename_i da sa p d v q e u i ia ib rest da' sa' p' d' v' q' e' u' i' ia' ib' rest'
    obtain ⟨X, hX, e0, e1, e2, e3, e4, e5, e6, e7, e8, e9, e10, e11⟩ := bfX da sa p d v q e u i ia ib rest
    obtain ⟨Y, hY, g0, g1, g2, g3, g4, g5, g6, g7, g8, g9, g10, g11⟩ := bfX da' sa' p' d' v' q' e' u' i' ia' ib' rest'
    refine ⟨rfl, ?_⟩
    clear hok
    refine st_seq (fun K1 hn1 he1 hr1 => ?_)
    repeat' (first
      | (with_reducible first | refine st_seq (fun K' hn he hr => ?_) | refine st_block (fun K' hn he hr => ?_) | refine st_region ?_ | refine st_draw ?_ | refine st_cond ?_ | refine st_skip ?_ | refine st_exit ?_ | refine st_ret ?_ | refine st_loop ?_ | refine st_op (fun G gn => ?_) | refine st_nil ?_ | refine st_gop ?_ | refine st_dop (fun G gn => ?_) | refine st_dnil ?_ | refine st_gdop ?_ | refine st_tl ?_)
      | (with_reducible refine gn _ _ ?_; clear gn G)
      | (with_reducible refine gn _ _ _ _ ?_; clear gn G)
      | (with_reducible refine Wr.mk ?_)
      | (with_reducible refine hn _ _ ?_; clear hn he hr K')
      | (with_reducible refine he _ _ _ ?_; clear hn he hr K')
      | (with_reducible refine hr _ _ ?_; clear hn he hr K')
      | ((with_reducible refine Eqn.mk (fun hq => ?_) ?_) <;> first | contradiction | skip)
      | (with_reducible refine Bo.yes (by decide) ?_)
      | (with_reducible refine Bo.no (by decide) ?_)
      | ((with_reducible refine Bo.gen (fun c hb => ?_)) <;> (try simp only [Nat.reduceAdd, toD, toDs, dInt, dBool, dStr, dList, dFs, dFld, List.getD_cons_zero, List.getD_cons_succ, Nat.zero_add, Int.reduceToNat] at hb) <;> (try simp only [cond_true, cond_false, toD, toDs, dInt, dBool, dStr, dList, dFs, dFld, List.getD_cons_zero, List.getD_cons_succ, Nat.zero_add, eqA, eqAs, decide_true, decide_false, beq_self_eq_true, Bool.not_true, Bool.not_false, Bool.and_true, Bool.true_and, Bool.and_self, cmpI, ↓reduceIte, Bool.false_eq_true, reduceCtorEq, Int.reduceEq, Int.reduceLT, Int.reduceLE] at hb) <;> first | (obtain rfl : c = true := hb) | (obtain rfl : c = false := hb) | skip)
      | ((with_reducible refine Br.cs (fun hq => ?_) (fun hq => ?_)) <;> (try simp only [cond_true, cond_false, toD, toDs, dInt, dBool, dStr, dList, dFs, dFld, List.getD_cons_zero, List.getD_cons_succ, Nat.zero_add, eqA, eqAs, decide_true, decide_false, beq_self_eq_true, Bool.not_true, Bool.not_false, Bool.and_true, Bool.true_and, Bool.and_self, cmpI, ↓reduceIte, Bool.false_eq_true, reduceCtorEq, Int.reduceEq, Int.reduceLT, Int.reduceLE] at hq) <;> first | contradiction | subst hq | skip)
      | (with_reducible refine Nd.mk trivial ?_)
      | (with_reducible refine Nd.mk (by decide) ?_)
      | (with_reducible refine Nd.mk ?_ ?_)
      | (with_reducible refine Leaf.mk rfl ?_)
      | (with_reducible refine LeafS.fin rfl ?_)
      | (with_reducible refine Fin.mk ?_ rfl)
      | (with_reducible refine Fin.mk ?_ ?_)
      | ((with_reducible refine Nx.mk ?_ ?_ ?_ ?_) <;> first | rfl | skip)
      | (conv => whnf
         first
           | (with_reducible refine gn _ _ ?_; clear gn G)
           | (with_reducible refine gn _ _ _ _ ?_; clear gn G)
           | (with_reducible refine Wr.mk ?_)
           | (with_reducible refine hn _ _ ?_; clear hn he hr K')
           | (with_reducible refine he _ _ _ ?_; clear hn he hr K')
           | (with_reducible refine hr _ _ ?_; clear hn he hr K')
           | (with_reducible refine Nd.mk trivial ?_)
           | (with_reducible refine Nd.mk (by decide) ?_)
           | (with_reducible refine Nd.mk ?_ ?_)
           | (with_reducible refine Leaf.mk rfl ?_)
           | (with_reducible refine LeafS.fin rfl ?_)
           | (with_reducible refine Fin.mk ?_ rfl)
           | (with_reducible refine Fin.mk ?_ ?_)
           | ((with_reducible refine Nx.mk ?_ ?_ ?_ ?_) <;> first | rfl | skip)
           | (with_reducible show Bo _ _)
           | (with_reducible show Br _ _ _)
           | (with_reducible show Eqn _ _ _)))
    refine hn1 _ _ ?_
    clear hn1 he1 hr1 K1
    rw [hX, hY]
    clear hX hY
    repeat' (first
      | (with_reducible first | refine st_seq (fun K' hn he hr => ?_) | refine st_block (fun K' hn he hr => ?_) | refine st_region ?_ | refine st_draw ?_ | refine st_cond ?_ | refine st_skip ?_ | refine st_exit ?_ | refine st_ret ?_ | refine st_loop ?_ | refine st_op (fun G gn => ?_) | refine st_nil ?_ | refine st_gop ?_ | refine st_dop (fun G gn => ?_) | refine st_dnil ?_ | refine st_gdop ?_ | refine st_tl ?_)
      | (with_reducible refine gn _ _ ?_; clear gn G)
      | (with_reducible refine gn _ _ _ _ ?_; clear gn G)
      | (with_reducible refine Wr.mk ?_)
      | (with_reducible refine hn _ _ ?_; clear hn he hr K')
      | (with_reducible refine he _ _ _ ?_; clear hn he hr K')
      | (with_reducible refine hr _ _ ?_; clear hn he hr K')
      | ((with_reducible refine Eqn.mk (fun hq => ?_) ?_) <;> first | contradiction | skip)
      | (with_reducible refine Bo.yes (by decide) ?_)
      | (with_reducible refine Bo.no (by decide) ?_)
      | ((with_reducible refine Bo.gen (fun c hb => ?_)) <;> (try simp only [Nat.reduceAdd, toD, toDs, dInt, dBool, dStr, dList, dFs, dFld, List.getD_cons_zero, List.getD_cons_succ, Nat.zero_add, Int.reduceToNat] at hb) <;> (try simp only [cond_true, cond_false, toD, toDs, dInt, dBool, dStr, dList, dFs, dFld, List.getD_cons_zero, List.getD_cons_succ, Nat.zero_add, eqA, eqAs, decide_true, decide_false, beq_self_eq_true, Bool.not_true, Bool.not_false, Bool.and_true, Bool.true_and, Bool.and_self, cmpI, ↓reduceIte, Bool.false_eq_true, reduceCtorEq, Int.reduceEq, Int.reduceLT, Int.reduceLE, e0, e1, e2, e3, e4, e5, e6, e7, e8, e9, e10, e11, g0, g1, g2, g3, g4, g5, g6, g7, g8, g9, g10, g11] at hb) <;> first | (obtain rfl : c = true := hb) | (obtain rfl : c = false := hb) | skip)
      | ((with_reducible refine Br.cs (fun hq => ?_) (fun hq => ?_)) <;> (try simp only [cond_true, cond_false, toD, toDs, dInt, dBool, dStr, dList, dFs, dFld, List.getD_cons_zero, List.getD_cons_succ, Nat.zero_add, eqA, eqAs, decide_true, decide_false, beq_self_eq_true, Bool.not_true, Bool.not_false, Bool.and_true, Bool.true_and, Bool.and_self, cmpI, ↓reduceIte, Bool.false_eq_true, reduceCtorEq, Int.reduceEq, Int.reduceLT, Int.reduceLE, e0, e1, e2, e3, e4, e5, e6, e7, e8, e9, e10, e11, g0, g1, g2, g3, g4, g5, g6, g7, g8, g9, g10, g11] at hq) <;> first | contradiction | subst hq | skip)
      | (with_reducible refine Nd.mk trivial ?_)
      | (with_reducible refine Nd.mk (by decide) ?_)
      | (with_reducible refine Nd.mk ?_ ?_)
      | (with_reducible refine Leaf.mk rfl ?_)
      | (with_reducible refine LeafS.fin rfl ?_)
      | (with_reducible refine Fin.mk ?_ rfl)
      | (with_reducible refine Fin.mk ?_ ?_)
      | ((with_reducible refine Nx.mk ?_ ?_ ?_ ?_) <;> first | rfl | skip)
      | (conv => whnf
         first
           | (with_reducible refine gn _ _ ?_; clear gn G)
           | (with_reducible refine gn _ _ _ _ ?_; clear gn G)
           | (with_reducible refine Wr.mk ?_)
           | (with_reducible refine hn _ _ ?_; clear hn he hr K')
           | (with_reducible refine he _ _ _ ?_; clear hn he hr K')
           | (with_reducible refine hr _ _ ?_; clear hn he hr K')
           | (with_reducible refine Nd.mk trivial ?_)
           | (with_reducible refine Nd.mk (by decide) ?_)
           | (with_reducible refine Nd.mk ?_ ?_)
           | (with_reducible refine Leaf.mk rfl ?_)
           | (with_reducible refine LeafS.fin rfl ?_)
           | (with_reducible refine Fin.mk ?_ rfl)
           | (with_reducible refine Fin.mk ?_ ?_)
           | ((with_reducible refine Nx.mk ?_ ?_ ?_ ?_) <;> first | rfl | skip)
           | (with_reducible show Bo _ _)
           | (with_reducible show Br _ _ _)
           | (with_reducible show Eqn _ _ _)))
    all_goals (refine congrArg AV.bool ?_; rw [sameBf_eq])
    all_goals first | (simp_all; done) | (simp_all [sameB]; done)
  · trivial
end Go.Vc.Seat
