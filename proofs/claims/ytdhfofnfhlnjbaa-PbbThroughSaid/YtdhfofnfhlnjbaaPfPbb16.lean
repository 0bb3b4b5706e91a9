/- A part of the proof of the seat's laws: PfPbb16. It states no claim by itself. -/
import Derived.Test.YtdhfofnfhlnjbaaPfPbb14
set_option linter.unusedVariables false
set_option linter.unusedSimpArgs false
namespace Go.Vc.Seat
open Go.Vc Go.Proofs.Try
set_option maxRecDepth 20000 in
set_option maxHeartbeats 16000000 in
theorem pok_l04_PbbThrough : POK prog orc f_l04_PbbThrough := by
  refine pok_of ok_l04_PbbThrough mixed (by simp [ac_l04_PbbThrough, acP, callsP, pok_l04_few, pok_pbb_Hide, pok_pbb_Encode, pok_pbb_Decode, pok_pbb_Show, pok_r04_Same, pok_r03_Same, pok_l04_awake]) (by simp [ac_l04_PbbThrough, acS, callsS]) fun args hok => ?_
  show Fits orc nt_l04_PbbThrough rs_l04_PbbThrough ac_l04_PbbThrough args (pBfThrough args)
  unfold ac_l04_PbbThrough
  unfold pBfThrough
  split
  · rename_i da sa t p d v rest isid w o own to
    simp only [okAs, okA, maxLen] at hok
    have lda := hok.1.1.1
    have lsa := hok.1.2.1.1
    have ho := hok.2.2.2.1
    have low := hok.2.2.2.2.1.1
    have lto := hok.2.2.2.2.2.1.1
    refine ⟨rfl, ?_⟩
    clear hok
    cases hz : isZ (frChk da sa t p d v (rest.take 1510))
    · have hz0 : ¬ frChk da sa t p d v (rest.take 1510) = 0 := fun h => by rw [isZ_iff.2 h] at hz; cases hz
      repeat' (first
        | (with_reducible first | refine st_seq (fun K' hn he hr => ?_) | refine st_block (fun K' hn he hr => ?_) | refine st_region ?_ | refine st_draw ?_ | refine st_cond ?_ | refine st_skip ?_ | refine st_exit ?_ | refine st_ret ?_ | refine st_loop ?_ | refine st_op (fun G gn => ?_) | refine st_nil ?_ | refine st_gop ?_ | refine st_dop (fun G gn => ?_) | refine st_dnil ?_ | refine st_gdop ?_ | refine st_tl ?_)
        | (with_reducible refine gn _ _ ?_; clear gn G)
        | (with_reducible refine gn _ _ _ _ ?_; clear gn G)
        | (with_reducible refine Wr.mk ?_)
        | (with_reducible refine hn _ _ ?_; clear hn he hr K')
        | (with_reducible refine he _ _ _ ?_; clear hn he hr K')
        | (with_reducible refine hr _ _ ?_; clear hn he hr K')
        | ((with_reducible refine Eqn.mk (fun hq => ?_) ?_) <;> first | contradiction | skip)
        | (with_reducible refine Bo.yes (by decide) ?_)
        | (with_reducible refine Bo.no (by decide) ?_)
        | ((with_reducible refine Bo.gen (fun c hb => ?_)) <;> (try simp only [Nat.reduceAdd, toD, toDs, dInt, dBool, dStr, dList, dFs, dFld, List.getD_cons_zero, List.getD_cons_succ, Nat.zero_add, Int.reduceToNat] at hb) <;> (try simp only [cond_true, cond_false, toD, toDs, dInt, dBool, dStr, dList, dFs, dFld, List.getD_cons_zero, List.getD_cons_succ, Nat.zero_add, eqA, eqAs, decide_true, decide_false, beq_self_eq_true, Bool.not_true, Bool.not_false, Bool.and_true, Bool.true_and, Bool.and_self, cmpI, ↓reduceIte, Bool.false_eq_true, reduceCtorEq, Int.reduceEq, Int.reduceLT, Int.reduceLE, hz, hz0, sameBf_self, sameFr_self, eqDn_int, eq_self, decide_true, Bool.not_true, Bool.not_false, beq_self_eq_true] at hb) <;> first | (obtain rfl : c = true := hb) | (obtain rfl : c = false := hb) | skip)
        | ((with_reducible refine Br.cs (fun hq => ?_) (fun hq => ?_)) <;> (try simp only [cond_true, cond_false, toD, toDs, dInt, dBool, dStr, dList, dFs, dFld, List.getD_cons_zero, List.getD_cons_succ, Nat.zero_add, eqA, eqAs, decide_true, decide_false, beq_self_eq_true, Bool.not_true, Bool.not_false, Bool.and_true, Bool.true_and, Bool.and_self, cmpI, ↓reduceIte, Bool.false_eq_true, reduceCtorEq, Int.reduceEq, Int.reduceLT, Int.reduceLE, hz, hz0, sameBf_self, sameFr_self, eqDn_int, eq_self, decide_true, Bool.not_true, Bool.not_false, beq_self_eq_true] at hq) <;> first | contradiction | subst hq | skip)
        | (with_reducible refine Nd.mk trivial ?_)
        | (with_reducible refine Nd.mk (by decide) ?_)
        | (with_reducible refine Nd.mk ?_ ?_)
        | (with_reducible refine Leaf.mk rfl ?_)
        | (with_reducible refine LeafS.fin rfl ?_)
        | (with_reducible refine Fin.mk ?_ rfl)
        | (with_reducible refine Fin.mk ?_ ?_)
        | ((with_reducible refine Nx.mk ?_ ?_ ?_ ?_) <;> first | rfl | skip)
        | (conv => whnf
           first
             | (with_reducible refine gn _ _ ?_; clear gn G)
             | (with_reducible refine gn _ _ _ _ ?_; clear gn G)
             | (with_reducible refine Wr.mk ?_)
             | (with_reducible refine hn _ _ ?_; clear hn he hr K')
             | (with_reducible refine he _ _ _ ?_; clear hn he hr K')
             | (with_reducible refine hr _ _ ?_; clear hn he hr K')
             | (with_reducible refine Nd.mk trivial ?_)
             | (with_reducible refine Nd.mk (by decide) ?_)
             | (with_reducible refine Nd.mk ?_ ?_)
             | (with_reducible refine Leaf.mk rfl ?_)
             | (with_reducible refine LeafS.fin rfl ?_)
             | (with_reducible refine Fin.mk ?_ rfl)
             | (with_reducible refine Fin.mk ?_ ?_)
             | ((with_reducible refine Nx.mk ?_ ?_ ?_ ?_) <;> first | rfl | skip)
             | (with_reducible show Bo _ _)
             | (with_reducible show Br _ _ _)
             | (with_reducible show Eqn _ _ _)))
      all_goals first | rfl | omega
    · cases t
      · skip
        repeat' (first
          | (with_reducible first | refine st_seq (fun K' hn he hr => ?_) | refine st_block (fun K' hn he hr => ?_) | refine st_region ?_ | refine st_draw ?_ | refine st_cond ?_ | refine st_skip ?_ | refine st_exit ?_ | refine st_ret ?_ | refine st_loop ?_ | refine st_op (fun G gn => ?_) | refine st_nil ?_ | refine st_gop ?_ | refine st_dop (fun G gn => ?_) | refine st_dnil ?_ | refine st_gdop ?_ | refine st_tl ?_)
          | (with_reducible refine gn _ _ ?_; clear gn G)
          | (with_reducible refine gn _ _ _ _ ?_; clear gn G)
          | (with_reducible refine Wr.mk ?_)
          | (with_reducible refine hn _ _ ?_; clear hn he hr K')
          | (with_reducible refine he _ _ _ ?_; clear hn he hr K')
          | (with_reducible refine hr _ _ ?_; clear hn he hr K')
          | ((with_reducible refine Eqn.mk (fun hq => ?_) ?_) <;> first | contradiction | skip)
          | (with_reducible refine Bo.yes (by decide) ?_)
          | (with_reducible refine Bo.no (by decide) ?_)
          | ((with_reducible refine Bo.gen (fun c hb => ?_)) <;> (try simp only [Nat.reduceAdd, toD, toDs, dInt, dBool, dStr, dList, dFs, dFld, List.getD_cons_zero, List.getD_cons_succ, Nat.zero_add, Int.reduceToNat] at hb) <;> (try simp only [cond_true, cond_false, toD, toDs, dInt, dBool, dStr, dList, dFs, dFld, List.getD_cons_zero, List.getD_cons_succ, Nat.zero_add, eqA, eqAs, decide_true, decide_false, beq_self_eq_true, Bool.not_true, Bool.not_false, Bool.and_true, Bool.true_and, Bool.and_self, cmpI, ↓reduceIte, Bool.false_eq_true, reduceCtorEq, Int.reduceEq, Int.reduceLT, Int.reduceLE, hz, sameBf_self, sameFr_self, eqDn_int, eq_self, decide_true, Bool.not_true, Bool.not_false, beq_self_eq_true] at hb) <;> first | (obtain rfl : c = true := hb) | (obtain rfl : c = false := hb) | skip)
          | ((with_reducible refine Br.cs (fun hq => ?_) (fun hq => ?_)) <;> (try simp only [cond_true, cond_false, toD, toDs, dInt, dBool, dStr, dList, dFs, dFld, List.getD_cons_zero, List.getD_cons_succ, Nat.zero_add, eqA, eqAs, decide_true, decide_false, beq_self_eq_true, Bool.not_true, Bool.not_false, Bool.and_true, Bool.true_and, Bool.and_self, cmpI, ↓reduceIte, Bool.false_eq_true, reduceCtorEq, Int.reduceEq, Int.reduceLT, Int.reduceLE, hz, sameBf_self, sameFr_self, eqDn_int, eq_self, decide_true, Bool.not_true, Bool.not_false, beq_self_eq_true] at hq) <;> first | contradiction | subst hq | skip)
          | (with_reducible refine Nd.mk trivial ?_)
          | (with_reducible refine Nd.mk (by decide) ?_)
          | (with_reducible refine Nd.mk ?_ ?_)
          | (with_reducible refine Leaf.mk rfl ?_)
          | (with_reducible refine LeafS.fin rfl ?_)
          | (with_reducible refine Fin.mk ?_ rfl)
          | (with_reducible refine Fin.mk ?_ ?_)
          | ((with_reducible refine Nx.mk ?_ ?_ ?_ ?_) <;> first | rfl | skip)
          | (conv => whnf
             first
               | (with_reducible refine gn _ _ ?_; clear gn G)
               | (with_reducible refine gn _ _ _ _ ?_; clear gn G)
               | (with_reducible refine Wr.mk ?_)
               | (with_reducible refine hn _ _ ?_; clear hn he hr K')
               | (with_reducible refine he _ _ _ ?_; clear hn he hr K')
               | (with_reducible refine hr _ _ ?_; clear hn he hr K')
               | (with_reducible refine Nd.mk trivial ?_)
               | (with_reducible refine Nd.mk (by decide) ?_)
               | (with_reducible refine Nd.mk ?_ ?_)
               | (with_reducible refine Leaf.mk rfl ?_)
               | (with_reducible refine LeafS.fin rfl ?_)
               | (with_reducible refine Fin.mk ?_ rfl)
               | (with_reducible refine Fin.mk ?_ ?_)
               | ((with_reducible refine Nx.mk ?_ ?_ ?_ ?_) <;> first | rfl | skip)
               | (with_reducible show Bo _ _)
               | (with_reducible show Br _ _ _)
               | (with_reducible show Eqn _ _ _)))
        all_goals first | rfl | omega
      · cases hh : isZ (bfChk to own p d w p d true isid da sa (rest.take 1510))
        · have hz0 : ¬ bfChk to own p d w p d true isid da sa (rest.take 1510) = 0 := fun h => by rw [isZ_iff.2 h] at hh; cases hh
          repeat' (first
            | (with_reducible first | refine st_seq (fun K' hn he hr => ?_) | refine st_block (fun K' hn he hr => ?_) | refine st_region ?_ | refine st_draw ?_ | refine st_cond ?_ | refine st_skip ?_ | refine st_exit ?_ | refine st_ret ?_ | refine st_loop ?_ | refine st_op (fun G gn => ?_) | refine st_nil ?_ | refine st_gop ?_ | refine st_dop (fun G gn => ?_) | refine st_dnil ?_ | refine st_gdop ?_ | refine st_tl ?_)
            | (with_reducible refine gn _ _ ?_; clear gn G)
            | (with_reducible refine gn _ _ _ _ ?_; clear gn G)
            | (with_reducible refine Wr.mk ?_)
            | (with_reducible refine hn _ _ ?_; clear hn he hr K')
            | (with_reducible refine he _ _ _ ?_; clear hn he hr K')
            | (with_reducible refine hr _ _ ?_; clear hn he hr K')
            | ((with_reducible refine Eqn.mk (fun hq => ?_) ?_) <;> first | contradiction | skip)
            | (with_reducible refine Bo.yes (by decide) ?_)
            | (with_reducible refine Bo.no (by decide) ?_)
            | ((with_reducible refine Bo.gen (fun c hb => ?_)) <;> (try simp only [Nat.reduceAdd, toD, toDs, dInt, dBool, dStr, dList, dFs, dFld, List.getD_cons_zero, List.getD_cons_succ, Nat.zero_add, Int.reduceToNat] at hb) <;> (try simp only [cond_true, cond_false, toD, toDs, dInt, dBool, dStr, dList, dFs, dFld, List.getD_cons_zero, List.getD_cons_succ, Nat.zero_add, eqA, eqAs, decide_true, decide_false, beq_self_eq_true, Bool.not_true, Bool.not_false, Bool.and_true, Bool.true_and, Bool.and_self, cmpI, ↓reduceIte, Bool.false_eq_true, reduceCtorEq, Int.reduceEq, Int.reduceLT, Int.reduceLE, hz, hh, hz0, sameBf_self, sameFr_self, eqDn_int, eq_self, decide_true, Bool.not_true, Bool.not_false, beq_self_eq_true] at hb) <;> first | (obtain rfl : c = true := hb) | (obtain rfl : c = false := hb) | skip)
            | ((with_reducible refine Br.cs (fun hq => ?_) (fun hq => ?_)) <;> (try simp only [cond_true, cond_false, toD, toDs, dInt, dBool, dStr, dList, dFs, dFld, List.getD_cons_zero, List.getD_cons_succ, Nat.zero_add, eqA, eqAs, decide_true, decide_false, beq_self_eq_true, Bool.not_true, Bool.not_false, Bool.and_true, Bool.true_and, Bool.and_self, cmpI, ↓reduceIte, Bool.false_eq_true, reduceCtorEq, Int.reduceEq, Int.reduceLT, Int.reduceLE, hz, hh, hz0, sameBf_self, sameFr_self, eqDn_int, eq_self, decide_true, Bool.not_true, Bool.not_false, beq_self_eq_true] at hq) <;> first | contradiction | subst hq | skip)
            | (with_reducible refine Nd.mk trivial ?_)
            | (with_reducible refine Nd.mk (by decide) ?_)
            | (with_reducible refine Nd.mk ?_ ?_)
            | (with_reducible refine Leaf.mk rfl ?_)
            | (with_reducible refine LeafS.fin rfl ?_)
            | (with_reducible refine Fin.mk ?_ rfl)
            | (with_reducible refine Fin.mk ?_ ?_)
            | ((with_reducible refine Nx.mk ?_ ?_ ?_ ?_) <;> first | rfl | skip)
            | (conv => whnf
               first
                 | (with_reducible refine gn _ _ ?_; clear gn G)
                 | (with_reducible refine gn _ _ _ _ ?_; clear gn G)
                 | (with_reducible refine Wr.mk ?_)
                 | (with_reducible refine hn _ _ ?_; clear hn he hr K')
                 | (with_reducible refine he _ _ _ ?_; clear hn he hr K')
                 | (with_reducible refine hr _ _ ?_; clear hn he hr K')
                 | (with_reducible refine Nd.mk trivial ?_)
                 | (with_reducible refine Nd.mk (by decide) ?_)
                 | (with_reducible refine Nd.mk ?_ ?_)
                 | (with_reducible refine Leaf.mk rfl ?_)
                 | (with_reducible refine LeafS.fin rfl ?_)
                 | (with_reducible refine Fin.mk ?_ rfl)
                 | (with_reducible refine Fin.mk ?_ ?_)
                 | ((with_reducible refine Nx.mk ?_ ?_ ?_ ?_) <;> first | rfl | skip)
                 | (with_reducible show Bo _ _)
                 | (with_reducible show Br _ _ _)
                 | (with_reducible show Eqn _ _ _)))
          all_goals first | rfl | omega
        · obtain ⟨f1, f2, f3, f4, f5, f6, f7, f8, f9, f10⟩ := bf_back (B := bfB to own p d w p d true isid da sa (rest.take 1510)) lto low lda lsa (isZ_iff.1 hh) rfl
          have f11 : ∀ W, sameFr (((bfB to own p d w p d true isid da sa (rest.take 1510)).drop 22).take 6) (((bfB to own p d w p d true isid da sa (rest.take 1510)).drop 28).take 6) true (ato (bfB to own p d w p d true isid da sa (rest.take 1510)) 18 / 32) (decide (ato (bfB to own p d w p d true isid da sa (rest.take 1510)) 18 / 16 % 2 = 1)) W ((bfB to own p d w p d true isid da sa (rest.take 1510)).drop 34) da sa true p d W (rest.take 1510) = true := fun W => by
            rw [f6, f7, f9, f10, f8]; exact sameFr_self ..
          clear f4 f6 f7 f8 f9 f10
          have hv : inVid (IntKind.i64.wrap (1 + (IntKind.i64.wrap o).tmod 4094)) = true := by
            have ho' := has_u16 ho
            rw [wi64_in (n := o) (by omega) (by omega), Int.tmod_eq_emod_of_nonneg ho'.1, wi64_in (by omega) (by omega), inVid_iff]
            omega
          repeat' (first
            | (with_reducible first | refine st_seq (fun K' hn he hr => ?_) | refine st_block (fun K' hn he hr => ?_) | refine st_region ?_ | refine st_draw ?_ | refine st_cond ?_ | refine st_skip ?_ | refine st_exit ?_ | refine st_ret ?_ | refine st_loop ?_ | refine st_op (fun G gn => ?_) | refine st_nil ?_ | refine st_gop ?_ | refine st_dop (fun G gn => ?_) | refine st_dnil ?_ | refine st_gdop ?_ | refine st_tl ?_)
            | (with_reducible refine gn _ _ ?_; clear gn G)
            | (with_reducible refine gn _ _ _ _ ?_; clear gn G)
            | (with_reducible refine Wr.mk ?_)
            | (with_reducible refine hn _ _ ?_; clear hn he hr K')
            | (with_reducible refine he _ _ _ ?_; clear hn he hr K')
            | (with_reducible refine hr _ _ ?_; clear hn he hr K')
            | ((with_reducible refine Eqn.mk (fun hq => ?_) ?_) <;> first | contradiction | skip)
            | (with_reducible refine Bo.yes (by decide) ?_)
            | (with_reducible refine Bo.no (by decide) ?_)
            | ((with_reducible refine Bo.gen (fun c hb => ?_)) <;> (try simp only [Nat.reduceAdd, toD, toDs, dInt, dBool, dStr, dList, dFs, dFld, List.getD_cons_zero, List.getD_cons_succ, Nat.zero_add, Int.reduceToNat] at hb) <;> (try simp only [cond_true, cond_false, toD, toDs, dInt, dBool, dStr, dList, dFs, dFld, List.getD_cons_zero, List.getD_cons_succ, Nat.zero_add, eqA, eqAs, decide_true, decide_false, beq_self_eq_true, Bool.not_true, Bool.not_false, Bool.and_true, Bool.true_and, Bool.and_self, cmpI, ↓reduceIte, Bool.false_eq_true, reduceCtorEq, Int.reduceEq, Int.reduceLT, Int.reduceLE, hz, hh, f1, f2, f3, f5, f11, hv, sameBf_self, sameFr_self, eqDn_int, eq_self, decide_true, Bool.not_true, Bool.not_false, beq_self_eq_true] at hb) <;> first | (obtain rfl : c = true := hb) | (obtain rfl : c = false := hb) | skip)
            | ((with_reducible refine Br.cs (fun hq => ?_) (fun hq => ?_)) <;> (try simp only [cond_true, cond_false, toD, toDs, dInt, dBool, dStr, dList, dFs, dFld, List.getD_cons_zero, List.getD_cons_succ, Nat.zero_add, eqA, eqAs, decide_true, decide_false, beq_self_eq_true, Bool.not_true, Bool.not_false, Bool.and_true, Bool.true_and, Bool.and_self, cmpI, ↓reduceIte, Bool.false_eq_true, reduceCtorEq, Int.reduceEq, Int.reduceLT, Int.reduceLE, hz, hh, f1, f2, f3, f5, f11, hv, sameBf_self, sameFr_self, eqDn_int, eq_self, decide_true, Bool.not_true, Bool.not_false, beq_self_eq_true] at hq) <;> first | contradiction | subst hq | skip)
            | (with_reducible refine Nd.mk trivial ?_)
            | (with_reducible refine Nd.mk (by decide) ?_)
            | (with_reducible refine Nd.mk ?_ ?_)
            | (with_reducible refine Leaf.mk rfl ?_)
            | (with_reducible refine LeafS.fin rfl ?_)
            | (with_reducible refine Fin.mk ?_ rfl)
            | (with_reducible refine Fin.mk ?_ ?_)
            | ((with_reducible refine Nx.mk ?_ ?_ ?_ ?_) <;> first | rfl | skip)
            | (conv => whnf
               first
                 | (with_reducible refine gn _ _ ?_; clear gn G)
                 | (with_reducible refine gn _ _ _ _ ?_; clear gn G)
                 | (with_reducible refine Wr.mk ?_)
                 | (with_reducible refine hn _ _ ?_; clear hn he hr K')
                 | (with_reducible refine he _ _ _ ?_; clear hn he hr K')
                 | (with_reducible refine hr _ _ ?_; clear hn he hr K')
                 | (with_reducible refine Nd.mk trivial ?_)
                 | (with_reducible refine Nd.mk (by decide) ?_)
                 | (with_reducible refine Nd.mk ?_ ?_)
                 | (with_reducible refine Leaf.mk rfl ?_)
                 | (with_reducible refine LeafS.fin rfl ?_)
                 | (with_reducible refine Fin.mk ?_ rfl)
                 | (with_reducible refine Fin.mk ?_ ?_)
                 | ((with_reducible refine Nx.mk ?_ ?_ ?_ ?_) <;> first | rfl | skip)
                 | (with_reducible show Bo _ _)
                 | (with_reducible show Br _ _ _)
                 | (with_reducible show Eqn _ _ _)))
          all_goals first
            | rfl
            | omega
            | (exfalso; exact absurd (hb.trans (f11 _)) (by decide))
            | (exfalso; exact absurd (f5.symm.trans (by assumption : _ = false)) (by decide))
  · trivial
end Go.Vc.Seat
