/- A part of the proof of the seat's laws: PfPbb8. It states no claim by itself. -/
import Derived.Test.YtdhfofnfhlnjbaaPfPbb7
set_option linter.unusedVariables false
set_option linter.unusedSimpArgs false
namespace Go.Vc.Seat
open Go.Vc Go.Proofs.Try

theorem sok_pbb_left_cut : SOK prog orc f_pbb_left_cut := by
  refine sok_of ok_pbb_left_cut mixed (by simp [ac_pbb_left_cut, acP, callsP]) (by simp [ac_pbb_left_cut, acS, callsS]) fun args H hok => ?_
  show FitsS orc nt_pbb_left_cut rs_pbb_left_cut ac_pbb_left_cut args H (sLeftCut args H)
  unfold ac_pbb_left_cut
  unfold sLeftCut
  split
  · rename_i n xs b
    refine fun hc => ⟨rfl, ?_⟩
    have hif : (if (xs.length : Int) < n then (xs.length : Int) else n) = n := if_neg (by omega)
    repeat' (first
      | (with_reducible first | refine st_seq (fun K' hn he hr => ?_) | refine st_block (fun K' hn he hr => ?_) | refine st_region ?_ | refine st_draw ?_ | refine st_cond ?_ | refine st_skip ?_ | refine st_exit ?_ | refine st_ret ?_ | refine st_loop ?_ | refine st_op (fun G gn => ?_) | refine st_nil ?_ | refine st_gop ?_ | refine st_dop (fun G gn => ?_) | refine st_dnil ?_ | refine st_gdop ?_ | refine st_tl ?_)
      | (with_reducible refine gn _ _ ?_; clear gn G)
      | (with_reducible refine gn _ _ _ _ ?_; clear gn G)
      | (with_reducible refine Wr.mk ?_)
      | (with_reducible refine hn _ _ ?_; clear hn he hr K')
      | (with_reducible refine he _ _ _ ?_; clear hn he hr K')
      | (with_reducible refine hr _ _ ?_; clear hn he hr K')
      | ((with_reducible refine Eqn.mk (fun hq => ?_) ?_) <;> first | contradiction | skip)
      | (with_reducible refine Bo.yes (by decide) ?_)
      | (with_reducible refine Bo.no (by decide) ?_)
      | ((with_reducible refine Bo.gen (fun c hb => ?_)) <;> (try simp only [Nat.reduceAdd, toD, toDs, dInt, dBool, dStr, dList, dFs, dFld, List.getD_cons_zero, List.getD_cons_succ, Nat.zero_add, Int.reduceToNat] at hb) <;> (try simp only [cond_true, cond_false, toD, toDs, dInt, dBool, dStr, dList, dFs, dFld, List.getD_cons_zero, List.getD_cons_succ, Nat.zero_add, eqA, eqAs, decide_true, decide_false, beq_self_eq_true, Bool.not_true, Bool.not_false, Bool.and_true, Bool.true_and, Bool.and_self, cmpI, ↓reduceIte, Bool.false_eq_true, reduceCtorEq, Int.reduceEq, Int.reduceLT, Int.reduceLE] at hb) <;> first | (obtain rfl : c = true := hb) | (obtain rfl : c = false := hb) | skip)
      | ((with_reducible refine Br.cs (fun hq => ?_) (fun hq => ?_)) <;> (try simp only [cond_true, cond_false, toD, toDs, dInt, dBool, dStr, dList, dFs, dFld, List.getD_cons_zero, List.getD_cons_succ, Nat.zero_add, eqA, eqAs, decide_true, decide_false, beq_self_eq_true, Bool.not_true, Bool.not_false, Bool.and_true, Bool.true_and, Bool.and_self, cmpI, ↓reduceIte, Bool.false_eq_true, reduceCtorEq, Int.reduceEq, Int.reduceLT, Int.reduceLE] at hq) <;> first | contradiction | subst hq | skip)
      | (with_reducible refine Nd.mk trivial ?_)
      | (with_reducible refine Nd.mk (by decide) ?_)
      | (with_reducible refine Nd.mk ?_ ?_)
      | (with_reducible refine Leaf.mk rfl ?_)
      | (with_reducible refine LeafS.fin rfl ?_)
      | (with_reducible refine Fin.mk ?_ rfl)
      | (with_reducible refine Fin.mk ?_ ?_)
      | ((with_reducible refine Nx.mk ?_ ?_ ?_ ?_) <;> first | rfl | skip)
      | (conv => whnf
         first
           | (with_reducible refine gn _ _ ?_; clear gn G)
           | (with_reducible refine gn _ _ _ _ ?_; clear gn G)
           | (with_reducible refine Wr.mk ?_)
           | (with_reducible refine hn _ _ ?_; clear hn he hr K')
           | (with_reducible refine he _ _ _ ?_; clear hn he hr K')
           | (with_reducible refine hr _ _ ?_; clear hn he hr K')
           | (with_reducible refine Nd.mk trivial ?_)
           | (with_reducible refine Nd.mk (by decide) ?_)
           | (with_reducible refine Nd.mk ?_ ?_)
           | (with_reducible refine Leaf.mk rfl ?_)
           | (with_reducible refine LeafS.fin rfl ?_)
           | (with_reducible refine Fin.mk ?_ rfl)
           | (with_reducible refine Fin.mk ?_ ?_)
           | ((with_reducible refine Nx.mk ?_ ?_ ?_ ?_) <;> first | rfl | skip)
           | (with_reducible show Bo _ _)
           | (with_reducible show Br _ _ _)
           | (with_reducible show Eqn _ _ _)))
    all_goals rw [hif]
    · unfold cutOK; omega
    · unfold cutOK; omega
    · rfl
    · show [Blk.var TWalk (AV.st [AV.st [AV.sl (.int .u8) (List.take ((xs.length : Int).toNat - n.toNat) (List.drop n.toNat xs)) .no], .bool b]) false] = _
      rw [show (xs.length : Int).toNat - n.toNat = xs.length - n.toNat from rfl, tda]
  · trivial
theorem sok_pbb_walk_address : SOK prog orc f_pbb_walk_address := by
  refine sok_of ok_pbb_walk_address mixed (by simp [ac_pbb_walk_address, acP, callsP]) (by simp [ac_pbb_walk_address, acS, callsS, sok_pbb_left_cut]) fun args H hok => ?_
  show FitsS orc nt_pbb_walk_address rs_pbb_walk_address ac_pbb_walk_address args H (sAddress args H)
  unfold ac_pbb_walk_address
  unfold sAddress
  split
  · rename_i xs b
    refine fun hc => ⟨rfl, ?_⟩
    have hl : ¬ ((min 6 xs.length : Nat) : Int) < 6 := by omega
    repeat' (first
      | (with_reducible first | refine st_seq (fun K' hn he hr => ?_) | refine st_block (fun K' hn he hr => ?_) | refine st_region ?_ | refine st_draw ?_ | refine st_cond ?_ | refine st_skip ?_ | refine st_exit ?_ | refine st_ret ?_ | refine st_loop ?_ | refine st_op (fun G gn => ?_) | refine st_nil ?_ | refine st_gop ?_ | refine st_dop (fun G gn => ?_) | refine st_dnil ?_ | refine st_gdop ?_ | refine st_tl ?_)
      | (with_reducible refine gn _ _ ?_; clear gn G)
      | (with_reducible refine gn _ _ _ _ ?_; clear gn G)
      | (with_reducible refine Wr.mk ?_)
      | (with_reducible refine hn _ _ ?_; clear hn he hr K')
      | (with_reducible refine he _ _ _ ?_; clear hn he hr K')
      | (with_reducible refine hr _ _ ?_; clear hn he hr K')
      | ((with_reducible refine Eqn.mk (fun hq => ?_) ?_) <;> first | contradiction | skip)
      | (with_reducible refine Bo.yes (by decide) ?_)
      | (with_reducible refine Bo.no (by decide) ?_)
      | ((with_reducible refine Bo.gen (fun c hb => ?_)) <;> (try simp only [Nat.reduceAdd, toD, toDs, dInt, dBool, dStr, dList, dFs, dFld, List.getD_cons_zero, List.getD_cons_succ, Nat.zero_add, Int.reduceToNat] at hb) <;> (try simp only [cond_true, cond_false, toD, toDs, dInt, dBool, dStr, dList, dFs, dFld, List.getD_cons_zero, List.getD_cons_succ, Nat.zero_add, eqA, eqAs, decide_true, decide_false, beq_self_eq_true, Bool.not_true, Bool.not_false, Bool.and_true, Bool.true_and, Bool.and_self, cmpI, ↓reduceIte, Bool.false_eq_true, reduceCtorEq, Int.reduceEq, Int.reduceLT, Int.reduceLE, Int.reduceToNat, List.length_take, hl] at hb) <;> first | (obtain rfl : c = true := hb) | (obtain rfl : c = false := hb) | skip)
      | ((with_reducible refine Br.cs (fun hq => ?_) (fun hq => ?_)) <;> (try simp only [cond_true, cond_false, toD, toDs, dInt, dBool, dStr, dList, dFs, dFld, List.getD_cons_zero, List.getD_cons_succ, Nat.zero_add, eqA, eqAs, decide_true, decide_false, beq_self_eq_true, Bool.not_true, Bool.not_false, Bool.and_true, Bool.true_and, Bool.and_self, cmpI, ↓reduceIte, Bool.false_eq_true, reduceCtorEq, Int.reduceEq, Int.reduceLT, Int.reduceLE, Int.reduceToNat, List.length_take, hl] at hq) <;> first | contradiction | subst hq | skip)
      | (with_reducible refine Nd.mk trivial ?_)
      | (with_reducible refine Nd.mk (by decide) ?_)
      | (with_reducible refine Nd.mk ?_ ?_)
      | (with_reducible refine Leaf.mk rfl ?_)
      | (with_reducible refine LeafS.fin rfl ?_)
      | (with_reducible refine Fin.mk ?_ rfl)
      | (with_reducible refine Fin.mk ?_ ?_)
      | ((with_reducible refine Nx.mk ?_ ?_ ?_ ?_) <;> first | rfl | skip)
      | (conv => whnf
         first
           | (with_reducible refine gn _ _ ?_; clear gn G)
           | (with_reducible refine gn _ _ _ _ ?_; clear gn G)
           | (with_reducible refine Wr.mk ?_)
           | (with_reducible refine hn _ _ ?_; clear hn he hr K')
           | (with_reducible refine he _ _ _ ?_; clear hn he hr K')
           | (with_reducible refine hr _ _ ?_; clear hn he hr K')
           | (with_reducible refine Nd.mk trivial ?_)
           | (with_reducible refine Nd.mk (by decide) ?_)
           | (with_reducible refine Nd.mk ?_ ?_)
           | (with_reducible refine Leaf.mk rfl ?_)
           | (with_reducible refine LeafS.fin rfl ?_)
           | (with_reducible refine Fin.mk ?_ rfl)
           | (with_reducible refine Fin.mk ?_ ?_)
           | ((with_reducible refine Nx.mk ?_ ?_ ?_ ?_) <;> first | rfl | skip)
           | (with_reducible show Bo _ _)
           | (with_reducible show Br _ _ _)
           | (with_reducible show Eqn _ _ _)))
    · omega
    · exact ⟨by rw [List.length_take]; show 6 ≤ min 6 _; omega, by decide⟩
    · show macA (List.take 6 (List.take 6 xs)) = _
      rw [List.take_take]
      rfl
  · trivial
theorem sok_pbb_walk_kind : SOK prog orc f_pbb_walk_kind := by
  refine sok_of ok_pbb_walk_kind mixed (by simp [ac_pbb_walk_kind, acP, callsP, pok_tag_TakeType]) (by simp [ac_pbb_walk_kind, acS, callsS, sok_pbb_left_cut]) fun args H hok => ?_
  show FitsS orc nt_pbb_walk_kind rs_pbb_walk_kind ac_pbb_walk_kind args H (sKind args H)
  unfold ac_pbb_walk_kind
  unfold sKind
  split
  · rename_i w xs b
    refine fun hc => ⟨rfl, ?_⟩
    have hl : decide (min 2 xs.length < 2) = false := by simp; omega
    have a0 : ato (xs.take 2) 0 = ato xs 0 := by
      match xs, hc with
      | x :: y :: r, _ => rfl
    have a1 : ato (xs.take 2) 1 = ato xs 1 := by
      match xs, hc with
      | x :: y :: r, _ => rfl
    cases b
    all_goals repeat' (first
                | (with_reducible first | refine st_seq (fun K' hn he hr => ?_) | refine st_block (fun K' hn he hr => ?_) | refine st_region ?_ | refine st_draw ?_ | refine st_cond ?_ | refine st_skip ?_ | refine st_exit ?_ | refine st_ret ?_ | refine st_loop ?_ | refine st_op (fun G gn => ?_) | refine st_nil ?_ | refine st_gop ?_ | refine st_dop (fun G gn => ?_) | refine st_dnil ?_ | refine st_gdop ?_ | refine st_tl ?_)
                | (with_reducible refine gn _ _ ?_; clear gn G)
                | (with_reducible refine gn _ _ _ _ ?_; clear gn G)
                | (with_reducible refine Wr.mk ?_)
                | (with_reducible refine hn _ _ ?_; clear hn he hr K')
                | (with_reducible refine he _ _ _ ?_; clear hn he hr K')
                | (with_reducible refine hr _ _ ?_; clear hn he hr K')
                | ((with_reducible refine Eqn.mk (fun hq => ?_) ?_) <;> first | contradiction | skip)
                | (with_reducible refine Bo.yes (by decide) ?_)
                | (with_reducible refine Bo.no (by decide) ?_)
                | ((with_reducible refine Bo.gen (fun c hb => ?_)) <;> (try simp only [Nat.reduceAdd, toD, toDs, dInt, dBool, dStr, dList, dFs, dFld, List.getD_cons_zero, List.getD_cons_succ, Nat.zero_add, Int.reduceToNat] at hb) <;> (try simp only [cond_true, cond_false, toD, toDs, dInt, dBool, dStr, dList, dFs, dFld, List.getD_cons_zero, List.getD_cons_succ, Nat.zero_add, eqA, eqAs, decide_true, decide_false, beq_self_eq_true, Bool.not_true, Bool.not_false, Bool.and_true, Bool.true_and, Bool.and_self, cmpI, ↓reduceIte, Bool.false_eq_true, reduceCtorEq, Int.reduceEq, Int.reduceLT, Int.reduceLE, Int.reduceToNat, List.length_take, hl, a0, a1] at hb) <;> first | (obtain rfl : c = true := hb) | (obtain rfl : c = false := hb) | skip)
                | ((with_reducible refine Br.cs (fun hq => ?_) (fun hq => ?_)) <;> (try simp only [cond_true, cond_false, toD, toDs, dInt, dBool, dStr, dList, dFs, dFld, List.getD_cons_zero, List.getD_cons_succ, Nat.zero_add, eqA, eqAs, decide_true, decide_false, beq_self_eq_true, Bool.not_true, Bool.not_false, Bool.and_true, Bool.true_and, Bool.and_self, cmpI, ↓reduceIte, Bool.false_eq_true, reduceCtorEq, Int.reduceEq, Int.reduceLT, Int.reduceLE, Int.reduceToNat, List.length_take, hl, a0, a1] at hq) <;> first | contradiction | subst hq | skip)
                | (with_reducible refine Nd.mk trivial ?_)
                | (with_reducible refine Nd.mk (by decide) ?_)
                | (with_reducible refine Nd.mk ?_ ?_)
                | (with_reducible refine Leaf.mk rfl ?_)
                | (with_reducible refine LeafS.fin rfl ?_)
                | (with_reducible refine Fin.mk ?_ rfl)
                | (with_reducible refine Fin.mk ?_ ?_)
                | ((with_reducible refine Nx.mk ?_ ?_ ?_ ?_) <;> first | rfl | skip)
                | (conv => whnf
                   first
                     | (with_reducible refine gn _ _ ?_; clear gn G)
                     | (with_reducible refine gn _ _ _ _ ?_; clear gn G)
                     | (with_reducible refine Wr.mk ?_)
                     | (with_reducible refine hn _ _ ?_; clear hn he hr K')
                     | (with_reducible refine he _ _ _ ?_; clear hn he hr K')
                     | (with_reducible refine hr _ _ ?_; clear hn he hr K')
                     | (with_reducible refine Nd.mk trivial ?_)
                     | (with_reducible refine Nd.mk (by decide) ?_)
                     | (with_reducible refine Nd.mk ?_ ?_)
                     | (with_reducible refine Leaf.mk rfl ?_)
                     | (with_reducible refine LeafS.fin rfl ?_)
                     | (with_reducible refine Fin.mk ?_ rfl)
                     | (with_reducible refine Fin.mk ?_ ?_)
                     | ((with_reducible refine Nx.mk ?_ ?_ ?_ ?_) <;> first | rfl | skip)
                     | (with_reducible show Bo _ _)
                     | (with_reducible show Br _ _ _)
                     | (with_reducible show Eqn _ _ _)))
    all_goals first
      | omega
      | (rw [List.length_take]; show min 2 _ ≤ _; omega)
      | rfl
      | (simp only [Bool.true_or, Bool.false_or]; rfl)
      | (rename_i hbc _ _; subst hbc; rfl)
      | (subst_vars; rfl)
  · trivial
end Go.Vc.Seat
