/- A part of the proof of the seat's laws: PfBp1, PfBp2, PfBp3, PfBp4. It states no claim by itself. -/
import Derived.Test.YtcgmmigjeghmnaaBpPfEth4
set_option linter.unusedVariables false
set_option linter.unusedSimpArgs false
namespace Go.Vc.Seat
open Go.Vc Go.Proofs.Try

theorem pok_bpdu_bits : POK prog orc f_bpdu_bits := by
  refine pok_of ok_bpdu_bits mixed (by simp [ac_bpdu_bits, acP, callsP]) (by simp [ac_bpdu_bits, acS, callsS]) fun args hok => ?_
  show Fits orc nt_bpdu_bits rs_bpdu_bits ac_bpdu_bits args (pBits args)
  unfold ac_bpdu_bits
  unfold pBits
  split
  · rename_i r
    refine ⟨rfl, ?_⟩
    repeat' (first
      | (with_reducible first | refine st_seq (fun K' hn he hr => ?_) | refine st_block (fun K' hn he hr => ?_) | refine st_region ?_ | refine st_draw ?_ | refine st_cond ?_ | refine st_skip ?_ | refine st_exit ?_ | refine st_ret ?_ | refine st_loop ?_ | refine st_op (fun G gn => ?_) | refine st_nil ?_ | refine st_gop ?_ | refine st_dop (fun G gn => ?_) | refine st_dnil ?_ | refine st_gdop ?_ | refine st_tl ?_)
      | (with_reducible refine gn _ _ ?_; clear gn G)
      | (with_reducible refine gn _ _ _ _ ?_; clear gn G)
      | (with_reducible refine Wr.mk ?_)
      | (with_reducible refine hn _ _ ?_; clear hn he hr K')
      | (with_reducible refine he _ _ _ ?_; clear hn he hr K')
      | (with_reducible refine hr _ _ ?_; clear hn he hr K')
      | ((with_reducible refine Eqn.mk (fun hq => ?_) ?_) <;> first | contradiction | skip)
      | (with_reducible refine Bo.yes (by decide) ?_)
      | (with_reducible refine Bo.no (by decide) ?_)
      | ((with_reducible refine Bo.gen (fun c hb => ?_)) <;> (try simp only [Nat.reduceAdd, toD, toDs, dInt, dBool, dStr, dList, dFs, dFld, List.getD_cons_zero, List.getD_cons_succ, Nat.zero_add, Int.reduceToNat] at hb) <;> (try simp only [cond_true, cond_false, toD, toDs, dInt, dBool, dStr, dList, dFs, dFld, List.getD_cons_zero, List.getD_cons_succ, Nat.zero_add, eqA, eqAs, decide_true, decide_false, beq_self_eq_true, Bool.not_true, Bool.not_false, Bool.and_true, Bool.true_and, Bool.and_self, cmpI, ↓reduceIte, Bool.false_eq_true, reduceCtorEq, Int.reduceEq, Int.reduceLT, Int.reduceLE] at hb) <;> first | (obtain rfl : c = true := hb) | (obtain rfl : c = false := hb) | skip)
      | ((with_reducible refine Br.cs (fun hq => ?_) (fun hq => ?_)) <;> (try simp only [cond_true, cond_false, toD, toDs, dInt, dBool, dStr, dList, dFs, dFld, List.getD_cons_zero, List.getD_cons_succ, Nat.zero_add, eqA, eqAs, decide_true, decide_false, beq_self_eq_true, Bool.not_true, Bool.not_false, Bool.and_true, Bool.true_and, Bool.and_self, cmpI, ↓reduceIte, Bool.false_eq_true, reduceCtorEq, Int.reduceEq, Int.reduceLT, Int.reduceLE] at hq) <;> first | contradiction | subst hq | skip)
      | (with_reducible refine Nd.mk trivial ?_)
      | (with_reducible refine Nd.mk (by decide) ?_)
      | (with_reducible refine Nd.mk ?_ ?_)
      | (with_reducible refine Leaf.mk rfl ?_)
      | (with_reducible refine LeafS.fin rfl ?_)
      | (with_reducible refine Fin.mk ?_ rfl)
      | (with_reducible refine Fin.mk ?_ ?_)
      | ((with_reducible refine Nx.mk ?_ ?_ ?_ ?_) <;> first | rfl | skip)
      | (conv => whnf
         first
           | (with_reducible refine gn _ _ ?_; clear gn G)
           | (with_reducible refine gn _ _ _ _ ?_; clear gn G)
           | (with_reducible refine Wr.mk ?_)
           | (with_reducible refine hn _ _ ?_; clear hn he hr K')
           | (with_reducible refine he _ _ _ ?_; clear hn he hr K')
           | (with_reducible refine hr _ _ ?_; clear hn he hr K')
           | (with_reducible refine Nd.mk trivial ?_)
           | (with_reducible refine Nd.mk (by decide) ?_)
           | (with_reducible refine Nd.mk ?_ ?_)
           | (with_reducible refine Leaf.mk rfl ?_)
           | (with_reducible refine LeafS.fin rfl ?_)
           | (with_reducible refine Fin.mk ?_ rfl)
           | (with_reducible refine Fin.mk ?_ ?_)
           | ((with_reducible refine Nx.mk ?_ ?_ ?_ ?_) <;> first | rfl | skip)
           | (with_reducible show Bo _ _)
           | (with_reducible show Br _ _ _)
           | (with_reducible show Eqn _ _ _)))
    all_goals (simp only [ctd, cfd] at *; refine congrArg (AV.int .i64) ?_; unfold roleBits; repeat' split)
    all_goals first | rfl | (exfalso; omega)
  · trivial
theorem pok_r05_role : POK prog orc f_r05_role := by
  refine pok_of ok_r05_role mixed (by simp [ac_r05_role, acP, callsP]) (by simp [ac_r05_role, acS, callsS]) fun args hok => ?_
  show Fits orc nt_r05_role rs_r05_role ac_r05_role args (pRRole args)
  unfold ac_r05_role
  unfold pRRole
  split
  · rename_i r
    refine ⟨rfl, ?_⟩
    repeat' (first
      | (with_reducible first | refine st_seq (fun K' hn he hr => ?_) | refine st_block (fun K' hn he hr => ?_) | refine st_region ?_ | refine st_draw ?_ | refine st_cond ?_ | refine st_skip ?_ | refine st_exit ?_ | refine st_ret ?_ | refine st_loop ?_ | refine st_op (fun G gn => ?_) | refine st_nil ?_ | refine st_gop ?_ | refine st_dop (fun G gn => ?_) | refine st_dnil ?_ | refine st_gdop ?_ | refine st_tl ?_)
      | (with_reducible refine gn _ _ ?_; clear gn G)
      | (with_reducible refine gn _ _ _ _ ?_; clear gn G)
      | (with_reducible refine Wr.mk ?_)
      | (with_reducible refine hn _ _ ?_; clear hn he hr K')
      | (with_reducible refine he _ _ _ ?_; clear hn he hr K')
      | (with_reducible refine hr _ _ ?_; clear hn he hr K')
      | ((with_reducible refine Eqn.mk (fun hq => ?_) ?_) <;> first | contradiction | skip)
      | (with_reducible refine Bo.yes (by decide) ?_)
      | (with_reducible refine Bo.no (by decide) ?_)
      | ((with_reducible refine Bo.gen (fun c hb => ?_)) <;> (try simp only [Nat.reduceAdd, toD, toDs, dInt, dBool, dStr, dList, dFs, dFld, List.getD_cons_zero, List.getD_cons_succ, Nat.zero_add, Int.reduceToNat] at hb) <;> (try simp only [cond_true, cond_false, toD, toDs, dInt, dBool, dStr, dList, dFs, dFld, List.getD_cons_zero, List.getD_cons_succ, Nat.zero_add, eqA, eqAs, decide_true, decide_false, beq_self_eq_true, Bool.not_true, Bool.not_false, Bool.and_true, Bool.true_and, Bool.and_self, cmpI, ↓reduceIte, Bool.false_eq_true, reduceCtorEq, Int.reduceEq, Int.reduceLT, Int.reduceLE] at hb) <;> first | (obtain rfl : c = true := hb) | (obtain rfl : c = false := hb) | skip)
      | ((with_reducible refine Br.cs (fun hq => ?_) (fun hq => ?_)) <;> (try simp only [cond_true, cond_false, toD, toDs, dInt, dBool, dStr, dList, dFs, dFld, List.getD_cons_zero, List.getD_cons_succ, Nat.zero_add, eqA, eqAs, decide_true, decide_false, beq_self_eq_true, Bool.not_true, Bool.not_false, Bool.and_true, Bool.true_and, Bool.and_self, cmpI, ↓reduceIte, Bool.false_eq_true, reduceCtorEq, Int.reduceEq, Int.reduceLT, Int.reduceLE] at hq) <;> first | contradiction | subst hq | skip)
      | (with_reducible refine Nd.mk trivial ?_)
      | (with_reducible refine Nd.mk (by decide) ?_)
      | (with_reducible refine Nd.mk ?_ ?_)
      | (with_reducible refine Leaf.mk rfl ?_)
      | (with_reducible refine LeafS.fin rfl ?_)
      | (with_reducible refine Fin.mk ?_ rfl)
      | (with_reducible refine Fin.mk ?_ ?_)
      | ((with_reducible refine Nx.mk ?_ ?_ ?_ ?_) <;> first | rfl | skip)
      | (conv => whnf
         first
           | (with_reducible refine gn _ _ ?_; clear gn G)
           | (with_reducible refine gn _ _ _ _ ?_; clear gn G)
           | (with_reducible refine Wr.mk ?_)
           | (with_reducible refine hn _ _ ?_; clear hn he hr K')
           | (with_reducible refine he _ _ _ ?_; clear hn he hr K')
           | (with_reducible refine hr _ _ ?_; clear hn he hr K')
           | (with_reducible refine Nd.mk trivial ?_)
           | (with_reducible refine Nd.mk (by decide) ?_)
           | (with_reducible refine Nd.mk ?_ ?_)
           | (with_reducible refine Leaf.mk rfl ?_)
           | (with_reducible refine LeafS.fin rfl ?_)
           | (with_reducible refine Fin.mk ?_ rfl)
           | (with_reducible refine Fin.mk ?_ ?_)
           | ((with_reducible refine Nx.mk ?_ ?_ ?_ ?_) <;> first | rfl | skip)
           | (with_reducible show Bo _ _)
           | (with_reducible show Br _ _ _)
           | (with_reducible show Eqn _ _ _)))
    all_goals (simp only [ctd, cfd] at *; refine congrArg (AV.int .i64) ?_; unfold rRole; repeat' split)
    all_goals first | rfl | (exfalso; omega)
  · trivial
theorem pok_r05_roleOf : POK prog orc f_r05_roleOf := by
  refine pok_of ok_r05_roleOf mixed (by simp [ac_r05_roleOf, acP, callsP]) (by simp [ac_r05_roleOf, acS, callsS]) fun args hok => ?_
  show Fits orc nt_r05_roleOf rs_r05_roleOf ac_r05_roleOf args (pRoleOf args)
  unfold ac_r05_roleOf
  unfold pRoleOf
  split
  · rename_i r
    refine ⟨rfl, ?_⟩
    repeat' (first
      | (with_reducible first | refine st_seq (fun K' hn he hr => ?_) | refine st_block (fun K' hn he hr => ?_) | refine st_region ?_ | refine st_draw ?_ | refine st_cond ?_ | refine st_skip ?_ | refine st_exit ?_ | refine st_ret ?_ | refine st_loop ?_ | refine st_op (fun G gn => ?_) | refine st_nil ?_ | refine st_gop ?_ | refine st_dop (fun G gn => ?_) | refine st_dnil ?_ | refine st_gdop ?_ | refine st_tl ?_)
      | (with_reducible refine gn _ _ ?_; clear gn G)
      | (with_reducible refine gn _ _ _ _ ?_; clear gn G)
      | (with_reducible refine Wr.mk ?_)
      | (with_reducible refine hn _ _ ?_; clear hn he hr K')
      | (with_reducible refine he _ _ _ ?_; clear hn he hr K')
      | (with_reducible refine hr _ _ ?_; clear hn he hr K')
      | ((with_reducible refine Eqn.mk (fun hq => ?_) ?_) <;> first | contradiction | skip)
      | (with_reducible refine Bo.yes (by decide) ?_)
      | (with_reducible refine Bo.no (by decide) ?_)
      | ((with_reducible refine Bo.gen (fun c hb => ?_)) <;> (try simp only [Nat.reduceAdd, toD, toDs, dInt, dBool, dStr, dList, dFs, dFld, List.getD_cons_zero, List.getD_cons_succ, Nat.zero_add, Int.reduceToNat] at hb) <;> (try simp only [cond_true, cond_false, toD, toDs, dInt, dBool, dStr, dList, dFs, dFld, List.getD_cons_zero, List.getD_cons_succ, Nat.zero_add, eqA, eqAs, decide_true, decide_false, beq_self_eq_true, Bool.not_true, Bool.not_false, Bool.and_true, Bool.true_and, Bool.and_self, cmpI, ↓reduceIte, Bool.false_eq_true, reduceCtorEq, Int.reduceEq, Int.reduceLT, Int.reduceLE] at hb) <;> first | (obtain rfl : c = true := hb) | (obtain rfl : c = false := hb) | skip)
      | ((with_reducible refine Br.cs (fun hq => ?_) (fun hq => ?_)) <;> (try simp only [cond_true, cond_false, toD, toDs, dInt, dBool, dStr, dList, dFs, dFld, List.getD_cons_zero, List.getD_cons_succ, Nat.zero_add, eqA, eqAs, decide_true, decide_false, beq_self_eq_true, Bool.not_true, Bool.not_false, Bool.and_true, Bool.true_and, Bool.and_self, cmpI, ↓reduceIte, Bool.false_eq_true, reduceCtorEq, Int.reduceEq, Int.reduceLT, Int.reduceLE] at hq) <;> first | contradiction | subst hq | skip)
      | (with_reducible refine Nd.mk trivial ?_)
      | (with_reducible refine Nd.mk (by decide) ?_)
      | (with_reducible refine Nd.mk ?_ ?_)
      | (with_reducible refine Leaf.mk rfl ?_)
      | (with_reducible refine LeafS.fin rfl ?_)
      | (with_reducible refine Fin.mk ?_ rfl)
      | (with_reducible refine Fin.mk ?_ ?_)
      | ((with_reducible refine Nx.mk ?_ ?_ ?_ ?_) <;> first | rfl | skip)
      | (conv => whnf
         first
           | (with_reducible refine gn _ _ ?_; clear gn G)
           | (with_reducible refine gn _ _ _ _ ?_; clear gn G)
           | (with_reducible refine Wr.mk ?_)
           | (with_reducible refine hn _ _ ?_; clear hn he hr K')
           | (with_reducible refine he _ _ _ ?_; clear hn he hr K')
           | (with_reducible refine hr _ _ ?_; clear hn he hr K')
           | (with_reducible refine Nd.mk trivial ?_)
           | (with_reducible refine Nd.mk (by decide) ?_)
           | (with_reducible refine Nd.mk ?_ ?_)
           | (with_reducible refine Leaf.mk rfl ?_)
           | (with_reducible refine LeafS.fin rfl ?_)
           | (with_reducible refine Fin.mk ?_ rfl)
           | (with_reducible refine Fin.mk ?_ ?_)
           | ((with_reducible refine Nx.mk ?_ ?_ ?_ ?_) <;> first | rfl | skip)
           | (with_reducible show Bo _ _)
           | (with_reducible show Br _ _ _)
           | (with_reducible show Eqn _ _ _)))
    all_goals (simp only [ctd, cfd] at *; refine congrArg (AV.int .i64) ?_; unfold roleOf; repeat' split)
    all_goals first | rfl | (exfalso; omega)
  · trivial
theorem pok_r05_flag : POK prog orc f_r05_flag := by
  refine pok_of ok_r05_flag mixed (by simp [ac_r05_flag, acP, callsP]) (by simp [ac_r05_flag, acS, callsS]) fun args hok => ?_
  show Fits orc nt_r05_flag rs_r05_flag ac_r05_flag args (pFlag args)
  unfold ac_r05_flag
  unfold pFlag
  split
  · rename_i b n
    refine ⟨rfl, ?_⟩
    repeat' (first
      | (with_reducible first | refine st_seq (fun K' hn he hr => ?_) | refine st_block (fun K' hn he hr => ?_) | refine st_region ?_ | refine st_draw ?_ | refine st_cond ?_ | refine st_skip ?_ | refine st_exit ?_ | refine st_ret ?_ | refine st_loop ?_ | refine st_op (fun G gn => ?_) | refine st_nil ?_ | refine st_gop ?_ | refine st_dop (fun G gn => ?_) | refine st_dnil ?_ | refine st_gdop ?_ | refine st_tl ?_)
      | (with_reducible refine gn _ _ ?_; clear gn G)
      | (with_reducible refine gn _ _ _ _ ?_; clear gn G)
      | (with_reducible refine Wr.mk ?_)
      | (with_reducible refine hn _ _ ?_; clear hn he hr K')
      | (with_reducible refine he _ _ _ ?_; clear hn he hr K')
      | (with_reducible refine hr _ _ ?_; clear hn he hr K')
      | ((with_reducible refine Eqn.mk (fun hq => ?_) ?_) <;> first | contradiction | skip)
      | (with_reducible refine Bo.yes (by decide) ?_)
      | (with_reducible refine Bo.no (by decide) ?_)
      | ((with_reducible refine Bo.gen (fun c hb => ?_)) <;> (try simp only [Nat.reduceAdd, toD, toDs, dInt, dBool, dStr, dList, dFs, dFld, List.getD_cons_zero, List.getD_cons_succ, Nat.zero_add, Int.reduceToNat] at hb) <;> (try simp only [cond_true, cond_false, toD, toDs, dInt, dBool, dStr, dList, dFs, dFld, List.getD_cons_zero, List.getD_cons_succ, Nat.zero_add, eqA, eqAs, decide_true, decide_false, beq_self_eq_true, Bool.not_true, Bool.not_false, Bool.and_true, Bool.true_and, Bool.and_self, cmpI, ↓reduceIte, Bool.false_eq_true, reduceCtorEq, Int.reduceEq, Int.reduceLT, Int.reduceLE] at hb) <;> first | (obtain rfl : c = true := hb) | (obtain rfl : c = false := hb) | skip)
      | ((with_reducible refine Br.cs (fun hq => ?_) (fun hq => ?_)) <;> (try simp only [cond_true, cond_false, toD, toDs, dInt, dBool, dStr, dList, dFs, dFld, List.getD_cons_zero, List.getD_cons_succ, Nat.zero_add, eqA, eqAs, decide_true, decide_false, beq_self_eq_true, Bool.not_true, Bool.not_false, Bool.and_true, Bool.true_and, Bool.and_self, cmpI, ↓reduceIte, Bool.false_eq_true, reduceCtorEq, Int.reduceEq, Int.reduceLT, Int.reduceLE] at hq) <;> first | contradiction | subst hq | skip)
      | (with_reducible refine Nd.mk trivial ?_)
      | (with_reducible refine Nd.mk (by decide) ?_)
      | (with_reducible refine Nd.mk ?_ ?_)
      | (with_reducible refine Leaf.mk rfl ?_)
      | (with_reducible refine LeafS.fin rfl ?_)
      | (with_reducible refine Fin.mk ?_ rfl)
      | (with_reducible refine Fin.mk ?_ ?_)
      | ((with_reducible refine Nx.mk ?_ ?_ ?_ ?_) <;> first | rfl | skip)
      | (conv => whnf
         first
           | (with_reducible refine gn _ _ ?_; clear gn G)
           | (with_reducible refine gn _ _ _ _ ?_; clear gn G)
           | (with_reducible refine Wr.mk ?_)
           | (with_reducible refine hn _ _ ?_; clear hn he hr K')
           | (with_reducible refine he _ _ _ ?_; clear hn he hr K')
           | (with_reducible refine hr _ _ ?_; clear hn he hr K')
           | (with_reducible refine Nd.mk trivial ?_)
           | (with_reducible refine Nd.mk (by decide) ?_)
           | (with_reducible refine Nd.mk ?_ ?_)
           | (with_reducible refine Leaf.mk rfl ?_)
           | (with_reducible refine LeafS.fin rfl ?_)
           | (with_reducible refine Fin.mk ?_ rfl)
           | (with_reducible refine Fin.mk ?_ ?_)
           | ((with_reducible refine Nx.mk ?_ ?_ ?_ ?_) <;> first | rfl | skip)
           | (with_reducible show Bo _ _)
           | (with_reducible show Br _ _ _)
           | (with_reducible show Eqn _ _ _)))
    all_goals rfl
  · trivial
theorem pok_r05_bit : POK prog orc f_r05_bit := by
  refine pok_of ok_r05_bit mixed (by simp [ac_r05_bit, acP, callsP]) (by simp [ac_r05_bit, acS, callsS]) fun args hok => ?_
  show Fits orc nt_r05_bit rs_r05_bit ac_r05_bit args (pBitN args)
  unfold ac_r05_bit
  unfold pBitN
  split
  · rename_i f n
    intro hc
    simp only [okAs, okA] at hok
    have h1 := has_u8 hok.1
    have e1 : IntKind.i64.wrap f = f := wi64_in (by omega) (by omega)
    have e2 : IntKind.i64.wrap (f.tdiv n) = f / n := by
      rw [Int.tdiv_eq_ediv_of_nonneg h1.1, wi64_in]
      · have := Int.ediv_nonneg h1.1 (Int.le_of_lt hc); omega
      · have := Int.ediv_le_self n h1.1; omega
    have e3 : (f / n).tmod 2 = f / n % 2 := Int.tmod_eq_emod_of_nonneg (Int.ediv_nonneg h1.1 (Int.le_of_lt hc))
    refine ⟨rfl, ?_⟩
    repeat' (first
      | (with_reducible first | refine st_seq (fun K' hn he hr => ?_) | refine st_block (fun K' hn he hr => ?_) | refine st_region ?_ | refine st_draw ?_ | refine st_cond ?_ | refine st_skip ?_ | refine st_exit ?_ | refine st_ret ?_ | refine st_loop ?_ | refine st_op (fun G gn => ?_) | refine st_nil ?_ | refine st_gop ?_ | refine st_dop (fun G gn => ?_) | refine st_dnil ?_ | refine st_gdop ?_ | refine st_tl ?_)
      | (with_reducible refine gn _ _ ?_; clear gn G)
      | (with_reducible refine gn _ _ _ _ ?_; clear gn G)
      | (with_reducible refine Wr.mk ?_)
      | (with_reducible refine hn _ _ ?_; clear hn he hr K')
      | (with_reducible refine he _ _ _ ?_; clear hn he hr K')
      | (with_reducible refine hr _ _ ?_; clear hn he hr K')
      | ((with_reducible refine Eqn.mk (fun hq => ?_) ?_) <;> first | contradiction | skip)
      | (with_reducible refine Bo.yes (by decide) ?_)
      | (with_reducible refine Bo.no (by decide) ?_)
      | ((with_reducible refine Bo.gen (fun c hb => ?_)) <;> (try simp only [Nat.reduceAdd, toD, toDs, dInt, dBool, dStr, dList, dFs, dFld, List.getD_cons_zero, List.getD_cons_succ, Nat.zero_add, Int.reduceToNat] at hb) <;> (try simp only [cond_true, cond_false, toD, toDs, dInt, dBool, dStr, dList, dFs, dFld, List.getD_cons_zero, List.getD_cons_succ, Nat.zero_add, eqA, eqAs, decide_true, decide_false, beq_self_eq_true, Bool.not_true, Bool.not_false, Bool.and_true, Bool.true_and, Bool.and_self, cmpI, ↓reduceIte, Bool.false_eq_true, reduceCtorEq, Int.reduceEq, Int.reduceLT, Int.reduceLE] at hb) <;> first | (obtain rfl : c = true := hb) | (obtain rfl : c = false := hb) | skip)
      | ((with_reducible refine Br.cs (fun hq => ?_) (fun hq => ?_)) <;> (try simp only [cond_true, cond_false, toD, toDs, dInt, dBool, dStr, dList, dFs, dFld, List.getD_cons_zero, List.getD_cons_succ, Nat.zero_add, eqA, eqAs, decide_true, decide_false, beq_self_eq_true, Bool.not_true, Bool.not_false, Bool.and_true, Bool.true_and, Bool.and_self, cmpI, ↓reduceIte, Bool.false_eq_true, reduceCtorEq, Int.reduceEq, Int.reduceLT, Int.reduceLE] at hq) <;> first | contradiction | subst hq | skip)
      | (with_reducible refine Nd.mk trivial ?_)
      | (with_reducible refine Nd.mk (by decide) ?_)
      | (with_reducible refine Nd.mk ?_ ?_)
      | (with_reducible refine Leaf.mk rfl ?_)
      | (with_reducible refine LeafS.fin rfl ?_)
      | (with_reducible refine Fin.mk ?_ rfl)
      | (with_reducible refine Fin.mk ?_ ?_)
      | ((with_reducible refine Nx.mk ?_ ?_ ?_ ?_) <;> first | rfl | skip)
      | (conv => whnf
         first
           | (with_reducible refine gn _ _ ?_; clear gn G)
           | (with_reducible refine gn _ _ _ _ ?_; clear gn G)
           | (with_reducible refine Wr.mk ?_)
           | (with_reducible refine hn _ _ ?_; clear hn he hr K')
           | (with_reducible refine he _ _ _ ?_; clear hn he hr K')
           | (with_reducible refine hr _ _ ?_; clear hn he hr K')
           | (with_reducible refine Nd.mk trivial ?_)
           | (with_reducible refine Nd.mk (by decide) ?_)
           | (with_reducible refine Nd.mk ?_ ?_)
           | (with_reducible refine Leaf.mk rfl ?_)
           | (with_reducible refine LeafS.fin rfl ?_)
           | (with_reducible refine Fin.mk ?_ rfl)
           | (with_reducible refine Fin.mk ?_ ?_)
           | ((with_reducible refine Nx.mk ?_ ?_ ?_ ?_) <;> first | rfl | skip)
           | (with_reducible show Bo _ _)
           | (with_reducible show Br _ _ _)
           | (with_reducible show Eqn _ _ _)))
    all_goals first | omega | skip
    all_goals (refine congrArg AV.bool ?_; rw [e1, e2, e3] at hb; rw [hb]; rfl)
  · trivial
set_option maxRecDepth 100000 in
theorem and_bits : ∀ f : Nat, f < 256 → bitI .and .u8 (f : Int) 1 = (f : Int) % 2 ∧ bitI .and .u8 (f : Int) 3 = (f : Int) % 4 := by decide +kernel
theorem pok_bpdu_role : POK prog orc f_bpdu_role := by
  refine pok_of ok_bpdu_role mixed (by simp [ac_bpdu_role, acP, callsP]) (by simp [ac_bpdu_role, acS, callsS]) fun args hok => ?_
  show Fits orc nt_bpdu_role rs_bpdu_role ac_bpdu_role args (pBRole args)
  unfold ac_bpdu_role
  unfold pBRole
  split
  · rename_i n
    simp only [okAs, okA] at hok
    have h1 := has_u8 hok.1
    have e1 : bitI .and .u8 n 3 = n % 4 := by
      obtain ⟨k, rfl⟩ := Int.eq_ofNat_of_zero_le h1.1
      exact (and_bits k (by omega)).2
    refine ⟨rfl, ?_⟩
    repeat' (first
      | (with_reducible first | refine st_seq (fun K' hn he hr => ?_) | refine st_block (fun K' hn he hr => ?_) | refine st_region ?_ | refine st_draw ?_ | refine st_cond ?_ | refine st_skip ?_ | refine st_exit ?_ | refine st_ret ?_ | refine st_loop ?_ | refine st_op (fun G gn => ?_) | refine st_nil ?_ | refine st_gop ?_ | refine st_dop (fun G gn => ?_) | refine st_dnil ?_ | refine st_gdop ?_ | refine st_tl ?_)
      | (with_reducible refine gn _ _ ?_; clear gn G)
      | (with_reducible refine gn _ _ _ _ ?_; clear gn G)
      | (with_reducible refine Wr.mk ?_)
      | (with_reducible refine hn _ _ ?_; clear hn he hr K')
      | (with_reducible refine he _ _ _ ?_; clear hn he hr K')
      | (with_reducible refine hr _ _ ?_; clear hn he hr K')
      | ((with_reducible refine Eqn.mk (fun hq => ?_) ?_) <;> first | contradiction | skip)
      | (with_reducible refine Bo.yes (by decide) ?_)
      | (with_reducible refine Bo.no (by decide) ?_)
      | ((with_reducible refine Bo.gen (fun c hb => ?_)) <;> (try simp only [Nat.reduceAdd, toD, toDs, dInt, dBool, dStr, dList, dFs, dFld, List.getD_cons_zero, List.getD_cons_succ, Nat.zero_add, Int.reduceToNat] at hb) <;> (try simp only [cond_true, cond_false, toD, toDs, dInt, dBool, dStr, dList, dFs, dFld, List.getD_cons_zero, List.getD_cons_succ, Nat.zero_add, eqA, eqAs, decide_true, decide_false, beq_self_eq_true, Bool.not_true, Bool.not_false, Bool.and_true, Bool.true_and, Bool.and_self, cmpI, ↓reduceIte, Bool.false_eq_true, reduceCtorEq, Int.reduceEq, Int.reduceLT, Int.reduceLE] at hb) <;> first | (obtain rfl : c = true := hb) | (obtain rfl : c = false := hb) | skip)
      | ((with_reducible refine Br.cs (fun hq => ?_) (fun hq => ?_)) <;> (try simp only [cond_true, cond_false, toD, toDs, dInt, dBool, dStr, dList, dFs, dFld, List.getD_cons_zero, List.getD_cons_succ, Nat.zero_add, eqA, eqAs, decide_true, decide_false, beq_self_eq_true, Bool.not_true, Bool.not_false, Bool.and_true, Bool.true_and, Bool.and_self, cmpI, ↓reduceIte, Bool.false_eq_true, reduceCtorEq, Int.reduceEq, Int.reduceLT, Int.reduceLE] at hq) <;> first | contradiction | subst hq | skip)
      | (with_reducible refine Nd.mk trivial ?_)
      | (with_reducible refine Nd.mk (by decide) ?_)
      | (with_reducible refine Nd.mk ?_ ?_)
      | (with_reducible refine Leaf.mk rfl ?_)
      | (with_reducible refine LeafS.fin rfl ?_)
      | (with_reducible refine Fin.mk ?_ rfl)
      | (with_reducible refine Fin.mk ?_ ?_)
      | ((with_reducible refine Nx.mk ?_ ?_ ?_ ?_) <;> first | rfl | skip)
      | (conv => whnf
         first
           | (with_reducible refine gn _ _ ?_; clear gn G)
           | (with_reducible refine gn _ _ _ _ ?_; clear gn G)
           | (with_reducible refine Wr.mk ?_)
           | (with_reducible refine hn _ _ ?_; clear hn he hr K')
           | (with_reducible refine he _ _ _ ?_; clear hn he hr K')
           | (with_reducible refine hr _ _ ?_; clear hn he hr K')
           | (with_reducible refine Nd.mk trivial ?_)
           | (with_reducible refine Nd.mk (by decide) ?_)
           | (with_reducible refine Nd.mk ?_ ?_)
           | (with_reducible refine Leaf.mk rfl ?_)
           | (with_reducible refine LeafS.fin rfl ?_)
           | (with_reducible refine Fin.mk ?_ rfl)
           | (with_reducible refine Fin.mk ?_ ?_)
           | ((with_reducible refine Nx.mk ?_ ?_ ?_ ?_) <;> first | rfl | skip)
           | (with_reducible show Bo _ _)
           | (with_reducible show Br _ _ _)
           | (with_reducible show Eqn _ _ _)))
    all_goals first | (rw [e1]; omega) | skip
    all_goals (refine congrArg (AV.int .i64) ?_; rw [e1])
    rcases (by omega : n % 4 = 0 ∨ n % 4 = 1 ∨ n % 4 = 2 ∨ n % 4 = 3) with h | h | h | h <;> rw [h] <;> rfl
  · trivial
theorem pok_r05_group : POK prog orc f_r05_group := by
  refine pok_of ok_r05_group mixed (by simp [ac_r05_group, acP, callsP]) (by simp [ac_r05_group, acS, callsS]) fun args hok => ?_
  show Fits orc nt_r05_group rs_r05_group ac_r05_group args (pGroup args)
  unfold ac_r05_group
  unfold pGroup
  split
  · refine ⟨rfl, ?_⟩
    repeat' (first
      | (with_reducible first | refine st_seq (fun K' hn he hr => ?_) | refine st_block (fun K' hn he hr => ?_) | refine st_region ?_ | refine st_draw ?_ | refine st_cond ?_ | refine st_skip ?_ | refine st_exit ?_ | refine st_ret ?_ | refine st_loop ?_ | refine st_op (fun G gn => ?_) | refine st_nil ?_ | refine st_gop ?_ | refine st_dop (fun G gn => ?_) | refine st_dnil ?_ | refine st_gdop ?_ | refine st_tl ?_)
      | (with_reducible refine gn _ _ ?_; clear gn G)
      | (with_reducible refine gn _ _ _ _ ?_; clear gn G)
      | (with_reducible refine Wr.mk ?_)
      | (with_reducible refine hn _ _ ?_; clear hn he hr K')
      | (with_reducible refine he _ _ _ ?_; clear hn he hr K')
      | (with_reducible refine hr _ _ ?_; clear hn he hr K')
      | ((with_reducible refine Eqn.mk (fun hq => ?_) ?_) <;> first | contradiction | skip)
      | (with_reducible refine Bo.yes (by decide) ?_)
      | (with_reducible refine Bo.no (by decide) ?_)
      | ((with_reducible refine Bo.gen (fun c hb => ?_)) <;> (try simp only [Nat.reduceAdd, toD, toDs, dInt, dBool, dStr, dList, dFs, dFld, List.getD_cons_zero, List.getD_cons_succ, Nat.zero_add, Int.reduceToNat] at hb) <;> (try simp only [cond_true, cond_false, toD, toDs, dInt, dBool, dStr, dList, dFs, dFld, List.getD_cons_zero, List.getD_cons_succ, Nat.zero_add, eqA, eqAs, decide_true, decide_false, beq_self_eq_true, Bool.not_true, Bool.not_false, Bool.and_true, Bool.true_and, Bool.and_self, cmpI, ↓reduceIte, Bool.false_eq_true, reduceCtorEq, Int.reduceEq, Int.reduceLT, Int.reduceLE] at hb) <;> first | (obtain rfl : c = true := hb) | (obtain rfl : c = false := hb) | skip)
      | ((with_reducible refine Br.cs (fun hq => ?_) (fun hq => ?_)) <;> (try simp only [cond_true, cond_false, toD, toDs, dInt, dBool, dStr, dList, dFs, dFld, List.getD_cons_zero, List.getD_cons_succ, Nat.zero_add, eqA, eqAs, decide_true, decide_false, beq_self_eq_true, Bool.not_true, Bool.not_false, Bool.and_true, Bool.true_and, Bool.and_self, cmpI, ↓reduceIte, Bool.false_eq_true, reduceCtorEq, Int.reduceEq, Int.reduceLT, Int.reduceLE] at hq) <;> first | contradiction | subst hq | skip)
      | (with_reducible refine Nd.mk trivial ?_)
      | (with_reducible refine Nd.mk (by decide) ?_)
      | (with_reducible refine Nd.mk ?_ ?_)
      | (with_reducible refine Leaf.mk rfl ?_)
      | (with_reducible refine LeafS.fin rfl ?_)
      | (with_reducible refine Fin.mk ?_ rfl)
      | (with_reducible refine Fin.mk ?_ ?_)
      | ((with_reducible refine Nx.mk ?_ ?_ ?_ ?_) <;> first | rfl | skip)
      | (conv => whnf
         first
           | (with_reducible refine gn _ _ ?_; clear gn G)
           | (with_reducible refine gn _ _ _ _ ?_; clear gn G)
           | (with_reducible refine Wr.mk ?_)
           | (with_reducible refine hn _ _ ?_; clear hn he hr K')
           | (with_reducible refine he _ _ _ ?_; clear hn he hr K')
           | (with_reducible refine hr _ _ ?_; clear hn he hr K')
           | (with_reducible refine Nd.mk trivial ?_)
           | (with_reducible refine Nd.mk (by decide) ?_)
           | (with_reducible refine Nd.mk ?_ ?_)
           | (with_reducible refine Leaf.mk rfl ?_)
           | (with_reducible refine LeafS.fin rfl ?_)
           | (with_reducible refine Fin.mk ?_ rfl)
           | (with_reducible refine Fin.mk ?_ ?_)
           | ((with_reducible refine Nx.mk ?_ ?_ ?_ ?_) <;> first | rfl | skip)
           | (with_reducible show Bo _ _)
           | (with_reducible show Br _ _ _)
           | (with_reducible show Eqn _ _ _)))
    all_goals first | rfl
  · trivial
theorem pok_bpdu_bridges : POK prog orc f_bpdu_bridges := by
  refine pok_of ok_bpdu_bridges mixed (by simp [ac_bpdu_bridges, acP, callsP]) (by simp [ac_bpdu_bridges, acS, callsS]) fun args hok => ?_
  show Fits orc nt_bpdu_bridges rs_bpdu_bridges ac_bpdu_bridges args (pBridges args)
  unfold ac_bpdu_bridges
  unfold pBridges
  split
  · refine ⟨rfl, ?_⟩
    repeat' (first
      | (with_reducible first | refine st_seq (fun K' hn he hr => ?_) | refine st_block (fun K' hn he hr => ?_) | refine st_region ?_ | refine st_draw ?_ | refine st_cond ?_ | refine st_skip ?_ | refine st_exit ?_ | refine st_ret ?_ | refine st_loop ?_ | refine st_op (fun G gn => ?_) | refine st_nil ?_ | refine st_gop ?_ | refine st_dop (fun G gn => ?_) | refine st_dnil ?_ | refine st_gdop ?_ | refine st_tl ?_)
      | (with_reducible refine gn _ _ ?_; clear gn G)
      | (with_reducible refine gn _ _ _ _ ?_; clear gn G)
      | (with_reducible refine Wr.mk ?_)
      | (with_reducible refine hn _ _ ?_; clear hn he hr K')
      | (with_reducible refine he _ _ _ ?_; clear hn he hr K')
      | (with_reducible refine hr _ _ ?_; clear hn he hr K')
      | ((with_reducible refine Eqn.mk (fun hq => ?_) ?_) <;> first | contradiction | skip)
      | (with_reducible refine Bo.yes (by decide) ?_)
      | (with_reducible refine Bo.no (by decide) ?_)
      | ((with_reducible refine Bo.gen (fun c hb => ?_)) <;> (try simp only [Nat.reduceAdd, toD, toDs, dInt, dBool, dStr, dList, dFs, dFld, List.getD_cons_zero, List.getD_cons_succ, Nat.zero_add, Int.reduceToNat] at hb) <;> (try simp only [cond_true, cond_false, toD, toDs, dInt, dBool, dStr, dList, dFs, dFld, List.getD_cons_zero, List.getD_cons_succ, Nat.zero_add, eqA, eqAs, decide_true, decide_false, beq_self_eq_true, Bool.not_true, Bool.not_false, Bool.and_true, Bool.true_and, Bool.and_self, cmpI, ↓reduceIte, Bool.false_eq_true, reduceCtorEq, Int.reduceEq, Int.reduceLT, Int.reduceLE] at hb) <;> first | (obtain rfl : c = true := hb) | (obtain rfl : c = false := hb) | skip)
      | ((with_reducible refine Br.cs (fun hq => ?_) (fun hq => ?_)) <;> (try simp only [cond_true, cond_false, toD, toDs, dInt, dBool, dStr, dList, dFs, dFld, List.getD_cons_zero, List.getD_cons_succ, Nat.zero_add, eqA, eqAs, decide_true, decide_false, beq_self_eq_true, Bool.not_true, Bool.not_false, Bool.and_true, Bool.true_and, Bool.and_self, cmpI, ↓reduceIte, Bool.false_eq_true, reduceCtorEq, Int.reduceEq, Int.reduceLT, Int.reduceLE] at hq) <;> first | contradiction | subst hq | skip)
      | (with_reducible refine Nd.mk trivial ?_)
      | (with_reducible refine Nd.mk (by decide) ?_)
      | (with_reducible refine Nd.mk ?_ ?_)
      | (with_reducible refine Leaf.mk rfl ?_)
      | (with_reducible refine LeafS.fin rfl ?_)
      | (with_reducible refine Fin.mk ?_ rfl)
      | (with_reducible refine Fin.mk ?_ ?_)
      | ((with_reducible refine Nx.mk ?_ ?_ ?_ ?_) <;> first | rfl | skip)
      | (conv => whnf
         first
           | (with_reducible refine gn _ _ ?_; clear gn G)
           | (with_reducible refine gn _ _ _ _ ?_; clear gn G)
           | (with_reducible refine Wr.mk ?_)
           | (with_reducible refine hn _ _ ?_; clear hn he hr K')
           | (with_reducible refine he _ _ _ ?_; clear hn he hr K')
           | (with_reducible refine hr _ _ ?_; clear hn he hr K')
           | (with_reducible refine Nd.mk trivial ?_)
           | (with_reducible refine Nd.mk (by decide) ?_)
           | (with_reducible refine Nd.mk ?_ ?_)
           | (with_reducible refine Leaf.mk rfl ?_)
           | (with_reducible refine LeafS.fin rfl ?_)
           | (with_reducible refine Fin.mk ?_ rfl)
           | (with_reducible refine Fin.mk ?_ ?_)
           | ((with_reducible refine Nx.mk ?_ ?_ ?_ ?_) <;> first | rfl | skip)
           | (with_reducible show Bo _ _)
           | (with_reducible show Br _ _ _)
           | (with_reducible show Eqn _ _ _)))
    all_goals first | rfl
  · trivial
theorem pok_bpdu_llc : POK prog orc f_bpdu_llc := by
  refine pok_of ok_bpdu_llc mixed (by simp [ac_bpdu_llc, acP, callsP]) (by simp [ac_bpdu_llc, acS, callsS]) fun args hok => ?_
  show Fits orc nt_bpdu_llc rs_bpdu_llc ac_bpdu_llc args (pLlc args)
  unfold ac_bpdu_llc
  unfold pLlc
  split
  · refine ⟨rfl, ?_⟩
    repeat' (first
      | (with_reducible first | refine st_seq (fun K' hn he hr => ?_) | refine st_block (fun K' hn he hr => ?_) | refine st_region ?_ | refine st_draw ?_ | refine st_cond ?_ | refine st_skip ?_ | refine st_exit ?_ | refine st_ret ?_ | refine st_loop ?_ | refine st_op (fun G gn => ?_) | refine st_nil ?_ | refine st_gop ?_ | refine st_dop (fun G gn => ?_) | refine st_dnil ?_ | refine st_gdop ?_ | refine st_tl ?_)
      | (with_reducible refine gn _ _ ?_; clear gn G)
      | (with_reducible refine gn _ _ _ _ ?_; clear gn G)
      | (with_reducible refine Wr.mk ?_)
      | (with_reducible refine hn _ _ ?_; clear hn he hr K')
      | (with_reducible refine he _ _ _ ?_; clear hn he hr K')
      | (with_reducible refine hr _ _ ?_; clear hn he hr K')
      | ((with_reducible refine Eqn.mk (fun hq => ?_) ?_) <;> first | contradiction | skip)
      | (with_reducible refine Bo.yes (by decide) ?_)
      | (with_reducible refine Bo.no (by decide) ?_)
      | ((with_reducible refine Bo.gen (fun c hb => ?_)) <;> (try simp only [Nat.reduceAdd, toD, toDs, dInt, dBool, dStr, dList, dFs, dFld, List.getD_cons_zero, List.getD_cons_succ, Nat.zero_add, Int.reduceToNat] at hb) <;> (try simp only [cond_true, cond_false, toD, toDs, dInt, dBool, dStr, dList, dFs, dFld, List.getD_cons_zero, List.getD_cons_succ, Nat.zero_add, eqA, eqAs, decide_true, decide_false, beq_self_eq_true, Bool.not_true, Bool.not_false, Bool.and_true, Bool.true_and, Bool.and_self, cmpI, ↓reduceIte, Bool.false_eq_true, reduceCtorEq, Int.reduceEq, Int.reduceLT, Int.reduceLE] at hb) <;> first | (obtain rfl : c = true := hb) | (obtain rfl : c = false := hb) | skip)
      | ((with_reducible refine Br.cs (fun hq => ?_) (fun hq => ?_)) <;> (try simp only [cond_true, cond_false, toD, toDs, dInt, dBool, dStr, dList, dFs, dFld, List.getD_cons_zero, List.getD_cons_succ, Nat.zero_add, eqA, eqAs, decide_true, decide_false, beq_self_eq_true, Bool.not_true, Bool.not_false, Bool.and_true, Bool.true_and, Bool.and_self, cmpI, ↓reduceIte, Bool.false_eq_true, reduceCtorEq, Int.reduceEq, Int.reduceLT, Int.reduceLE] at hq) <;> first | contradiction | subst hq | skip)
      | (with_reducible refine Nd.mk trivial ?_)
      | (with_reducible refine Nd.mk (by decide) ?_)
      | (with_reducible refine Nd.mk ?_ ?_)
      | (with_reducible refine Leaf.mk rfl ?_)
      | (with_reducible refine LeafS.fin rfl ?_)
      | (with_reducible refine Fin.mk ?_ rfl)
      | (with_reducible refine Fin.mk ?_ ?_)
      | ((with_reducible refine Nx.mk ?_ ?_ ?_ ?_) <;> first | rfl | skip)
      | (conv => whnf
         first
           | (with_reducible refine gn _ _ ?_; clear gn G)
           | (with_reducible refine gn _ _ _ _ ?_; clear gn G)
           | (with_reducible refine Wr.mk ?_)
           | (with_reducible refine hn _ _ ?_; clear hn he hr K')
           | (with_reducible refine he _ _ _ ?_; clear hn he hr K')
           | (with_reducible refine hr _ _ ?_; clear hn he hr K')
           | (with_reducible refine Nd.mk trivial ?_)
           | (with_reducible refine Nd.mk (by decide) ?_)
           | (with_reducible refine Nd.mk ?_ ?_)
           | (with_reducible refine Leaf.mk rfl ?_)
           | (with_reducible refine LeafS.fin rfl ?_)
           | (with_reducible refine Fin.mk ?_ rfl)
           | (with_reducible refine Fin.mk ?_ ?_)
           | ((with_reducible refine Nx.mk ?_ ?_ ?_ ?_) <;> first | rfl | skip)
           | (with_reducible show Bo _ _)
           | (with_reducible show Br _ _ _)
           | (with_reducible show Eqn _ _ _)))
    all_goals first | rfl
  · trivial
theorem pok_l05_cut : POK prog orc f_l05_cut := by
  refine pok_of ok_l05_cut mixed (by simp [ac_l05_cut, acP, callsP]) (by simp [ac_l05_cut, acS, callsS]) fun args hok => ?_
  show Fits orc nt_l05_cut rs_l05_cut ac_l05_cut args (pCut100 args)
  unfold ac_l05_cut
  unfold pCut100
  split
  · rename_i xs
    refine ⟨rfl, ?_⟩
    repeat' (first
      | (with_reducible first | refine st_seq (fun K' hn he hr => ?_) | refine st_block (fun K' hn he hr => ?_) | refine st_region ?_ | refine st_draw ?_ | refine st_cond ?_ | refine st_skip ?_ | refine st_exit ?_ | refine st_ret ?_ | refine st_loop ?_ | refine st_op (fun G gn => ?_) | refine st_nil ?_ | refine st_gop ?_ | refine st_dop (fun G gn => ?_) | refine st_dnil ?_ | refine st_gdop ?_ | refine st_tl ?_)
      | (with_reducible refine gn _ _ ?_; clear gn G)
      | (with_reducible refine gn _ _ _ _ ?_; clear gn G)
      | (with_reducible refine Wr.mk ?_)
      | (with_reducible refine hn _ _ ?_; clear hn he hr K')
      | (with_reducible refine he _ _ _ ?_; clear hn he hr K')
      | (with_reducible refine hr _ _ ?_; clear hn he hr K')
      | ((with_reducible refine Eqn.mk (fun hq => ?_) ?_) <;> first | contradiction | skip)
      | (with_reducible refine Bo.yes (by decide) ?_)
      | (with_reducible refine Bo.no (by decide) ?_)
      | ((with_reducible refine Bo.gen (fun c hb => ?_)) <;> (try simp only [Nat.reduceAdd, toD, toDs, dInt, dBool, dStr, dList, dFs, dFld, List.getD_cons_zero, List.getD_cons_succ, Nat.zero_add, Int.reduceToNat] at hb) <;> (try simp only [cond_true, cond_false, toD, toDs, dInt, dBool, dStr, dList, dFs, dFld, List.getD_cons_zero, List.getD_cons_succ, Nat.zero_add, eqA, eqAs, decide_true, decide_false, beq_self_eq_true, Bool.not_true, Bool.not_false, Bool.and_true, Bool.true_and, Bool.and_self, cmpI, ↓reduceIte, Bool.false_eq_true, reduceCtorEq, Int.reduceEq, Int.reduceLT, Int.reduceLE] at hb) <;> first | (obtain rfl : c = true := hb) | (obtain rfl : c = false := hb) | skip)
      | ((with_reducible refine Br.cs (fun hq => ?_) (fun hq => ?_)) <;> (try simp only [cond_true, cond_false, toD, toDs, dInt, dBool, dStr, dList, dFs, dFld, List.getD_cons_zero, List.getD_cons_succ, Nat.zero_add, eqA, eqAs, decide_true, decide_false, beq_self_eq_true, Bool.not_true, Bool.not_false, Bool.and_true, Bool.true_and, Bool.and_self, cmpI, ↓reduceIte, Bool.false_eq_true, reduceCtorEq, Int.reduceEq, Int.reduceLT, Int.reduceLE] at hq) <;> first | contradiction | subst hq | skip)
      | (with_reducible refine Nd.mk trivial ?_)
      | (with_reducible refine Nd.mk (by decide) ?_)
      | (with_reducible refine Nd.mk ?_ ?_)
      | (with_reducible refine Leaf.mk rfl ?_)
      | (with_reducible refine LeafS.fin rfl ?_)
      | (with_reducible refine Fin.mk ?_ rfl)
      | (with_reducible refine Fin.mk ?_ ?_)
      | ((with_reducible refine Nx.mk ?_ ?_ ?_ ?_) <;> first | rfl | skip)
      | (conv => whnf
         first
           | (with_reducible refine gn _ _ ?_; clear gn G)
           | (with_reducible refine gn _ _ _ _ ?_; clear gn G)
           | (with_reducible refine Wr.mk ?_)
           | (with_reducible refine hn _ _ ?_; clear hn he hr K')
           | (with_reducible refine he _ _ _ ?_; clear hn he hr K')
           | (with_reducible refine hr _ _ ?_; clear hn he hr K')
           | (with_reducible refine Nd.mk trivial ?_)
           | (with_reducible refine Nd.mk (by decide) ?_)
           | (with_reducible refine Nd.mk ?_ ?_)
           | (with_reducible refine Leaf.mk rfl ?_)
           | (with_reducible refine LeafS.fin rfl ?_)
           | (with_reducible refine Fin.mk ?_ rfl)
           | (with_reducible refine Fin.mk ?_ ?_)
           | ((with_reducible refine Nx.mk ?_ ?_ ?_ ?_) <;> first | rfl | skip)
           | (with_reducible show Bo _ _)
           | (with_reducible show Br _ _ _)
           | (with_reducible show Eqn _ _ _)))
    · unfold cutOK; split <;> omega
    · show AV.sl u8 _ Tok.no = AV.sl u8 _ Tok.no
      congr 1
      split
      · rfl
      · rw [List.take_of_length_le (by omega : xs.length ≤ 100), List.take_of_length_le (by simp)]; rfl
  · trivial
theorem sok_bpdu_flags_1 : SOK prog orc f_bpdu_flags_1 := by
  refine sok_of ok_bpdu_flags_1 mixed (by simp [ac_bpdu_flags_1, acP, callsP]) (by simp [ac_bpdu_flags_1, acS, callsS]) fun args H hok => ?_
  show FitsS orc nt_bpdu_flags_1 rs_bpdu_flags_1 ac_bpdu_flags_1 args H (sPut args H)
  unfold ac_bpdu_flags_1
  unfold sPut
  split
  · rename_i b f n
    refine ⟨rfl, ?_⟩
    repeat' (first
      | (with_reducible first | refine st_seq (fun K' hn he hr => ?_) | refine st_block (fun K' hn he hr => ?_) | refine st_region ?_ | refine st_draw ?_ | refine st_cond ?_ | refine st_skip ?_ | refine st_exit ?_ | refine st_ret ?_ | refine st_loop ?_ | refine st_op (fun G gn => ?_) | refine st_nil ?_ | refine st_gop ?_ | refine st_dop (fun G gn => ?_) | refine st_dnil ?_ | refine st_gdop ?_ | refine st_tl ?_)
      | (with_reducible refine gn _ _ ?_; clear gn G)
      | (with_reducible refine gn _ _ _ _ ?_; clear gn G)
      | (with_reducible refine Wr.mk ?_)
      | (with_reducible refine hn _ _ ?_; clear hn he hr K')
      | (with_reducible refine he _ _ _ ?_; clear hn he hr K')
      | (with_reducible refine hr _ _ ?_; clear hn he hr K')
      | ((with_reducible refine Eqn.mk (fun hq => ?_) ?_) <;> first | contradiction | skip)
      | (with_reducible refine Bo.yes (by decide) ?_)
      | (with_reducible refine Bo.no (by decide) ?_)
      | ((with_reducible refine Bo.gen (fun c hb => ?_)) <;> (try simp only [Nat.reduceAdd, toD, toDs, dInt, dBool, dStr, dList, dFs, dFld, List.getD_cons_zero, List.getD_cons_succ, Nat.zero_add, Int.reduceToNat] at hb) <;> (try simp only [cond_true, cond_false, toD, toDs, dInt, dBool, dStr, dList, dFs, dFld, List.getD_cons_zero, List.getD_cons_succ, Nat.zero_add, eqA, eqAs, decide_true, decide_false, beq_self_eq_true, Bool.not_true, Bool.not_false, Bool.and_true, Bool.true_and, Bool.and_self, cmpI, ↓reduceIte, Bool.false_eq_true, reduceCtorEq, Int.reduceEq, Int.reduceLT, Int.reduceLE] at hb) <;> first | (obtain rfl : c = true := hb) | (obtain rfl : c = false := hb) | skip)
      | ((with_reducible refine Br.cs (fun hq => ?_) (fun hq => ?_)) <;> (try simp only [cond_true, cond_false, toD, toDs, dInt, dBool, dStr, dList, dFs, dFld, List.getD_cons_zero, List.getD_cons_succ, Nat.zero_add, eqA, eqAs, decide_true, decide_false, beq_self_eq_true, Bool.not_true, Bool.not_false, Bool.and_true, Bool.true_and, Bool.and_self, cmpI, ↓reduceIte, Bool.false_eq_true, reduceCtorEq, Int.reduceEq, Int.reduceLT, Int.reduceLE] at hq) <;> first | contradiction | subst hq | skip)
      | (with_reducible refine Nd.mk trivial ?_)
      | (with_reducible refine Nd.mk (by decide) ?_)
      | (with_reducible refine Nd.mk ?_ ?_)
      | (with_reducible refine Leaf.mk rfl ?_)
      | (with_reducible refine LeafS.fin rfl ?_)
      | (with_reducible refine Fin.mk ?_ rfl)
      | (with_reducible refine Fin.mk ?_ ?_)
      | ((with_reducible refine Nx.mk ?_ ?_ ?_ ?_) <;> first | rfl | skip)
      | (conv => whnf
         first
           | (with_reducible refine gn _ _ ?_; clear gn G)
           | (with_reducible refine gn _ _ _ _ ?_; clear gn G)
           | (with_reducible refine Wr.mk ?_)
           | (with_reducible refine hn _ _ ?_; clear hn he hr K')
           | (with_reducible refine he _ _ _ ?_; clear hn he hr K')
           | (with_reducible refine hr _ _ ?_; clear hn he hr K')
           | (with_reducible refine Nd.mk trivial ?_)
           | (with_reducible refine Nd.mk (by decide) ?_)
           | (with_reducible refine Nd.mk ?_ ?_)
           | (with_reducible refine Leaf.mk rfl ?_)
           | (with_reducible refine LeafS.fin rfl ?_)
           | (with_reducible refine Fin.mk ?_ rfl)
           | (with_reducible refine Fin.mk ?_ ?_)
           | ((with_reducible refine Nx.mk ?_ ?_ ?_ ?_) <;> first | rfl | skip)
           | (with_reducible show Bo _ _)
           | (with_reducible show Br _ _ _)
           | (with_reducible show Eqn _ _ _)))
    all_goals first | rfl | (subst_vars; rfl)
  · trivial
end Go.Vc.Seat
set_option linter.unusedVariables false
set_option linter.unusedSimpArgs false
namespace Go.Vc.Seat
open Go.Vc Go.Proofs.Try

theorem rb (ro : Int) : (0 ≤ roleBits ro) = (ro = 0 ∨ ro = 1 ∨ ro = 3 ∨ ro = 4) := by
  unfold roleBits
  repeat' split
  all_goals simp_all
set_option maxHeartbeats 2000000 in
theorem pok_bpdu_Check : POK prog orc f_bpdu_Check := by
  refine pok_of ok_bpdu_Check mixed (by simp [ac_bpdu_Check, acP, callsP, pok_bpdu_bits]) (by simp [ac_bpdu_Check, acS, callsS]) fun args hok => ?_
  show Fits orc nt_bpdu_Check rs_bpdu_Check ac_bpdu_Check args (pBpCheck args)
  unfold ac_bpdu_Check
  unfold pBpCheck
  split
  · rename_i k tc ack pr le fo ag ro R C B P ta tm th td
    refine ⟨rfl, ?_⟩
    repeat' (first
      | (with_reducible first | refine st_seq (fun K' hn he hr => ?_) | refine st_block (fun K' hn he hr => ?_) | refine st_region ?_ | refine st_draw ?_ | refine st_cond ?_ | refine st_skip ?_ | refine st_exit ?_ | refine st_ret ?_ | refine st_loop ?_ | refine st_op (fun G gn => ?_) | refine st_nil ?_ | refine st_gop ?_ | refine st_dop (fun G gn => ?_) | refine st_dnil ?_ | refine st_gdop ?_ | refine st_tl ?_)
      | (with_reducible refine gn _ _ ?_; clear gn G)
      | (with_reducible refine gn _ _ _ _ ?_; clear gn G)
      | (with_reducible refine Wr.mk ?_)
      | (with_reducible refine hn _ _ ?_; clear hn he hr K')
      | (with_reducible refine he _ _ _ ?_; clear hn he hr K')
      | (with_reducible refine hr _ _ ?_; clear hn he hr K')
      | ((with_reducible refine Eqn.mk (fun hq => ?_) ?_) <;> first | contradiction | skip)
      | (with_reducible refine Bo.yes (by decide) ?_)
      | (with_reducible refine Bo.no (by decide) ?_)
      | ((with_reducible refine Bo.gen (fun c hb => ?_)) <;> (try simp only [Nat.reduceAdd, toD, toDs, dInt, dBool, dStr, dList, dFs, dFld, List.getD_cons_zero, List.getD_cons_succ, Nat.zero_add, Int.reduceToNat] at hb) <;> (try simp only [cond_true, cond_false, toD, toDs, dInt, dBool, dStr, dList, dFs, dFld, List.getD_cons_zero, List.getD_cons_succ, Nat.zero_add, eqA, eqAs, decide_true, decide_false, beq_self_eq_true, Bool.not_true, Bool.not_false, Bool.and_true, Bool.true_and, Bool.and_self, cmpI, ↓reduceIte, Bool.false_eq_true, reduceCtorEq, Int.reduceEq, Int.reduceLT, Int.reduceLE] at hb) <;> first | (obtain rfl : c = true := hb) | (obtain rfl : c = false := hb) | skip)
      | ((with_reducible refine Br.cs (fun hq => ?_) (fun hq => ?_)) <;> (try simp only [cond_true, cond_false, toD, toDs, dInt, dBool, dStr, dList, dFs, dFld, List.getD_cons_zero, List.getD_cons_succ, Nat.zero_add, eqA, eqAs, decide_true, decide_false, beq_self_eq_true, Bool.not_true, Bool.not_false, Bool.and_true, Bool.true_and, Bool.and_self, cmpI, ↓reduceIte, Bool.false_eq_true, reduceCtorEq, Int.reduceEq, Int.reduceLT, Int.reduceLE] at hq) <;> first | contradiction | subst hq | skip)
      | (with_reducible refine Nd.mk trivial ?_)
      | (with_reducible refine Nd.mk (by decide) ?_)
      | (with_reducible refine Nd.mk ?_ ?_)
      | (with_reducible refine Leaf.mk rfl ?_)
      | (with_reducible refine LeafS.fin rfl ?_)
      | (with_reducible refine Fin.mk ?_ rfl)
      | (with_reducible refine Fin.mk ?_ ?_)
      | ((with_reducible refine Nx.mk ?_ ?_ ?_ ?_) <;> first | rfl | skip)
      | (conv => whnf
         first
           | (with_reducible refine gn _ _ ?_; clear gn G)
           | (with_reducible refine gn _ _ _ _ ?_; clear gn G)
           | (with_reducible refine Wr.mk ?_)
           | (with_reducible refine hn _ _ ?_; clear hn he hr K')
           | (with_reducible refine he _ _ _ ?_; clear hn he hr K')
           | (with_reducible refine hr _ _ ?_; clear hn he hr K')
           | (with_reducible refine Nd.mk trivial ?_)
           | (with_reducible refine Nd.mk (by decide) ?_)
           | (with_reducible refine Nd.mk ?_ ?_)
           | (with_reducible refine Leaf.mk rfl ?_)
           | (with_reducible refine LeafS.fin rfl ?_)
           | (with_reducible refine Fin.mk ?_ rfl)
           | (with_reducible refine Fin.mk ?_ ?_)
           | ((with_reducible refine Nx.mk ?_ ?_ ?_ ?_) <;> first | rfl | skip)
           | (with_reducible show Bo _ _)
           | (with_reducible show Br _ _ _)
           | (with_reducible show Eqn _ _ _)))
    all_goals (simp only [zeroD, zeroDs, dFld, List.getD_cons_succ, List.getD_cons_zero, dInt, dBool, ctd, cfd, dtd, dfd] at *)
    all_goals (clear hok; refine congrArg (AV.int .i64) ?_; simp_all [fineB, rb])
    all_goals (try (intros; simp_all; done))
    all_goals (try omega)
  · trivial
set_option maxHeartbeats 2000000 in
theorem pok_r05_fine : POK prog orc f_r05_fine := by
  refine pok_of ok_r05_fine mixed (by simp [ac_r05_fine, acP, callsP]) (by simp [ac_r05_fine, acS, callsS]) fun args hok => ?_
  show Fits orc nt_r05_fine rs_r05_fine ac_r05_fine args (pFine args)
  unfold ac_r05_fine
  unfold pFine
  split
  · rename_i k tc ack pr le fo ag ro R C B P ta tm th td
    refine ⟨rfl, ?_⟩
    repeat' (first
      | (with_reducible first | refine st_seq (fun K' hn he hr => ?_) | refine st_block (fun K' hn he hr => ?_) | refine st_region ?_ | refine st_draw ?_ | refine st_cond ?_ | refine st_skip ?_ | refine st_exit ?_ | refine st_ret ?_ | refine st_loop ?_ | refine st_op (fun G gn => ?_) | refine st_nil ?_ | refine st_gop ?_ | refine st_dop (fun G gn => ?_) | refine st_dnil ?_ | refine st_gdop ?_ | refine st_tl ?_)
      | (with_reducible refine gn _ _ ?_; clear gn G)
      | (with_reducible refine gn _ _ _ _ ?_; clear gn G)
      | (with_reducible refine Wr.mk ?_)
      | (with_reducible refine hn _ _ ?_; clear hn he hr K')
      | (with_reducible refine he _ _ _ ?_; clear hn he hr K')
      | (with_reducible refine hr _ _ ?_; clear hn he hr K')
      | ((with_reducible refine Eqn.mk (fun hq => ?_) ?_) <;> first | contradiction | skip)
      | (with_reducible refine Bo.yes (by decide) ?_)
      | (with_reducible refine Bo.no (by decide) ?_)
      | ((with_reducible refine Bo.gen (fun c hb => ?_)) <;> (try simp only [Nat.reduceAdd, toD, toDs, dInt, dBool, dStr, dList, dFs, dFld, List.getD_cons_zero, List.getD_cons_succ, Nat.zero_add, Int.reduceToNat] at hb) <;> (try simp only [cond_true, cond_false, toD, toDs, dInt, dBool, dStr, dList, dFs, dFld, List.getD_cons_zero, List.getD_cons_succ, Nat.zero_add, eqA, eqAs, decide_true, decide_false, beq_self_eq_true, Bool.not_true, Bool.not_false, Bool.and_true, Bool.true_and, Bool.and_self, cmpI, ↓reduceIte, Bool.false_eq_true, reduceCtorEq, Int.reduceEq, Int.reduceLT, Int.reduceLE] at hb) <;> first | (obtain rfl : c = true := hb) | (obtain rfl : c = false := hb) | skip)
      | ((with_reducible refine Br.cs (fun hq => ?_) (fun hq => ?_)) <;> (try simp only [cond_true, cond_false, toD, toDs, dInt, dBool, dStr, dList, dFs, dFld, List.getD_cons_zero, List.getD_cons_succ, Nat.zero_add, eqA, eqAs, decide_true, decide_false, beq_self_eq_true, Bool.not_true, Bool.not_false, Bool.and_true, Bool.true_and, Bool.and_self, cmpI, ↓reduceIte, Bool.false_eq_true, reduceCtorEq, Int.reduceEq, Int.reduceLT, Int.reduceLE] at hq) <;> first | contradiction | subst hq | skip)
      | (with_reducible refine Nd.mk trivial ?_)
      | (with_reducible refine Nd.mk (by decide) ?_)
      | (with_reducible refine Nd.mk ?_ ?_)
      | (with_reducible refine Leaf.mk rfl ?_)
      | (with_reducible refine LeafS.fin rfl ?_)
      | (with_reducible refine Fin.mk ?_ rfl)
      | (with_reducible refine Fin.mk ?_ ?_)
      | ((with_reducible refine Nx.mk ?_ ?_ ?_ ?_) <;> first | rfl | skip)
      | (conv => whnf
         first
           | (with_reducible refine gn _ _ ?_; clear gn G)
           | (with_reducible refine gn _ _ _ _ ?_; clear gn G)
           | (with_reducible refine Wr.mk ?_)
           | (with_reducible refine hn _ _ ?_; clear hn he hr K')
           | (with_reducible refine he _ _ _ ?_; clear hn he hr K')
           | (with_reducible refine hr _ _ ?_; clear hn he hr K')
           | (with_reducible refine Nd.mk trivial ?_)
           | (with_reducible refine Nd.mk (by decide) ?_)
           | (with_reducible refine Nd.mk ?_ ?_)
           | (with_reducible refine Leaf.mk rfl ?_)
           | (with_reducible refine LeafS.fin rfl ?_)
           | (with_reducible refine Fin.mk ?_ rfl)
           | (with_reducible refine Fin.mk ?_ ?_)
           | ((with_reducible refine Nx.mk ?_ ?_ ?_ ?_) <;> first | rfl | skip)
           | (with_reducible show Bo _ _)
           | (with_reducible show Br _ _ _)
           | (with_reducible show Eqn _ _ _)))
    all_goals (simp only [zeroD, zeroDs, dFld, List.getD_cons_succ, List.getD_cons_zero, dInt, dBool, ctd, cfd, dtd, dfd] at *)
    all_goals (clear hok; refine congrArg AV.bool ?_; simp_all [fineB, Bool.and_assoc])
    all_goals (try (intros; simp_all; done))
    all_goals (try omega)
  · trivial
theorem flag_bits : ∀ tc pr le fo ag : Bool, ∀ r : _root_.Fin 4,
    orF (bitI .or .u8 (orF (orF (orF (orF 0 2 pr) 16 le) 32 fo) 64 ag) (4 * ((r.val : Nat) : Int))) 1 tc = bi tc 1 + bi pr 2 + 4 * ((r.val : Nat) : Int) + bi le 16 + bi fo 32 + bi ag 64 := by decide +kernel
theorem orF128 (x : Int) : orF x 128 false = x := rfl
theorem flag_bits2 : ∀ tc ack : Bool, orF (orF 0 1 tc) 128 ack = bi tc 1 + bi ack 128 := by decide +kernel
theorem roleShift {r : Int} (h : r = 0 ∨ r = 1 ∨ r = 3 ∨ r = 4) : ∃ i : _root_.Fin 4, IntKind.u8.wrap (IntKind.u8.wrap (roleBits r) * 2 ^ (Int.toNat 2).min IntKind.u8.bits) = 4 * ((i.val : Nat) : Int) ∧ rRole r = ((i.val : Nat) : Int) := by
  rcases h with rfl | rfl | rfl | rfl
  · exact ⟨0, by decide, by decide⟩
  · exact ⟨1, by decide, by decide⟩
  · exact ⟨2, by decide, by decide⟩
  · exact ⟨3, by decide, by decide⟩
set_option maxHeartbeats 2000000 in
theorem pok_bpdu_flags : POK prog orc f_bpdu_flags := by
  refine pok_of ok_bpdu_flags mixed (by simp [ac_bpdu_flags, acP, callsP, pok_bpdu_bits]) (by simp [ac_bpdu_flags, acS, callsS, sok_bpdu_flags_1]) fun args hok => ?_
  show Fits orc nt_bpdu_flags rs_bpdu_flags ac_bpdu_flags args (pFlags args)
  unfold ac_bpdu_flags
  unfold pFlags
  split
  · rename_i k tc ack pr le fo ag ro R C B P ta tm th td
    intro hc
    by_cases hk : k = 3
    · subst hk
      have h1 : ack = false ∧ (ro = 0 ∨ ro = 1 ∨ ro = 3 ∨ ro = 4) := by simpa [fineB] using hc
      obtain ⟨rfl, h2⟩ := h1
      obtain ⟨i, i1, i2⟩ := roleShift h2
      refine ⟨rfl, ?_⟩
      repeat' (first
        | (with_reducible first | refine st_seq (fun K' hn he hr => ?_) | refine st_block (fun K' hn he hr => ?_) | refine st_region ?_ | refine st_draw ?_ | refine st_cond ?_ | refine st_skip ?_ | refine st_exit ?_ | refine st_ret ?_ | refine st_loop ?_ | refine st_op (fun G gn => ?_) | refine st_nil ?_ | refine st_gop ?_ | refine st_dop (fun G gn => ?_) | refine st_dnil ?_ | refine st_gdop ?_ | refine st_tl ?_)
        | (with_reducible refine gn _ _ ?_; clear gn G)
        | (with_reducible refine gn _ _ _ _ ?_; clear gn G)
        | (with_reducible refine Wr.mk ?_)
        | (with_reducible refine hn _ _ ?_; clear hn he hr K')
        | (with_reducible refine he _ _ _ ?_; clear hn he hr K')
        | (with_reducible refine hr _ _ ?_; clear hn he hr K')
        | ((with_reducible refine Eqn.mk (fun hq => ?_) ?_) <;> first | contradiction | skip)
        | (with_reducible refine Bo.yes (by decide) ?_)
        | (with_reducible refine Bo.no (by decide) ?_)
        | ((with_reducible refine Bo.gen (fun c hb => ?_)) <;> (try simp only [Nat.reduceAdd, toD, toDs, dInt, dBool, dStr, dList, dFs, dFld, List.getD_cons_zero, List.getD_cons_succ, Nat.zero_add, Int.reduceToNat] at hb) <;> (try simp only [cond_true, cond_false, toD, toDs, dInt, dBool, dStr, dList, dFs, dFld, List.getD_cons_zero, List.getD_cons_succ, Nat.zero_add, eqA, eqAs, decide_true, decide_false, beq_self_eq_true, Bool.not_true, Bool.not_false, Bool.and_true, Bool.true_and, Bool.and_self, cmpI, ↓reduceIte, Bool.false_eq_true, reduceCtorEq, Int.reduceEq, Int.reduceLT, Int.reduceLE] at hb) <;> first | (obtain rfl : c = true := hb) | (obtain rfl : c = false := hb) | skip)
        | ((with_reducible refine Br.cs (fun hq => ?_) (fun hq => ?_)) <;> (try simp only [cond_true, cond_false, toD, toDs, dInt, dBool, dStr, dList, dFs, dFld, List.getD_cons_zero, List.getD_cons_succ, Nat.zero_add, eqA, eqAs, decide_true, decide_false, beq_self_eq_true, Bool.not_true, Bool.not_false, Bool.and_true, Bool.true_and, Bool.and_self, cmpI, ↓reduceIte, Bool.false_eq_true, reduceCtorEq, Int.reduceEq, Int.reduceLT, Int.reduceLE] at hq) <;> first | contradiction | subst hq | skip)
        | (with_reducible refine Nd.mk trivial ?_)
        | (with_reducible refine Nd.mk (by decide) ?_)
        | (with_reducible refine Nd.mk ?_ ?_)
        | (with_reducible refine Leaf.mk rfl ?_)
        | (with_reducible refine LeafS.fin rfl ?_)
        | (with_reducible refine Fin.mk ?_ rfl)
        | (with_reducible refine Fin.mk ?_ ?_)
        | ((with_reducible refine Nx.mk ?_ ?_ ?_ ?_) <;> first | rfl | skip)
        | (conv => whnf
           first
             | (with_reducible refine gn _ _ ?_; clear gn G)
             | (with_reducible refine gn _ _ _ _ ?_; clear gn G)
             | (with_reducible refine Wr.mk ?_)
             | (with_reducible refine hn _ _ ?_; clear hn he hr K')
             | (with_reducible refine he _ _ _ ?_; clear hn he hr K')
             | (with_reducible refine hr _ _ ?_; clear hn he hr K')
             | (with_reducible refine Nd.mk trivial ?_)
             | (with_reducible refine Nd.mk (by decide) ?_)
             | (with_reducible refine Nd.mk ?_ ?_)
             | (with_reducible refine Leaf.mk rfl ?_)
             | (with_reducible refine LeafS.fin rfl ?_)
             | (with_reducible refine Fin.mk ?_ rfl)
             | (with_reducible refine Fin.mk ?_ ?_)
             | ((with_reducible refine Nx.mk ?_ ?_ ?_ ?_) <;> first | rfl | skip)
             | (with_reducible show Bo _ _)
             | (with_reducible show Br _ _ _)
             | (with_reducible show Eqn _ _ _)))
      refine congrArg (AV.int .u8) ?_
      subst_vars
      simp only [toD, toDs, dFld, List.getD_cons_succ, List.getD_cons_zero, dInt, orF128, i1]
      rw [flag_bits]
      simp only [bFlags, i2, ↓reduceIte]
    · have h3 : ¬ (k : Int) = 3 := hk
      refine ⟨rfl, ?_⟩
      repeat' (first
        | (with_reducible first | refine st_seq (fun K' hn he hr => ?_) | refine st_block (fun K' hn he hr => ?_) | refine st_region ?_ | refine st_draw ?_ | refine st_cond ?_ | refine st_skip ?_ | refine st_exit ?_ | refine st_ret ?_ | refine st_loop ?_ | refine st_op (fun G gn => ?_) | refine st_nil ?_ | refine st_gop ?_ | refine st_dop (fun G gn => ?_) | refine st_dnil ?_ | refine st_gdop ?_ | refine st_tl ?_)
        | (with_reducible refine gn _ _ ?_; clear gn G)
        | (with_reducible refine gn _ _ _ _ ?_; clear gn G)
        | (with_reducible refine Wr.mk ?_)
        | (with_reducible refine hn _ _ ?_; clear hn he hr K')
        | (with_reducible refine he _ _ _ ?_; clear hn he hr K')
        | (with_reducible refine hr _ _ ?_; clear hn he hr K')
        | ((with_reducible refine Eqn.mk (fun hq => ?_) ?_) <;> first | contradiction | skip)
        | (with_reducible refine Bo.yes (by decide) ?_)
        | (with_reducible refine Bo.no (by decide) ?_)
        | ((with_reducible refine Bo.gen (fun c hb => ?_)) <;> (try simp only [Nat.reduceAdd, toD, toDs, dInt, dBool, dStr, dList, dFs, dFld, List.getD_cons_zero, List.getD_cons_succ, Nat.zero_add, Int.reduceToNat] at hb) <;> (try simp only [cond_true, cond_false, toD, toDs, dInt, dBool, dStr, dList, dFs, dFld, List.getD_cons_zero, List.getD_cons_succ, Nat.zero_add, eqA, eqAs, decide_true, decide_false, beq_self_eq_true, Bool.not_true, Bool.not_false, Bool.and_true, Bool.true_and, Bool.and_self, cmpI, ↓reduceIte, Bool.false_eq_true, reduceCtorEq, Int.reduceEq, Int.reduceLT, Int.reduceLE, h3] at hb) <;> first | (obtain rfl : c = true := hb) | (obtain rfl : c = false := hb) | skip)
        | ((with_reducible refine Br.cs (fun hq => ?_) (fun hq => ?_)) <;> (try simp only [cond_true, cond_false, toD, toDs, dInt, dBool, dStr, dList, dFs, dFld, List.getD_cons_zero, List.getD_cons_succ, Nat.zero_add, eqA, eqAs, decide_true, decide_false, beq_self_eq_true, Bool.not_true, Bool.not_false, Bool.and_true, Bool.true_and, Bool.and_self, cmpI, ↓reduceIte, Bool.false_eq_true, reduceCtorEq, Int.reduceEq, Int.reduceLT, Int.reduceLE, h3] at hq) <;> first | contradiction | subst hq | skip)
        | (with_reducible refine Nd.mk trivial ?_)
        | (with_reducible refine Nd.mk (by decide) ?_)
        | (with_reducible refine Nd.mk ?_ ?_)
        | (with_reducible refine Leaf.mk rfl ?_)
        | (with_reducible refine LeafS.fin rfl ?_)
        | (with_reducible refine Fin.mk ?_ rfl)
        | (with_reducible refine Fin.mk ?_ ?_)
        | ((with_reducible refine Nx.mk ?_ ?_ ?_ ?_) <;> first | rfl | skip)
        | (conv => whnf
           first
             | (with_reducible refine gn _ _ ?_; clear gn G)
             | (with_reducible refine gn _ _ _ _ ?_; clear gn G)
             | (with_reducible refine Wr.mk ?_)
             | (with_reducible refine hn _ _ ?_; clear hn he hr K')
             | (with_reducible refine he _ _ _ ?_; clear hn he hr K')
             | (with_reducible refine hr _ _ ?_; clear hn he hr K')
             | (with_reducible refine Nd.mk trivial ?_)
             | (with_reducible refine Nd.mk (by decide) ?_)
             | (with_reducible refine Nd.mk ?_ ?_)
             | (with_reducible refine Leaf.mk rfl ?_)
             | (with_reducible refine LeafS.fin rfl ?_)
             | (with_reducible refine Fin.mk ?_ rfl)
             | (with_reducible refine Fin.mk ?_ ?_)
             | ((with_reducible refine Nx.mk ?_ ?_ ?_ ?_) <;> first | rfl | skip)
             | (with_reducible show Bo _ _)
             | (with_reducible show Br _ _ _)
             | (with_reducible show Eqn _ _ _)))
      refine congrArg (AV.int .u8) ?_
      subst_vars
      simp only [bFlags, h3, ↓reduceIte, ← flag_bits2]
  · trivial
end Go.Vc.Seat
set_option linter.unusedVariables false
set_option linter.unusedSimpArgs false
namespace Go.Vc.Seat
open Go.Vc Go.Proofs.Try

theorem setP1 (x : Int) : setPartsD (List.replicate 1 (zeroD (.int .u8))) [(0, .int .u8 x)] = [.i x] := rfl
theorem be_snoc (n : Int) (k : Nat) (h : 0 ≤ n) : be n (k + 1) = be (n / 256) k ++ [.i (n % 256)] := by
  induction k with
  | zero => simp [be]
  | succ k ih =>
    rw [be, ih, be, List.cons_append]
    congr 3
    rw [Int.pow_succ, Int.mul_comm, Int.ediv_ediv_of_nonneg (by decide)]
theorem be_take (n : Int) : ∀ (k i : Nat), i < k → (be n k).take (i + 1) = (be n k).take i ++ [.i (n / 256 ^ (k - 1 - i) % 256)]
  | 0, i, h => absurd h (by omega)
  | k + 1, 0, h => by simp [be]
  | k + 1, i + 1, h => by
    rw [be, List.take_succ_cons, be_take n k i (by omega), List.take_succ_cons, List.cons_append]
    rw [show k + 1 - 1 - (i + 1) = k - 1 - i by omega]
theorem sok_bpdu_number : SOK prog orc f_bpdu_number := by
  refine sok_of ok_bpdu_number mixed (by simp [ac_bpdu_number, acP, callsP]) (by simp [ac_bpdu_number, acS, callsS]) fun args H hok => ?_
  show FitsS orc nt_bpdu_number rs_bpdu_number ac_bpdu_number args H (sNumB args H)
  unfold ac_bpdu_number
  unfold sNumB
  split
  · rename_i xs n k m
    intro hc
    obtain ⟨hk0, hk, rfl, hx⟩ := hc
    obtain ⟨k, rfl⟩ := Int.eq_ofNat_of_zero_le hk0
    simp only [okAs, okA] at hok
    refine ⟨rfl, ?_⟩
    repeat' (first
      | (with_reducible first | refine st_seq (fun K' hn he hr => ?_) | refine st_block (fun K' hn he hr => ?_) | refine st_region ?_ | refine st_draw ?_ | refine st_cond ?_ | refine st_skip ?_ | refine st_exit ?_ | refine st_ret ?_ | refine st_loop ?_ | refine st_op (fun G gn => ?_) | refine st_nil ?_ | refine st_gop ?_ | refine st_dop (fun G gn => ?_) | refine st_dnil ?_ | refine st_gdop ?_ | refine st_tl ?_)
      | (with_reducible refine gn _ _ ?_; clear gn G)
      | (with_reducible refine gn _ _ _ _ ?_; clear gn G)
      | (with_reducible refine Wr.mk ?_)
      | (with_reducible refine hn _ _ ?_; clear hn he hr K')
      | (with_reducible refine he _ _ _ ?_; clear hn he hr K')
      | (with_reducible refine hr _ _ ?_; clear hn he hr K')
      | ((with_reducible refine Eqn.mk (fun hq => ?_) ?_) <;> first | contradiction | skip)
      | (with_reducible refine Bo.yes (by decide) ?_)
      | (with_reducible refine Bo.no (by decide) ?_)
      | ((with_reducible refine Bo.gen (fun c hb => ?_)) <;> (try simp only [Nat.reduceAdd, toD, toDs, dInt, dBool, dStr, dList, dFs, dFld, List.getD_cons_zero, List.getD_cons_succ, Nat.zero_add, Int.reduceToNat] at hb) <;> (try simp only [cond_true, cond_false, toD, toDs, dInt, dBool, dStr, dList, dFs, dFld, List.getD_cons_zero, List.getD_cons_succ, Nat.zero_add, eqA, eqAs, decide_true, decide_false, beq_self_eq_true, Bool.not_true, Bool.not_false, Bool.and_true, Bool.true_and, Bool.and_self, cmpI, ↓reduceIte, Bool.false_eq_true, reduceCtorEq, Int.reduceEq, Int.reduceLT, Int.reduceLE] at hb) <;> first | (obtain rfl : c = true := hb) | (obtain rfl : c = false := hb) | skip)
      | ((with_reducible refine Br.cs (fun hq => ?_) (fun hq => ?_)) <;> (try simp only [cond_true, cond_false, toD, toDs, dInt, dBool, dStr, dList, dFs, dFld, List.getD_cons_zero, List.getD_cons_succ, Nat.zero_add, eqA, eqAs, decide_true, decide_false, beq_self_eq_true, Bool.not_true, Bool.not_false, Bool.and_true, Bool.true_and, Bool.and_self, cmpI, ↓reduceIte, Bool.false_eq_true, reduceCtorEq, Int.reduceEq, Int.reduceLT, Int.reduceLE] at hq) <;> first | contradiction | subst hq | skip)
      | (with_reducible refine Nd.mk trivial ?_)
      | (with_reducible refine Nd.mk (by decide) ?_)
      | (with_reducible refine Nd.mk ?_ ?_)
      | (with_reducible refine Leaf.mk rfl ?_)
      | (with_reducible refine LeafS.fin rfl ?_)
      | (with_reducible refine Fin.mk ?_ rfl)
      | (with_reducible refine Fin.mk ?_ ?_)
      | ((with_reducible refine Nx.mk ?_ ?_ ?_ ?_) <;> first | rfl | skip)
      | (conv => whnf
         first
           | (with_reducible refine gn _ _ ?_; clear gn G)
           | (with_reducible refine gn _ _ _ _ ?_; clear gn G)
           | (with_reducible refine Wr.mk ?_)
           | (with_reducible refine hn _ _ ?_; clear hn he hr K')
           | (with_reducible refine he _ _ _ ?_; clear hn he hr K')
           | (with_reducible refine hr _ _ ?_; clear hn he hr K')
           | (with_reducible refine Nd.mk trivial ?_)
           | (with_reducible refine Nd.mk (by decide) ?_)
           | (with_reducible refine Nd.mk ?_ ?_)
           | (with_reducible refine Leaf.mk rfl ?_)
           | (with_reducible refine LeafS.fin rfl ?_)
           | (with_reducible refine Fin.mk ?_ rfl)
           | (with_reducible refine Fin.mk ?_ ?_)
           | ((with_reducible refine Nx.mk ?_ ?_ ?_ ?_) <;> first | rfl | skip)
           | (with_reducible show Bo _ _)
           | (with_reducible show Br _ _ _)
           | (with_reducible show Eqn _ _ _)))
    refine loop_of (fun i : Nat => [(0, .sl u8 (xs ++ (be n k).take i) (.own 0)), (1, .int .u64 n), (7, .int .i64 ((k : Int) - 1 - i))])
        (fun i => [.ext u8 (xs.length + i)]) (fun i => i ≤ k) (fun i => k - i) 0 ?_ rfl (Nat.zero_le _) (fun _ _ => rfl) ?_
    · rw [wi64_in (by omega) (by omega)]
      simp only [List.take_zero, List.append_nil, Int.natCast_zero, Int.sub_zero]
      rfl
    intro i hi J hJ K' hn he hr
    have hw : i < k → IntKind.u64.wrap (IntKind.i64.wrap (8 * ((k : Int) - 1 - i))) = ((8 * (k - 1 - i) : Nat) : Int) := fun h => by
      rw [wi64_in (by omega) (by omega), w64]; omega
    repeat' (first
      | (with_reducible first | refine st_seq (fun K' hn he hr => ?_) | refine st_block (fun K' hn he hr => ?_) | refine st_region ?_ | refine st_draw ?_ | refine st_cond ?_ | refine st_skip ?_ | refine st_exit ?_ | refine st_ret ?_ | refine st_loop ?_ | refine st_op (fun G gn => ?_) | refine st_nil ?_ | refine st_gop ?_ | refine st_dop (fun G gn => ?_) | refine st_dnil ?_ | refine st_gdop ?_ | refine st_tl ?_)
      | (with_reducible refine gn _ _ ?_; clear gn G)
      | (with_reducible refine gn _ _ _ _ ?_; clear gn G)
      | (with_reducible refine Wr.mk ?_)
      | (with_reducible refine hn _ _ ?_; clear hn he hr K')
      | (with_reducible refine he _ _ _ ?_; clear hn he hr K')
      | (with_reducible refine hr _ _ ?_; clear hn he hr K')
      | ((with_reducible refine Eqn.mk (fun hq => ?_) ?_) <;> first | contradiction | skip)
      | (with_reducible refine Bo.yes (by decide) ?_)
      | (with_reducible refine Bo.no (by decide) ?_)
      | ((with_reducible refine Bo.gen (fun c hb => ?_)) <;> (try simp only [Nat.reduceAdd, toD, toDs, dInt, dBool, dStr, dList, dFs, dFld, List.getD_cons_zero, List.getD_cons_succ, Nat.zero_add, Int.reduceToNat] at hb) <;> (try simp only [cond_true, cond_false, toD, toDs, dInt, dBool, dStr, dList, dFs, dFld, List.getD_cons_zero, List.getD_cons_succ, Nat.zero_add, eqA, eqAs, decide_true, decide_false, beq_self_eq_true, Bool.not_true, Bool.not_false, Bool.and_true, Bool.true_and, Bool.and_self, cmpI, ↓reduceIte, Bool.false_eq_true, reduceCtorEq, Int.reduceEq, Int.reduceLT, Int.reduceLE] at hb) <;> first | (obtain rfl : c = true := hb) | (obtain rfl : c = false := hb) | skip)
      | ((with_reducible refine Br.cs (fun hq => ?_) (fun hq => ?_)) <;> (try simp only [cond_true, cond_false, toD, toDs, dInt, dBool, dStr, dList, dFs, dFld, List.getD_cons_zero, List.getD_cons_succ, Nat.zero_add, eqA, eqAs, decide_true, decide_false, beq_self_eq_true, Bool.not_true, Bool.not_false, Bool.and_true, Bool.true_and, Bool.and_self, cmpI, ↓reduceIte, Bool.false_eq_true, reduceCtorEq, Int.reduceEq, Int.reduceLT, Int.reduceLE] at hq) <;> first | contradiction | subst hq | skip)
      | (with_reducible refine Nd.mk trivial ?_)
      | (with_reducible refine Nd.mk (by decide) ?_)
      | (with_reducible refine Nd.mk ?_ ?_)
      | (with_reducible refine Leaf.mk rfl ?_)
      | (with_reducible refine LeafS.fin rfl ?_)
      | (with_reducible refine Fin.mk ?_ rfl)
      | (with_reducible refine Fin.mk ?_ ?_)
      | ((with_reducible refine Nx.mk ?_ ?_ ?_ ?_) <;> first | rfl | skip)
      | (conv => whnf
         first
           | (with_reducible refine gn _ _ ?_; clear gn G)
           | (with_reducible refine gn _ _ _ _ ?_; clear gn G)
           | (with_reducible refine Wr.mk ?_)
           | (with_reducible refine hn _ _ ?_; clear hn he hr K')
           | (with_reducible refine he _ _ _ ?_; clear hn he hr K')
           | (with_reducible refine hr _ _ ?_; clear hn he hr K')
           | (with_reducible refine Nd.mk trivial ?_)
           | (with_reducible refine Nd.mk (by decide) ?_)
           | (with_reducible refine Nd.mk ?_ ?_)
           | (with_reducible refine Leaf.mk rfl ?_)
           | (with_reducible refine LeafS.fin rfl ?_)
           | (with_reducible refine Fin.mk ?_ rfl)
           | (with_reducible refine Fin.mk ?_ ?_)
           | ((with_reducible refine Nx.mk ?_ ?_ ?_ ?_) <;> first | rfl | skip)
           | (with_reducible show Bo _ _)
           | (with_reducible show Br _ _ _)
           | (with_reducible show Eqn _ _ _)))
    all_goals simp only [ctd, cfd] at *
    · rw [hw (by omega)]; omega
    · simp only [setP1, List.length_append, List.length_take, List.length_singleton, be_length]
      exact ⟨by omega, by unfold roomy; omega⟩
    · refine J_of (hJ (i + 1) (by omega) (by omega)) ?_ ?_
      · have e1 : ((8 * (k - 1 - i) : Nat) : Int).toNat.min IntKind.u64.bits = 8 * (k - 1 - i) := Nat.min_eq_left (by simp [IntKind.bits]; omega)
        rw [hw (by omega), e1, fdiv_pow, pow256, w8, setP1, be_take n k i (by omega), wi64_in (by omega) (by omega), ← List.append_assoc, show (k : Int) - 1 - (i + 1 : Nat) = k - 1 - i - 1 by omega]
        try rfl
      · simp only [setP1, List.length_append, List.length_take, List.length_singleton, be_length]
        rw [show xs.length + min i k + 1 = xs.length + (i + 1) by omega]
    · have : i = k := by omega
      subst this
      rw [List.take_of_length_le (by simp [be_length])]
      rfl
    · have : i = k := by omega
      subst this
      rfl
  · trivial
theorem pok_r05_put : POK prog orc f_r05_put := by
  refine pok_of ok_r05_put mixed (by simp [ac_r05_put, acP, callsP]) (by simp [ac_r05_put, acS, callsS]) fun args hok => ?_
  show Fits orc nt_r05_put rs_r05_put ac_r05_put args (pPutB args)
  unfold ac_r05_put
  unfold pPutB
  split
  · rename_i n k
    intro hc
    obtain ⟨hk0, hk⟩ := hc
    obtain ⟨k, rfl⟩ := Int.eq_ofNat_of_zero_le hk0
    simp only [okAs, okA] at hok
    have hn0 := has_u64 hok.1
    refine ⟨rfl, ?_⟩
    repeat' (first
      | (with_reducible first | refine st_seq (fun K' hn he hr => ?_) | refine st_block (fun K' hn he hr => ?_) | refine st_region ?_ | refine st_draw ?_ | refine st_cond ?_ | refine st_skip ?_ | refine st_exit ?_ | refine st_ret ?_ | refine st_loop ?_ | refine st_op (fun G gn => ?_) | refine st_nil ?_ | refine st_gop ?_ | refine st_dop (fun G gn => ?_) | refine st_dnil ?_ | refine st_gdop ?_ | refine st_tl ?_)
      | (with_reducible refine gn _ _ ?_; clear gn G)
      | (with_reducible refine gn _ _ _ _ ?_; clear gn G)
      | (with_reducible refine Wr.mk ?_)
      | (with_reducible refine hn _ _ ?_; clear hn he hr K')
      | (with_reducible refine he _ _ _ ?_; clear hn he hr K')
      | (with_reducible refine hr _ _ ?_; clear hn he hr K')
      | ((with_reducible refine Eqn.mk (fun hq => ?_) ?_) <;> first | contradiction | skip)
      | (with_reducible refine Bo.yes (by decide) ?_)
      | (with_reducible refine Bo.no (by decide) ?_)
      | ((with_reducible refine Bo.gen (fun c hb => ?_)) <;> (try simp only [Nat.reduceAdd, toD, toDs, dInt, dBool, dStr, dList, dFs, dFld, List.getD_cons_zero, List.getD_cons_succ, Nat.zero_add, Int.reduceToNat] at hb) <;> (try simp only [cond_true, cond_false, toD, toDs, dInt, dBool, dStr, dList, dFs, dFld, List.getD_cons_zero, List.getD_cons_succ, Nat.zero_add, eqA, eqAs, decide_true, decide_false, beq_self_eq_true, Bool.not_true, Bool.not_false, Bool.and_true, Bool.true_and, Bool.and_self, cmpI, ↓reduceIte, Bool.false_eq_true, reduceCtorEq, Int.reduceEq, Int.reduceLT, Int.reduceLE] at hb) <;> first | (obtain rfl : c = true := hb) | (obtain rfl : c = false := hb) | skip)
      | ((with_reducible refine Br.cs (fun hq => ?_) (fun hq => ?_)) <;> (try simp only [cond_true, cond_false, toD, toDs, dInt, dBool, dStr, dList, dFs, dFld, List.getD_cons_zero, List.getD_cons_succ, Nat.zero_add, eqA, eqAs, decide_true, decide_false, beq_self_eq_true, Bool.not_true, Bool.not_false, Bool.and_true, Bool.true_and, Bool.and_self, cmpI, ↓reduceIte, Bool.false_eq_true, reduceCtorEq, Int.reduceEq, Int.reduceLT, Int.reduceLE] at hq) <;> first | contradiction | subst hq | skip)
      | (with_reducible refine Nd.mk trivial ?_)
      | (with_reducible refine Nd.mk (by decide) ?_)
      | (with_reducible refine Nd.mk ?_ ?_)
      | (with_reducible refine Leaf.mk rfl ?_)
      | (with_reducible refine LeafS.fin rfl ?_)
      | (with_reducible refine Fin.mk ?_ rfl)
      | (with_reducible refine Fin.mk ?_ ?_)
      | ((with_reducible refine Nx.mk ?_ ?_ ?_ ?_) <;> first | rfl | skip)
      | (conv => whnf
         first
           | (with_reducible refine gn _ _ ?_; clear gn G)
           | (with_reducible refine gn _ _ _ _ ?_; clear gn G)
           | (with_reducible refine Wr.mk ?_)
           | (with_reducible refine hn _ _ ?_; clear hn he hr K')
           | (with_reducible refine he _ _ _ ?_; clear hn he hr K')
           | (with_reducible refine hr _ _ ?_; clear hn he hr K')
           | (with_reducible refine Nd.mk trivial ?_)
           | (with_reducible refine Nd.mk (by decide) ?_)
           | (with_reducible refine Nd.mk ?_ ?_)
           | (with_reducible refine Leaf.mk rfl ?_)
           | (with_reducible refine LeafS.fin rfl ?_)
           | (with_reducible refine Fin.mk ?_ rfl)
           | (with_reducible refine Fin.mk ?_ ?_)
           | ((with_reducible refine Nx.mk ?_ ?_ ?_ ?_) <;> first | rfl | skip)
           | (with_reducible show Bo _ _)
           | (with_reducible show Br _ _ _)
           | (with_reducible show Eqn _ _ _)))
    refine loop_of (fun i : Nat => [(0, .int .u64 (n / 256 ^ i)), (1, .int .i64 k), (5, .sl u8 (be n i) .no), (6, .int .i64 i)])
        (fun i => []) (fun i => i ≤ k) (fun i => k - i) 0 ?_ rfl (Nat.zero_le _) (fun _ _ => rfl) ?_
    · simp only [Int.pow_zero, Int.ediv_one, be]
      rfl
    intro i hi J hJ K' hn he hr
    repeat' (first
      | (with_reducible first | refine st_seq (fun K' hn he hr => ?_) | refine st_block (fun K' hn he hr => ?_) | refine st_region ?_ | refine st_draw ?_ | refine st_cond ?_ | refine st_skip ?_ | refine st_exit ?_ | refine st_ret ?_ | refine st_loop ?_ | refine st_op (fun G gn => ?_) | refine st_nil ?_ | refine st_gop ?_ | refine st_dop (fun G gn => ?_) | refine st_dnil ?_ | refine st_gdop ?_ | refine st_tl ?_)
      | (with_reducible refine gn _ _ ?_; clear gn G)
      | (with_reducible refine gn _ _ _ _ ?_; clear gn G)
      | (with_reducible refine Wr.mk ?_)
      | (with_reducible refine hn _ _ ?_; clear hn he hr K')
      | (with_reducible refine he _ _ _ ?_; clear hn he hr K')
      | (with_reducible refine hr _ _ ?_; clear hn he hr K')
      | ((with_reducible refine Eqn.mk (fun hq => ?_) ?_) <;> first | contradiction | skip)
      | (with_reducible refine Bo.yes (by decide) ?_)
      | (with_reducible refine Bo.no (by decide) ?_)
      | ((with_reducible refine Bo.gen (fun c hb => ?_)) <;> (try simp only [Nat.reduceAdd, toD, toDs, dInt, dBool, dStr, dList, dFs, dFld, List.getD_cons_zero, List.getD_cons_succ, Nat.zero_add, Int.reduceToNat] at hb) <;> (try simp only [cond_true, cond_false, toD, toDs, dInt, dBool, dStr, dList, dFs, dFld, List.getD_cons_zero, List.getD_cons_succ, Nat.zero_add, eqA, eqAs, decide_true, decide_false, beq_self_eq_true, Bool.not_true, Bool.not_false, Bool.and_true, Bool.true_and, Bool.and_self, cmpI, ↓reduceIte, Bool.false_eq_true, reduceCtorEq, Int.reduceEq, Int.reduceLT, Int.reduceLE] at hb) <;> first | (obtain rfl : c = true := hb) | (obtain rfl : c = false := hb) | skip)
      | ((with_reducible refine Br.cs (fun hq => ?_) (fun hq => ?_)) <;> (try simp only [cond_true, cond_false, toD, toDs, dInt, dBool, dStr, dList, dFs, dFld, List.getD_cons_zero, List.getD_cons_succ, Nat.zero_add, eqA, eqAs, decide_true, decide_false, beq_self_eq_true, Bool.not_true, Bool.not_false, Bool.and_true, Bool.true_and, Bool.and_self, cmpI, ↓reduceIte, Bool.false_eq_true, reduceCtorEq, Int.reduceEq, Int.reduceLT, Int.reduceLE] at hq) <;> first | contradiction | subst hq | skip)
      | (with_reducible refine Nd.mk trivial ?_)
      | (with_reducible refine Nd.mk (by decide) ?_)
      | (with_reducible refine Nd.mk ?_ ?_)
      | (with_reducible refine Leaf.mk rfl ?_)
      | (with_reducible refine LeafS.fin rfl ?_)
      | (with_reducible refine Fin.mk ?_ rfl)
      | (with_reducible refine Fin.mk ?_ ?_)
      | ((with_reducible refine Nx.mk ?_ ?_ ?_ ?_) <;> first | rfl | skip)
      | (conv => whnf
         first
           | (with_reducible refine gn _ _ ?_; clear gn G)
           | (with_reducible refine gn _ _ _ _ ?_; clear gn G)
           | (with_reducible refine Wr.mk ?_)
           | (with_reducible refine hn _ _ ?_; clear hn he hr K')
           | (with_reducible refine he _ _ _ ?_; clear hn he hr K')
           | (with_reducible refine hr _ _ ?_; clear hn he hr K')
           | (with_reducible refine Nd.mk trivial ?_)
           | (with_reducible refine Nd.mk (by decide) ?_)
           | (with_reducible refine Nd.mk ?_ ?_)
           | (with_reducible refine Leaf.mk rfl ?_)
           | (with_reducible refine LeafS.fin rfl ?_)
           | (with_reducible refine Fin.mk ?_ rfl)
           | (with_reducible refine Fin.mk ?_ ?_)
           | ((with_reducible refine Nx.mk ?_ ?_ ?_ ?_) <;> first | rfl | skip)
           | (with_reducible show Bo _ _)
           | (with_reducible show Br _ _ _)
           | (with_reducible show Eqn _ _ _)))
    all_goals simp only [ctd, cfd] at *
    · simp only [setP1, List.length_singleton, be_length]
      exact ⟨trivial, by unfold roomy; omega⟩
    · have e1 : 0 ≤ n / 256 ^ i := Int.ediv_nonneg hn0.1 (Int.le_of_lt (Int.pow_pos (by decide)))
      have e2 : n / 256 ^ i ≤ n := Int.ediv_le_self _ hn0.1
      have e3 : (n / 256 ^ i).tdiv 256 = n / 256 ^ (i + 1) := by rw [Int.tdiv_eq_ediv_of_nonneg e1, Int.pow_succ, Int.ediv_ediv_of_nonneg (by exact Int.le_of_lt (Int.pow_pos (by decide)))]
      have e4 : 0 ≤ n / 256 ^ (i + 1) := Int.ediv_nonneg hn0.1 (Int.le_of_lt (Int.pow_pos (by decide)))
      have e5 : n / 256 ^ (i + 1) ≤ n := Int.ediv_le_self _ hn0.1
      have e6 : IntKind.u8.wrap ((n / 256 ^ i).tmod 256) = n / 256 ^ i % 256 := by rw [Int.tmod_eq_emod_of_nonneg e1, w8]; omega
      refine J_of (hJ (i + 1) (by omega) (by omega)) ?_ rfl
      rw [e3, e6, setP1, wi64_in (by omega) (by omega), w64, Int.emod_eq_of_lt e4 (by omega)]
      rfl
    · have : i = k := by omega
      subst this
      rfl
  · trivial
end Go.Vc.Seat
set_option linter.unusedVariables false
set_option linter.unusedSimpArgs false
namespace Go.Vc.Seat
open Go.Vc Go.Proofs.Try

theorem okB_take {xs : List D} (h : ∀ x ∈ xs, okD (.int .u8) x) (i k : Nat) : ∀ x ∈ (xs.drop i).take k, okD (.int .u8) x := fun x hx => h x (List.mem_of_mem_drop (List.mem_of_mem_take hx))
theorem pow7 {i : Nat} (h : i < 8) : (256 : Int) ^ i ≤ 72057594037927936 := by
  match i, h with
  | 0, _ | 1, _ | 2, _ | 3, _ | 4, _ | 5, _ | 6, _ | 7, _ => decide
theorem pok_r05_get : POK prog orc f_r05_get := by
  refine pok_of ok_r05_get mixed (by simp [ac_r05_get, acP, callsP]) (by simp [ac_r05_get, acS, callsS]) fun args hok => ?_
  show Fits orc nt_r05_get rs_r05_get ac_r05_get args (pGet args)
  unfold ac_r05_get
  unfold pGet
  split
  · rename_i xs
    intro hc
    simp only [okAs, okA, maxLen] at hok
    refine ⟨rfl, ?_⟩
    repeat' (first
      | (with_reducible first | refine st_seq (fun K' hn he hr => ?_) | refine st_block (fun K' hn he hr => ?_) | refine st_region ?_ | refine st_draw ?_ | refine st_cond ?_ | refine st_skip ?_ | refine st_exit ?_ | refine st_ret ?_ | refine st_loop ?_ | refine st_op (fun G gn => ?_) | refine st_nil ?_ | refine st_gop ?_ | refine st_dop (fun G gn => ?_) | refine st_dnil ?_ | refine st_gdop ?_ | refine st_tl ?_)
      | (with_reducible refine gn _ _ ?_; clear gn G)
      | (with_reducible refine gn _ _ _ _ ?_; clear gn G)
      | (with_reducible refine Wr.mk ?_)
      | (with_reducible refine hn _ _ ?_; clear hn he hr K')
      | (with_reducible refine he _ _ _ ?_; clear hn he hr K')
      | (with_reducible refine hr _ _ ?_; clear hn he hr K')
      | ((with_reducible refine Eqn.mk (fun hq => ?_) ?_) <;> first | contradiction | skip)
      | (with_reducible refine Bo.yes (by decide) ?_)
      | (with_reducible refine Bo.no (by decide) ?_)
      | ((with_reducible refine Bo.gen (fun c hb => ?_)) <;> (try simp only [Nat.reduceAdd, toD, toDs, dInt, dBool, dStr, dList, dFs, dFld, List.getD_cons_zero, List.getD_cons_succ, Nat.zero_add, Int.reduceToNat] at hb) <;> (try simp only [cond_true, cond_false, toD, toDs, dInt, dBool, dStr, dList, dFs, dFld, List.getD_cons_zero, List.getD_cons_succ, Nat.zero_add, eqA, eqAs, decide_true, decide_false, beq_self_eq_true, Bool.not_true, Bool.not_false, Bool.and_true, Bool.true_and, Bool.and_self, cmpI, ↓reduceIte, Bool.false_eq_true, reduceCtorEq, Int.reduceEq, Int.reduceLT, Int.reduceLE] at hb) <;> first | (obtain rfl : c = true := hb) | (obtain rfl : c = false := hb) | skip)
      | ((with_reducible refine Br.cs (fun hq => ?_) (fun hq => ?_)) <;> (try simp only [cond_true, cond_false, toD, toDs, dInt, dBool, dStr, dList, dFs, dFld, List.getD_cons_zero, List.getD_cons_succ, Nat.zero_add, eqA, eqAs, decide_true, decide_false, beq_self_eq_true, Bool.not_true, Bool.not_false, Bool.and_true, Bool.true_and, Bool.and_self, cmpI, ↓reduceIte, Bool.false_eq_true, reduceCtorEq, Int.reduceEq, Int.reduceLT, Int.reduceLE] at hq) <;> first | contradiction | subst hq | skip)
      | (with_reducible refine Nd.mk trivial ?_)
      | (with_reducible refine Nd.mk (by decide) ?_)
      | (with_reducible refine Nd.mk ?_ ?_)
      | (with_reducible refine Leaf.mk rfl ?_)
      | (with_reducible refine LeafS.fin rfl ?_)
      | (with_reducible refine Fin.mk ?_ rfl)
      | (with_reducible refine Fin.mk ?_ ?_)
      | ((with_reducible refine Nx.mk ?_ ?_ ?_ ?_) <;> first | rfl | skip)
      | (conv => whnf
         first
           | (with_reducible refine gn _ _ ?_; clear gn G)
           | (with_reducible refine gn _ _ _ _ ?_; clear gn G)
           | (with_reducible refine Wr.mk ?_)
           | (with_reducible refine hn _ _ ?_; clear hn he hr K')
           | (with_reducible refine he _ _ _ ?_; clear hn he hr K')
           | (with_reducible refine hr _ _ ?_; clear hn he hr K')
           | (with_reducible refine Nd.mk trivial ?_)
           | (with_reducible refine Nd.mk (by decide) ?_)
           | (with_reducible refine Nd.mk ?_ ?_)
           | (with_reducible refine Leaf.mk rfl ?_)
           | (with_reducible refine LeafS.fin rfl ?_)
           | (with_reducible refine Fin.mk ?_ rfl)
           | (with_reducible refine Fin.mk ?_ ?_)
           | ((with_reducible refine Nx.mk ?_ ?_ ?_ ?_) <;> first | rfl | skip)
           | (with_reducible show Bo _ _)
           | (with_reducible show Br _ _ _)
           | (with_reducible show Eqn _ _ _)))
    refine loop_of (fun i : Nat => [(0, .sl u8 xs .no), (3, .int .u64 (num (xs.take i))), (4, .int .i64 i)]) (fun i => []) (fun i => i ≤ xs.length) (fun i => xs.length - i) 0 rfl rfl (Nat.zero_le _) (fun _ _ => rfl) ?_
    intro i hi J hJ K' hn he hr
    have h1 := num_take_le hok.1.2 i hi
    have hx := ato_le hok.1.2 i
    repeat' (first
      | (with_reducible first | refine st_seq (fun K' hn he hr => ?_) | refine st_block (fun K' hn he hr => ?_) | refine st_region ?_ | refine st_draw ?_ | refine st_cond ?_ | refine st_skip ?_ | refine st_exit ?_ | refine st_ret ?_ | refine st_loop ?_ | refine st_op (fun G gn => ?_) | refine st_nil ?_ | refine st_gop ?_ | refine st_dop (fun G gn => ?_) | refine st_dnil ?_ | refine st_gdop ?_ | refine st_tl ?_)
      | (with_reducible refine gn _ _ ?_; clear gn G)
      | (with_reducible refine gn _ _ _ _ ?_; clear gn G)
      | (with_reducible refine Wr.mk ?_)
      | (with_reducible refine hn _ _ ?_; clear hn he hr K')
      | (with_reducible refine he _ _ _ ?_; clear hn he hr K')
      | (with_reducible refine hr _ _ ?_; clear hn he hr K')
      | ((with_reducible refine Eqn.mk (fun hq => ?_) ?_) <;> first | contradiction | skip)
      | (with_reducible refine Bo.yes (by decide) ?_)
      | (with_reducible refine Bo.no (by decide) ?_)
      | ((with_reducible refine Bo.gen (fun c hb => ?_)) <;> (try simp only [Nat.reduceAdd, toD, toDs, dInt, dBool, dStr, dList, dFs, dFld, List.getD_cons_zero, List.getD_cons_succ, Nat.zero_add, Int.reduceToNat] at hb) <;> (try simp only [cond_true, cond_false, toD, toDs, dInt, dBool, dStr, dList, dFs, dFld, List.getD_cons_zero, List.getD_cons_succ, Nat.zero_add, eqA, eqAs, decide_true, decide_false, beq_self_eq_true, Bool.not_true, Bool.not_false, Bool.and_true, Bool.true_and, Bool.and_self, cmpI, ↓reduceIte, Bool.false_eq_true, reduceCtorEq, Int.reduceEq, Int.reduceLT, Int.reduceLE] at hb) <;> first | (obtain rfl : c = true := hb) | (obtain rfl : c = false := hb) | skip)
      | ((with_reducible refine Br.cs (fun hq => ?_) (fun hq => ?_)) <;> (try simp only [cond_true, cond_false, toD, toDs, dInt, dBool, dStr, dList, dFs, dFld, List.getD_cons_zero, List.getD_cons_succ, Nat.zero_add, eqA, eqAs, decide_true, decide_false, beq_self_eq_true, Bool.not_true, Bool.not_false, Bool.and_true, Bool.true_and, Bool.and_self, cmpI, ↓reduceIte, Bool.false_eq_true, reduceCtorEq, Int.reduceEq, Int.reduceLT, Int.reduceLE] at hq) <;> first | contradiction | subst hq | skip)
      | (with_reducible refine Nd.mk trivial ?_)
      | (with_reducible refine Nd.mk (by decide) ?_)
      | (with_reducible refine Nd.mk ?_ ?_)
      | (with_reducible refine Leaf.mk rfl ?_)
      | (with_reducible refine LeafS.fin rfl ?_)
      | (with_reducible refine Fin.mk ?_ rfl)
      | (with_reducible refine Fin.mk ?_ ?_)
      | ((with_reducible refine Nx.mk ?_ ?_ ?_ ?_) <;> first | rfl | skip)
      | (conv => whnf
         first
           | (with_reducible refine gn _ _ ?_; clear gn G)
           | (with_reducible refine gn _ _ _ _ ?_; clear gn G)
           | (with_reducible refine Wr.mk ?_)
           | (with_reducible refine hn _ _ ?_; clear hn he hr K')
           | (with_reducible refine he _ _ _ ?_; clear hn he hr K')
           | (with_reducible refine hr _ _ ?_; clear hn he hr K')
           | (with_reducible refine Nd.mk trivial ?_)
           | (with_reducible refine Nd.mk (by decide) ?_)
           | (with_reducible refine Nd.mk ?_ ?_)
           | (with_reducible refine Leaf.mk rfl ?_)
           | (with_reducible refine LeafS.fin rfl ?_)
           | (with_reducible refine Fin.mk ?_ rfl)
           | (with_reducible refine Fin.mk ?_ ?_)
           | ((with_reducible refine Nx.mk ?_ ?_ ?_ ?_) <;> first | rfl | skip)
           | (with_reducible show Bo _ _)
           | (with_reducible show Br _ _ _)
           | (with_reducible show Eqn _ _ _)))
    all_goals simp only [ctd, cfd] at *
    · omega
    · refine J_of (hJ (i + 1) (by omega) (by omega)) ?_ rfl
      have p7 := pow7 (i := i) (by omega)
      have e2 : (xs.getD i (.i 0)).int = ato xs i := rfl
      have e3 : IntKind.u64.wrap (IntKind.u64.wrap (num (xs.take i) * 256) + IntKind.u64.wrap (ato xs i)) = num (xs.take (i + 1)) := by
        rw [num_take xs i (by omega), w64, w64, w64]; omega
      rw [← e3, wi64_in (by omega) (by omega)]
      rfl
    · have : i = xs.length := by omega
      subst this
      simp
  · trivial
theorem pok_bpdu_at : POK prog orc f_bpdu_at := by
  refine pok_of ok_bpdu_at mixed (by simp [ac_bpdu_at, acP, callsP]) (by simp [ac_bpdu_at, acS, callsS]) fun args hok => ?_
  show Fits orc nt_bpdu_at rs_bpdu_at ac_bpdu_at args (pAt args)
  unfold ac_bpdu_at
  unfold pAt
  split
  · rename_i xs a k
    intro hc
    obtain ⟨ha, hk, hk8, hl⟩ := hc
    obtain ⟨a, rfl⟩ := Int.eq_ofNat_of_zero_le ha
    obtain ⟨k, rfl⟩ := Int.eq_ofNat_of_zero_le hk
    simp only [okAs, okA, maxLen] at hok
    have hs := okB_take hok.1.2 a k
    have hsl : ((xs.drop a).take k).length = k := by simp; omega
    have e0 : IntKind.i64.wrap ((a : Int) + k) = (a + k : Nat) := wi64_in (by omega) (by omega)
    have e1 : (((a + k : Nat) : Int).toNat - ((a : Nat) : Int).toNat) = k := by omega
    obtain ⟨ys, hy⟩ : ∃ ys, ys = (xs.drop a).take k := ⟨_, rfl⟩
    have e2 : List.take (a + k - a) (List.drop a xs) = ys := by rw [hy, show a + k - a = k by omega]
    rw [← hy] at hs hsl
    have e4 : num ((xs.drop ((a : Nat) : Int).toNat).take ((k : Nat) : Int).toNat) = num ys := by rw [hy]; rfl
    refine ⟨rfl, ?_⟩
    rw [e4]
    repeat' (first
      | (with_reducible first | refine st_seq (fun K' hn he hr => ?_) | refine st_block (fun K' hn he hr => ?_) | refine st_region ?_ | refine st_draw ?_ | refine st_cond ?_ | refine st_skip ?_ | refine st_exit ?_ | refine st_ret ?_ | refine st_loop ?_ | refine st_op (fun G gn => ?_) | refine st_nil ?_ | refine st_gop ?_ | refine st_dop (fun G gn => ?_) | refine st_dnil ?_ | refine st_gdop ?_ | refine st_tl ?_)
      | (with_reducible refine gn _ _ ?_; clear gn G)
      | (with_reducible refine gn _ _ _ _ ?_; clear gn G)
      | (with_reducible refine Wr.mk ?_)
      | (with_reducible refine hn _ _ ?_; clear hn he hr K')
      | (with_reducible refine he _ _ _ ?_; clear hn he hr K')
      | (with_reducible refine hr _ _ ?_; clear hn he hr K')
      | ((with_reducible refine Eqn.mk (fun hq => ?_) ?_) <;> first | contradiction | skip)
      | (with_reducible refine Bo.yes (by decide) ?_)
      | (with_reducible refine Bo.no (by decide) ?_)
      | ((with_reducible refine Bo.gen (fun c hb => ?_)) <;> (try simp only [Nat.reduceAdd, toD, toDs, dInt, dBool, dStr, dList, dFs, dFld, List.getD_cons_zero, List.getD_cons_succ, Nat.zero_add, Int.reduceToNat] at hb) <;> (try simp only [cond_true, cond_false, toD, toDs, dInt, dBool, dStr, dList, dFs, dFld, List.getD_cons_zero, List.getD_cons_succ, Nat.zero_add, eqA, eqAs, decide_true, decide_false, beq_self_eq_true, Bool.not_true, Bool.not_false, Bool.and_true, Bool.true_and, Bool.and_self, cmpI, ↓reduceIte, Bool.false_eq_true, reduceCtorEq, Int.reduceEq, Int.reduceLT, Int.reduceLE, e0, e1] at hb) <;> first | (obtain rfl : c = true := hb) | (obtain rfl : c = false := hb) | skip)
      | ((with_reducible refine Br.cs (fun hq => ?_) (fun hq => ?_)) <;> (try simp only [cond_true, cond_false, toD, toDs, dInt, dBool, dStr, dList, dFs, dFld, List.getD_cons_zero, List.getD_cons_succ, Nat.zero_add, eqA, eqAs, decide_true, decide_false, beq_self_eq_true, Bool.not_true, Bool.not_false, Bool.and_true, Bool.true_and, Bool.and_self, cmpI, ↓reduceIte, Bool.false_eq_true, reduceCtorEq, Int.reduceEq, Int.reduceLT, Int.reduceLE, e0, e1] at hq) <;> first | contradiction | subst hq | skip)
      | (with_reducible refine Nd.mk trivial ?_)
      | (with_reducible refine Nd.mk (by decide) ?_)
      | (with_reducible refine Nd.mk ?_ ?_)
      | (with_reducible refine Leaf.mk rfl ?_)
      | (with_reducible refine LeafS.fin rfl ?_)
      | (with_reducible refine Fin.mk ?_ rfl)
      | (with_reducible refine Fin.mk ?_ ?_)
      | ((with_reducible refine Nx.mk ?_ ?_ ?_ ?_) <;> first | rfl | skip)
      | (conv => whnf
         first
           | (with_reducible refine gn _ _ ?_; clear gn G)
           | (with_reducible refine gn _ _ _ _ ?_; clear gn G)
           | (with_reducible refine Wr.mk ?_)
           | (with_reducible refine hn _ _ ?_; clear hn he hr K')
           | (with_reducible refine he _ _ _ ?_; clear hn he hr K')
           | (with_reducible refine hr _ _ ?_; clear hn he hr K')
           | (with_reducible refine Nd.mk trivial ?_)
           | (with_reducible refine Nd.mk (by decide) ?_)
           | (with_reducible refine Nd.mk ?_ ?_)
           | (with_reducible refine Leaf.mk rfl ?_)
           | (with_reducible refine LeafS.fin rfl ?_)
           | (with_reducible refine Fin.mk ?_ rfl)
           | (with_reducible refine Fin.mk ?_ ?_)
           | ((with_reducible refine Nx.mk ?_ ?_ ?_ ?_) <;> first | rfl | skip)
           | (with_reducible show Bo _ _)
           | (with_reducible show Br _ _ _)
           | (with_reducible show Eqn _ _ _)))
    · unfold cutOK; omega
    refine loop_of (fun i : Nat => [(7, .int .u64 (num (ys.take i))), (15, .sl u8 ys .no), (16, .int .i64 k), (17, .int .i64 i)]) (fun i => []) (fun i => i ≤ k) (fun i => k - i) 0 ?_ rfl (Nat.zero_le _) (fun _ _ => rfl) ?_
    · rw [e0]
      simp only [Int.toNat_natCast, e2, hsl]
      rfl
    intro i hi J hJ K' hn he hr
    have h1 := num_take_le hs i (by omega)
    have hx := ato_le hs i
    repeat' (first
      | (with_reducible first | refine st_seq (fun K' hn he hr => ?_) | refine st_block (fun K' hn he hr => ?_) | refine st_region ?_ | refine st_draw ?_ | refine st_cond ?_ | refine st_skip ?_ | refine st_exit ?_ | refine st_ret ?_ | refine st_loop ?_ | refine st_op (fun G gn => ?_) | refine st_nil ?_ | refine st_gop ?_ | refine st_dop (fun G gn => ?_) | refine st_dnil ?_ | refine st_gdop ?_ | refine st_tl ?_)
      | (with_reducible refine gn _ _ ?_; clear gn G)
      | (with_reducible refine gn _ _ _ _ ?_; clear gn G)
      | (with_reducible refine Wr.mk ?_)
      | (with_reducible refine hn _ _ ?_; clear hn he hr K')
      | (with_reducible refine he _ _ _ ?_; clear hn he hr K')
      | (with_reducible refine hr _ _ ?_; clear hn he hr K')
      | ((with_reducible refine Eqn.mk (fun hq => ?_) ?_) <;> first | contradiction | skip)
      | (with_reducible refine Bo.yes (by decide) ?_)
      | (with_reducible refine Bo.no (by decide) ?_)
      | ((with_reducible refine Bo.gen (fun c hb => ?_)) <;> (try simp only [Nat.reduceAdd, toD, toDs, dInt, dBool, dStr, dList, dFs, dFld, List.getD_cons_zero, List.getD_cons_succ, Nat.zero_add, Int.reduceToNat] at hb) <;> (try simp only [cond_true, cond_false, toD, toDs, dInt, dBool, dStr, dList, dFs, dFld, List.getD_cons_zero, List.getD_cons_succ, Nat.zero_add, eqA, eqAs, decide_true, decide_false, beq_self_eq_true, Bool.not_true, Bool.not_false, Bool.and_true, Bool.true_and, Bool.and_self, cmpI, ↓reduceIte, Bool.false_eq_true, reduceCtorEq, Int.reduceEq, Int.reduceLT, Int.reduceLE] at hb) <;> first | (obtain rfl : c = true := hb) | (obtain rfl : c = false := hb) | skip)
      | ((with_reducible refine Br.cs (fun hq => ?_) (fun hq => ?_)) <;> (try simp only [cond_true, cond_false, toD, toDs, dInt, dBool, dStr, dList, dFs, dFld, List.getD_cons_zero, List.getD_cons_succ, Nat.zero_add, eqA, eqAs, decide_true, decide_false, beq_self_eq_true, Bool.not_true, Bool.not_false, Bool.and_true, Bool.true_and, Bool.and_self, cmpI, ↓reduceIte, Bool.false_eq_true, reduceCtorEq, Int.reduceEq, Int.reduceLT, Int.reduceLE] at hq) <;> first | contradiction | subst hq | skip)
      | (with_reducible refine Nd.mk trivial ?_)
      | (with_reducible refine Nd.mk (by decide) ?_)
      | (with_reducible refine Nd.mk ?_ ?_)
      | (with_reducible refine Leaf.mk rfl ?_)
      | (with_reducible refine LeafS.fin rfl ?_)
      | (with_reducible refine Fin.mk ?_ rfl)
      | (with_reducible refine Fin.mk ?_ ?_)
      | ((with_reducible refine Nx.mk ?_ ?_ ?_ ?_) <;> first | rfl | skip)
      | (conv => whnf
         first
           | (with_reducible refine gn _ _ ?_; clear gn G)
           | (with_reducible refine gn _ _ _ _ ?_; clear gn G)
           | (with_reducible refine Wr.mk ?_)
           | (with_reducible refine hn _ _ ?_; clear hn he hr K')
           | (with_reducible refine he _ _ _ ?_; clear hn he hr K')
           | (with_reducible refine hr _ _ ?_; clear hn he hr K')
           | (with_reducible refine Nd.mk trivial ?_)
           | (with_reducible refine Nd.mk (by decide) ?_)
           | (with_reducible refine Nd.mk ?_ ?_)
           | (with_reducible refine Leaf.mk rfl ?_)
           | (with_reducible refine LeafS.fin rfl ?_)
           | (with_reducible refine Fin.mk ?_ rfl)
           | (with_reducible refine Fin.mk ?_ ?_)
           | ((with_reducible refine Nx.mk ?_ ?_ ?_ ?_) <;> first | rfl | skip)
           | (with_reducible show Bo _ _)
           | (with_reducible show Br _ _ _)
           | (with_reducible show Eqn _ _ _)))
    all_goals simp only [ctd, cfd] at *
    · omega
    · refine J_of (hJ (i + 1) (by omega) (by omega)) ?_ rfl
      have p7 := pow7 (i := i) (by omega)
      have f1 : IntKind.u64.wrap (num (ys.take i) * 2 ^ 8) = num (ys.take i) * 256 := by simp only [w64]; omega
      have f2 : IntKind.u64.wrap (ys.getD i (.i 0)).int = ato ys i := by simp only [w64]; unfold ato at hx ⊢; omega
      have f3 := bit_or (k := .u64) rfl 8 (x := num (ys.take i) * 256) (b := ato ys i) (num (ys.take i)) h1.1 rfl hx.1 (by omega) (by simp [IntKind.bits]; omega)
      have f4 : bitI .or .u64 (IntKind.u64.wrap (num (ys.take i) * 2 ^ 8)) (IntKind.u64.wrap (ys.getD i (.i 0)).int) = num (ys.take (i + 1)) := by
        rw [f1, f2, f3, num_take ys i (by omega)]
      rw [← f4, wi64_in (by omega) (by omega)]
      try rfl
    · have : i = k := by omega
      subst this
      rw [List.take_of_length_le (by omega)]
  · trivial
theorem mask_bits : ∀ f : Nat, f < 256 → (bitI .and .u8 (f : Int) 1 = 0 ↔ ¬ (f : Int) / 1 % 2 = 1) ∧ (bitI .and .u8 (f : Int) 2 = 0 ↔ ¬ (f : Int) / 2 % 2 = 1) ∧ (bitI .and .u8 (f : Int) 16 = 0 ↔ ¬ (f : Int) / 16 % 2 = 1)
    ∧ (bitI .and .u8 (f : Int) 32 = 0 ↔ ¬ (f : Int) / 32 % 2 = 1) ∧ (bitI .and .u8 (f : Int) 64 = 0 ↔ ¬ (f : Int) / 64 % 2 = 1) ∧ (bitI .and .u8 (f : Int) 128 = 0 ↔ ¬ (f : Int) / 128 % 2 = 1) := by decide +kernel
theorem mask_of {f : Int} (h : 0 ≤ f ∧ f ≤ 255) : (!decide (bitI .and .u8 f 1 = 0)) = bitN f 1 ∧ (!decide (bitI .and .u8 f 2 = 0)) = bitN f 2 ∧ (!decide (bitI .and .u8 f 16 = 0)) = bitN f 16
    ∧ (!decide (bitI .and .u8 f 32 = 0)) = bitN f 32 ∧ (!decide (bitI .and .u8 f 64 = 0)) = bitN f 64 ∧ (!decide (bitI .and .u8 f 128 = 0)) = bitN f 128 := by
  obtain ⟨k, rfl⟩ := Int.eq_ofNat_of_zero_le h.1
  obtain ⟨h1, h2, h3, h4, h5, h6⟩ := mask_bits k (by omega)
  simp only [bitN, decide_eq_decide.2 h1, decide_eq_decide.2 h2, decide_eq_decide.2 h3, decide_eq_decide.2 h4, decide_eq_decide.2 h5, decide_eq_decide.2 h6, decide_not, Bool.not_not, and_self]
set_option maxHeartbeats 4000000 in
theorem pok_bpdu_fields : POK prog orc f_bpdu_fields := by
  refine pok_of ok_bpdu_fields mixed (by simp [ac_bpdu_fields, acP, callsP, pok_bpdu_at, pok_bpdu_role]) (by simp [ac_bpdu_fields, acS, callsS]) fun args hok => ?_
  show Fits orc nt_bpdu_fields rs_bpdu_fields ac_bpdu_fields args (pFields args)
  unfold ac_bpdu_fields
  unfold pFields
  split
  · rename_i k tc ack pr le fo ag ro R C B P ta tm th td xs
    simp only [okAs, okA, maxLen] at hok
    have hx := hok.2.1.2
    have h4 := ato_le hx 4
    obtain ⟨m1, m2, m3, m4, m5, m6⟩ := mask_of h4
    have e4 : (xs.getD 4 (.i 0)).int = ato xs 4 := rfl
    have sh : (ato xs 4).fdiv (2 ^ (Int.toNat 2).min IntKind.u8.bits) = ato xs 4 / 4 := fdiv_pow _ 2
    by_cases hk : k = 3
    · subst hk
      refine ⟨fun ht hc => ⟨rfl, ?_⟩, fun ht => absurd ht (by simp [isK])⟩
      repeat' (first
        | (with_reducible first | refine st_seq (fun K' hn he hr => ?_) | refine st_block (fun K' hn he hr => ?_) | refine st_region ?_ | refine st_draw ?_ | refine st_cond ?_ | refine st_skip ?_ | refine st_exit ?_ | refine st_ret ?_ | refine st_loop ?_ | refine st_op (fun G gn => ?_) | refine st_nil ?_ | refine st_gop ?_ | refine st_dop (fun G gn => ?_) | refine st_dnil ?_ | refine st_gdop ?_ | refine st_tl ?_)
        | (with_reducible refine gn _ _ ?_; clear gn G)
        | (with_reducible refine gn _ _ _ _ ?_; clear gn G)
        | (with_reducible refine Wr.mk ?_)
        | (with_reducible refine hn _ _ ?_; clear hn he hr K')
        | (with_reducible refine he _ _ _ ?_; clear hn he hr K')
        | (with_reducible refine hr _ _ ?_; clear hn he hr K')
        | ((with_reducible refine Eqn.mk (fun hq => ?_) ?_) <;> first | contradiction | skip)
        | (with_reducible refine Bo.yes (by decide) ?_)
        | (with_reducible refine Bo.no (by decide) ?_)
        | ((with_reducible refine Bo.gen (fun c hb => ?_)) <;> (try simp only [Nat.reduceAdd, toD, toDs, dInt, dBool, dStr, dList, dFs, dFld, List.getD_cons_zero, List.getD_cons_succ, Nat.zero_add, Int.reduceToNat] at hb) <;> (try simp only [cond_true, cond_false, toD, toDs, dInt, dBool, dStr, dList, dFs, dFld, List.getD_cons_zero, List.getD_cons_succ, Nat.zero_add, eqA, eqAs, decide_true, decide_false, beq_self_eq_true, Bool.not_true, Bool.not_false, Bool.and_true, Bool.true_and, Bool.and_self, cmpI, ↓reduceIte, Bool.false_eq_true, reduceCtorEq, Int.reduceEq, Int.reduceLT, Int.reduceLE] at hb) <;> first | (obtain rfl : c = true := hb) | (obtain rfl : c = false := hb) | skip)
        | ((with_reducible refine Br.cs (fun hq => ?_) (fun hq => ?_)) <;> (try simp only [cond_true, cond_false, toD, toDs, dInt, dBool, dStr, dList, dFs, dFld, List.getD_cons_zero, List.getD_cons_succ, Nat.zero_add, eqA, eqAs, decide_true, decide_false, beq_self_eq_true, Bool.not_true, Bool.not_false, Bool.and_true, Bool.true_and, Bool.and_self, cmpI, ↓reduceIte, Bool.false_eq_true, reduceCtorEq, Int.reduceEq, Int.reduceLT, Int.reduceLE] at hq) <;> first | contradiction | subst hq | skip)
        | (with_reducible refine Nd.mk trivial ?_)
        | (with_reducible refine Nd.mk (by decide) ?_)
        | (with_reducible refine Nd.mk ?_ ?_)
        | (with_reducible refine Leaf.mk rfl ?_)
        | (with_reducible refine LeafS.fin rfl ?_)
        | (with_reducible refine Fin.mk ?_ rfl)
        | (with_reducible refine Fin.mk ?_ ?_)
        | ((with_reducible refine Nx.mk ?_ ?_ ?_ ?_) <;> first | rfl | skip)
        | (conv => whnf
           first
             | (with_reducible refine gn _ _ ?_; clear gn G)
             | (with_reducible refine gn _ _ _ _ ?_; clear gn G)
             | (with_reducible refine Wr.mk ?_)
             | (with_reducible refine hn _ _ ?_; clear hn he hr K')
             | (with_reducible refine he _ _ _ ?_; clear hn he hr K')
             | (with_reducible refine hr _ _ ?_; clear hn he hr K')
             | (with_reducible refine Nd.mk trivial ?_)
             | (with_reducible refine Nd.mk (by decide) ?_)
             | (with_reducible refine Nd.mk ?_ ?_)
             | (with_reducible refine Leaf.mk rfl ?_)
             | (with_reducible refine LeafS.fin rfl ?_)
             | (with_reducible refine Fin.mk ?_ rfl)
             | (with_reducible refine Fin.mk ?_ ?_)
             | ((with_reducible refine Nx.mk ?_ ?_ ?_ ?_) <;> first | rfl | skip)
             | (with_reducible show Bo _ _)
             | (with_reducible show Br _ _ _)
             | (with_reducible show Eqn _ _ _)))
      all_goals first | omega | skip
      have w1 : IntKind.u32.wrap (num ((xs.drop 13).take 4)) = num ((xs.drop 13).take 4) := by
        have := num_take_le (okB_take hx 13 4) 4 (by simp; omega)
        rw [List.take_of_length_le (by simp; omega)] at this
        rw [w32]; omega
      have w2 : IntKind.u16.wrap (num ((xs.drop 25).take 2)) = num ((xs.drop 25).take 2) := by
        have := num_take_le (okB_take hx 25 2) 2 (by simp; omega)
        rw [List.take_of_length_le (by simp; omega)] at this
        rw [w16]; omega
      subst_vars
      show AV.st [.int .i64 3, .bool (!decide (bitI .and .u8 (ato xs 4) 1 = 0)), .bool (!decide (bitI .and .u8 (ato xs 4) 128 = 0)), .bool (!decide (bitI .and .u8 (ato xs 4) 2 = 0)), .bool (!decide (bitI .and .u8 (ato xs 4) 16 = 0)), .bool (!decide (bitI .and .u8 (ato xs 4) 32 = 0)), .bool (!decide (bitI .and .u8 (ato xs 4) 64 = 0)), .int .i64 (roleOf ((ato xs 4).fdiv (2 ^ (Int.toNat 2).min IntKind.u8.bits) % 4)), .st [.int .u64 (num ((xs.drop 5).take 8)), .int .u32 (IntKind.u32.wrap (num ((xs.drop 13).take 4))), .int .u64 (num ((xs.drop 17).take 8)), .int .u16 (IntKind.u16.wrap (num ((xs.drop 25).take 2)))], .st [.int .u8 (ato xs 27), .int .u8 (ato xs 29), .int .u8 (ato xs 31), .int .u8 (ato xs 33)]] = _
      rw [m1, m2, m3, m4, m5, m6, sh, w1, w2]
      rfl
    · refine ⟨fun ht => absurd ht (by simp [isK, hk]), fun ht hc => ⟨rfl, ?_⟩⟩
      obtain ⟨hl, rfl, rfl, rfl, rfl, rfl, rfl⟩ := hc
      repeat' (first
        | (with_reducible first | refine st_seq (fun K' hn he hr => ?_) | refine st_block (fun K' hn he hr => ?_) | refine st_region ?_ | refine st_draw ?_ | refine st_cond ?_ | refine st_skip ?_ | refine st_exit ?_ | refine st_ret ?_ | refine st_loop ?_ | refine st_op (fun G gn => ?_) | refine st_nil ?_ | refine st_gop ?_ | refine st_dop (fun G gn => ?_) | refine st_dnil ?_ | refine st_gdop ?_ | refine st_tl ?_)
        | (with_reducible refine gn _ _ ?_; clear gn G)
        | (with_reducible refine gn _ _ _ _ ?_; clear gn G)
        | (with_reducible refine Wr.mk ?_)
        | (with_reducible refine hn _ _ ?_; clear hn he hr K')
        | (with_reducible refine he _ _ _ ?_; clear hn he hr K')
        | (with_reducible refine hr _ _ ?_; clear hn he hr K')
        | ((with_reducible refine Eqn.mk (fun hq => ?_) ?_) <;> first | contradiction | skip)
        | (with_reducible refine Bo.yes (by decide) ?_)
        | (with_reducible refine Bo.no (by decide) ?_)
        | ((with_reducible refine Bo.gen (fun c hb => ?_)) <;> (try simp only [Nat.reduceAdd, toD, toDs, dInt, dBool, dStr, dList, dFs, dFld, List.getD_cons_zero, List.getD_cons_succ, Nat.zero_add, Int.reduceToNat] at hb) <;> (try simp only [cond_true, cond_false, toD, toDs, dInt, dBool, dStr, dList, dFs, dFld, List.getD_cons_zero, List.getD_cons_succ, Nat.zero_add, eqA, eqAs, decide_true, decide_false, beq_self_eq_true, Bool.not_true, Bool.not_false, Bool.and_true, Bool.true_and, Bool.and_self, cmpI, ↓reduceIte, Bool.false_eq_true, reduceCtorEq, Int.reduceEq, Int.reduceLT, Int.reduceLE] at hb) <;> first | (obtain rfl : c = true := hb) | (obtain rfl : c = false := hb) | skip)
        | ((with_reducible refine Br.cs (fun hq => ?_) (fun hq => ?_)) <;> (try simp only [cond_true, cond_false, toD, toDs, dInt, dBool, dStr, dList, dFs, dFld, List.getD_cons_zero, List.getD_cons_succ, Nat.zero_add, eqA, eqAs, decide_true, decide_false, beq_self_eq_true, Bool.not_true, Bool.not_false, Bool.and_true, Bool.true_and, Bool.and_self, cmpI, ↓reduceIte, Bool.false_eq_true, reduceCtorEq, Int.reduceEq, Int.reduceLT, Int.reduceLE] at hq) <;> first | contradiction | subst hq | skip)
        | (with_reducible refine Nd.mk trivial ?_)
        | (with_reducible refine Nd.mk (by decide) ?_)
        | (with_reducible refine Nd.mk ?_ ?_)
        | (with_reducible refine Leaf.mk rfl ?_)
        | (with_reducible refine LeafS.fin rfl ?_)
        | (with_reducible refine Fin.mk ?_ rfl)
        | (with_reducible refine Fin.mk ?_ ?_)
        | ((with_reducible refine Nx.mk ?_ ?_ ?_ ?_) <;> first | rfl | skip)
        | (conv => whnf
           first
             | (with_reducible refine gn _ _ ?_; clear gn G)
             | (with_reducible refine gn _ _ _ _ ?_; clear gn G)
             | (with_reducible refine Wr.mk ?_)
             | (with_reducible refine hn _ _ ?_; clear hn he hr K')
             | (with_reducible refine he _ _ _ ?_; clear hn he hr K')
             | (with_reducible refine hr _ _ ?_; clear hn he hr K')
             | (with_reducible refine Nd.mk trivial ?_)
             | (with_reducible refine Nd.mk (by decide) ?_)
             | (with_reducible refine Nd.mk ?_ ?_)
             | (with_reducible refine Leaf.mk rfl ?_)
             | (with_reducible refine LeafS.fin rfl ?_)
             | (with_reducible refine Fin.mk ?_ rfl)
             | (with_reducible refine Fin.mk ?_ ?_)
             | ((with_reducible refine Nx.mk ?_ ?_ ?_ ?_) <;> first | rfl | skip)
             | (with_reducible show Bo _ _)
             | (with_reducible show Br _ _ _)
             | (with_reducible show Eqn _ _ _)))
      all_goals first | omega | skip
      have w1 : IntKind.u32.wrap (num ((xs.drop 13).take 4)) = num ((xs.drop 13).take 4) := by
        have := num_take_le (okB_take hx 13 4) 4 (by simp; omega)
        rw [List.take_of_length_le (by simp; omega)] at this
        rw [w32]; omega
      have w2 : IntKind.u16.wrap (num ((xs.drop 25).take 2)) = num ((xs.drop 25).take 2) := by
        have := num_take_le (okB_take hx 25 2) 2 (by simp; omega)
        rw [List.take_of_length_le (by simp; omega)] at this
        rw [w16]; omega
      subst_vars
      show AV.st [.int .i64 1, .bool (!decide (bitI .and .u8 (ato xs 4) 1 = 0)), .bool (!decide (bitI .and .u8 (ato xs 4) 128 = 0)), .bool false, .bool false, .bool false, .bool false, .int .i64 0, .st [.int .u64 (num ((xs.drop 5).take 8)), .int .u32 (IntKind.u32.wrap (num ((xs.drop 13).take 4))), .int .u64 (num ((xs.drop 17).take 8)), .int .u16 (IntKind.u16.wrap (num ((xs.drop 25).take 2)))], .st [.int .u8 (ato xs 27), .int .u8 (ato xs 29), .int .u8 (ato xs 31), .int .u8 (ato xs 33)]] = _
      rw [m1, m6, w1, w2]
      rfl
  · trivial
end Go.Vc.Seat
