/- A part of the proof of the seat's laws: PfBp6. It states no claim by itself. -/
import Derived.Test.YtcgmmigjeghmnaaPfBp5
set_option linter.unusedVariables false
set_option linter.unusedSimpArgs false
namespace Go.Vc.Seat
open Go.Vc Go.Proofs.Try
theorem flagsR1 : ∀ tc ack : Bool, IntKind.u8.wrap (IntKind.i64.wrap (bi tc 1 + bi ack 128)) = bi tc 1 + bi ack 128 := by decide +kernel
theorem flagsR3' : ∀ tc pr le fo ag : Bool, ∀ r : _root_.Fin 4, IntKind.u8.wrap (IntKind.i64.wrap (IntKind.i64.wrap (IntKind.i64.wrap (IntKind.i64.wrap (IntKind.i64.wrap (bi tc 1 + bi pr 2) + IntKind.i64.wrap (4 * ((r.val : Nat) : Int))) + bi le 16) + bi fo 32) + bi ag 64)) = bi tc 1 + bi pr 2 + 4 * ((r.val : Nat) : Int) + bi le 16 + bi fo 32 + bi ag 64 := by decide +kernel
theorem flagsR3 (tc pr le fo ag : Bool) {ro : Int} (h : ro = 0 ∨ ro = 1 ∨ ro = 3 ∨ ro = 4) : IntKind.u8.wrap (IntKind.i64.wrap (IntKind.i64.wrap (IntKind.i64.wrap (IntKind.i64.wrap (IntKind.i64.wrap (bi tc 1 + bi pr 2) + IntKind.i64.wrap (4 * rRole ro)) + bi le 16) + bi fo 32) + bi ag 64)) = bi tc 1 + bi pr 2 + 4 * rRole ro + bi le 16 + bi fo 32 + bi ag 64 := by
  obtain ⟨i, _, h2⟩ := roleShift h
  rw [h2]
  exact flagsR3' tc pr le fo ag i
set_option maxRecDepth 20000 in
set_option maxHeartbeats 8000000 in
theorem pok_r05_Bytes : POK prog orc f_r05_Bytes := by
  refine pok_of ok_r05_Bytes mixed (by simp [ac_r05_Bytes, acP, callsP, pok_r05_fine, pok_r05_flag, pok_r05_role, pok_r05_put]) (by simp [ac_r05_Bytes, acS, callsS]) fun args hok => ?_
  show Fits orc nt_r05_Bytes rs_r05_Bytes ac_r05_Bytes args (pBBytes args)
  unfold ac_r05_Bytes
  unfold pBBytes
  split
  · rename_i k tc ack pr le fo ag ro R C B P ta tm th td
    simp only [okAs, okA, maxLen] at hok
    have hC := has_u32 hok.1.2.2.2.2.2.2.2.2.1.2.1
    have hP := has_u16 hok.1.2.2.2.2.2.2.2.2.1.2.2.2.1
    have wC : IntKind.u64.wrap C = C := by rw [w64]; omega
    have wP : IntKind.u64.wrap P = P := by rw [w64]; omega
    clear hok
    obtain ⟨X, hX, e0, e1, e2, e3, e4, e5, e6, e7, e8, e9, e10, e11, e12, e13, e14, e15⟩ := bpX k tc ack pr le fo ag ro R C B P ta tm th td
    refine ⟨fun hf => ⟨rfl, ?_⟩, fun hf => ⟨rfl, ?_⟩⟩
    · have hf' : fineB ⟨k, tc, ack, pr, le, fo, ag, ro, R, C, B, P, ta, tm, th, td⟩ = true := hf
      have hk := fine_k hf'
      simp only at hk
      rcases hk with h | h | h
      · subst h
        have hfx : fineB ⟨2, (X.fld 1).bool, (X.fld 2).bool, (X.fld 3).bool, (X.fld 4).bool, (X.fld 5).bool, (X.fld 6).bool, (X.fld 7).int, ((X.fld 8).fld 0).int, ((X.fld 8).fld 1).int, ((X.fld 8).fld 2).int, ((X.fld 8).fld 3).int, ((X.fld 9).fld 0).int, ((X.fld 9).fld 1).int, ((X.fld 9).fld 2).int, ((X.fld 9).fld 3).int⟩ = true := by rw [e1, e2, e3, e4, e5, e6, e7, e8, e9, e10, e11, e12, e13, e14, e15]; exact hf'
        refine st_seq (fun K1 hn1 he1 hr1 => ?_)
        repeat' (first
          | (with_reducible first | refine st_seq (fun K' hn he hr => ?_) | refine st_block (fun K' hn he hr => ?_) | refine st_region ?_ | refine st_draw ?_ | refine st_cond ?_ | refine st_skip ?_ | refine st_exit ?_ | refine st_ret ?_ | refine st_loop ?_ | refine st_op (fun G gn => ?_) | refine st_nil ?_ | refine st_gop ?_ | refine st_dop (fun G gn => ?_) | refine st_dnil ?_ | refine st_gdop ?_ | refine st_tl ?_)
          | (with_reducible refine gn _ _ ?_; clear gn G)
          | (with_reducible refine gn _ _ _ _ ?_; clear gn G)
          | (with_reducible refine Wr.mk ?_)
          | (with_reducible refine hn _ _ ?_; clear hn he hr K')
          | (with_reducible refine he _ _ _ ?_; clear hn he hr K')
          | (with_reducible refine hr _ _ ?_; clear hn he hr K')
          | ((with_reducible refine Eqn.mk (fun hq => ?_) ?_) <;> first | contradiction | skip)
          | (with_reducible refine Bo.yes (by decide) ?_)
          | (with_reducible refine Bo.no (by decide) ?_)
          | ((with_reducible refine Bo.gen (fun c hb => ?_)) <;> (try simp only [Nat.reduceAdd, toD, toDs, dInt, dBool, dStr, dList, dFs, dFld, List.getD_cons_zero, List.getD_cons_succ, Nat.zero_add, Int.reduceToNat] at hb) <;> (try simp only [cond_true, cond_false, toD, toDs, dInt, dBool, dStr, dList, dFs, dFld, List.getD_cons_zero, List.getD_cons_succ, Nat.zero_add, eqA, eqAs, decide_true, decide_false, beq_self_eq_true, Bool.not_true, Bool.not_false, Bool.and_true, Bool.true_and, Bool.and_self, cmpI, ↓reduceIte, Bool.false_eq_true, reduceCtorEq, Int.reduceEq, Int.reduceLT, Int.reduceLE] at hb) <;> first | (obtain rfl : c = true := hb) | (obtain rfl : c = false := hb) | skip)
          | ((with_reducible refine Br.cs (fun hq => ?_) (fun hq => ?_)) <;> (try simp only [cond_true, cond_false, toD, toDs, dInt, dBool, dStr, dList, dFs, dFld, List.getD_cons_zero, List.getD_cons_succ, Nat.zero_add, eqA, eqAs, decide_true, decide_false, beq_self_eq_true, Bool.not_true, Bool.not_false, Bool.and_true, Bool.true_and, Bool.and_self, cmpI, ↓reduceIte, Bool.false_eq_true, reduceCtorEq, Int.reduceEq, Int.reduceLT, Int.reduceLE] at hq) <;> first | contradiction | subst hq | skip)
          | (with_reducible refine Nd.mk trivial ?_)
          | (with_reducible refine Nd.mk (by decide) ?_)
          | (with_reducible refine Nd.mk ?_ ?_)
          | (with_reducible refine Leaf.mk rfl ?_)
          | (with_reducible refine LeafS.fin rfl ?_)
          | (with_reducible refine Fin.mk ?_ rfl)
          | (with_reducible refine Fin.mk ?_ ?_)
          | ((with_reducible refine Nx.mk ?_ ?_ ?_ ?_) <;> first | rfl | skip)
          | (conv => whnf
             first
               | (with_reducible refine gn _ _ ?_; clear gn G)
               | (with_reducible refine gn _ _ _ _ ?_; clear gn G)
               | (with_reducible refine Wr.mk ?_)
               | (with_reducible refine hn _ _ ?_; clear hn he hr K')
               | (with_reducible refine he _ _ _ ?_; clear hn he hr K')
               | (with_reducible refine hr _ _ ?_; clear hn he hr K')
               | (with_reducible refine Nd.mk trivial ?_)
               | (with_reducible refine Nd.mk (by decide) ?_)
               | (with_reducible refine Nd.mk ?_ ?_)
               | (with_reducible refine Leaf.mk rfl ?_)
               | (with_reducible refine LeafS.fin rfl ?_)
               | (with_reducible refine Fin.mk ?_ rfl)
               | (with_reducible refine Fin.mk ?_ ?_)
               | ((with_reducible refine Nx.mk ?_ ?_ ?_ ?_) <;> first | rfl | skip)
               | (with_reducible show Bo _ _)
               | (with_reducible show Br _ _ _)
               | (with_reducible show Eqn _ _ _)))
        refine hn1 _ _ ?_
        clear hn1 he1 hr1 K1
        rw [show toD _ = X from hX]
        repeat' (first
          | (with_reducible first | refine st_seq (fun K' hn he hr => ?_) | refine st_block (fun K' hn he hr => ?_) | refine st_region ?_ | refine st_draw ?_ | refine st_cond ?_ | refine st_skip ?_ | refine st_exit ?_ | refine st_ret ?_ | refine st_loop ?_ | refine st_op (fun G gn => ?_) | refine st_nil ?_ | refine st_gop ?_ | refine st_dop (fun G gn => ?_) | refine st_dnil ?_ | refine st_gdop ?_ | refine st_tl ?_)
          | (with_reducible refine gn _ _ ?_; clear gn G)
          | (with_reducible refine gn _ _ _ _ ?_; clear gn G)
          | (with_reducible refine Wr.mk ?_)
          | (with_reducible refine hn _ _ ?_; clear hn he hr K')
          | (with_reducible refine he _ _ _ ?_; clear hn he hr K')
          | (with_reducible refine hr _ _ ?_; clear hn he hr K')
          | ((with_reducible refine Eqn.mk (fun hq => ?_) ?_) <;> first | contradiction | skip)
          | (with_reducible refine Bo.yes (by decide) ?_)
          | (with_reducible refine Bo.no (by decide) ?_)
          | ((with_reducible refine Bo.gen (fun c hb => ?_)) <;> (try simp only [Nat.reduceAdd, toD, toDs, dInt, dBool, dStr, dList, dFs, dFld, List.getD_cons_zero, List.getD_cons_succ, Nat.zero_add, Int.reduceToNat] at hb) <;> (try simp only [cond_true, cond_false, toD, toDs, dInt, dBool, dStr, dList, dFs, dFld, List.getD_cons_zero, List.getD_cons_succ, Nat.zero_add, eqA, eqAs, decide_true, decide_false, beq_self_eq_true, Bool.not_true, Bool.not_false, Bool.and_true, Bool.true_and, Bool.and_self, cmpI, ↓reduceIte, Bool.false_eq_true, reduceCtorEq, Int.reduceEq, Int.reduceLT, Int.reduceLE, hfx, e0] at hb) <;> first | (obtain rfl : c = true := hb) | (obtain rfl : c = false := hb) | skip)
          | ((with_reducible refine Br.cs (fun hq => ?_) (fun hq => ?_)) <;> (try simp only [cond_true, cond_false, toD, toDs, dInt, dBool, dStr, dList, dFs, dFld, List.getD_cons_zero, List.getD_cons_succ, Nat.zero_add, eqA, eqAs, decide_true, decide_false, beq_self_eq_true, Bool.not_true, Bool.not_false, Bool.and_true, Bool.true_and, Bool.and_self, cmpI, ↓reduceIte, Bool.false_eq_true, reduceCtorEq, Int.reduceEq, Int.reduceLT, Int.reduceLE, hfx, e0] at hq) <;> first | contradiction | subst hq | skip)
          | (with_reducible refine Nd.mk trivial ?_)
          | (with_reducible refine Nd.mk (by decide) ?_)
          | (with_reducible refine Nd.mk ?_ ?_)
          | (with_reducible refine Leaf.mk rfl ?_)
          | (with_reducible refine LeafS.fin rfl ?_)
          | (with_reducible refine Fin.mk ?_ rfl)
          | (with_reducible refine Fin.mk ?_ ?_)
          | ((with_reducible refine Nx.mk ?_ ?_ ?_ ?_) <;> first | rfl | skip)
          | (conv => whnf
             first
               | (with_reducible refine gn _ _ ?_; clear gn G)
               | (with_reducible refine gn _ _ _ _ ?_; clear gn G)
               | (with_reducible refine Wr.mk ?_)
               | (with_reducible refine hn _ _ ?_; clear hn he hr K')
               | (with_reducible refine he _ _ _ ?_; clear hn he hr K')
               | (with_reducible refine hr _ _ ?_; clear hn he hr K')
               | (with_reducible refine Nd.mk trivial ?_)
               | (with_reducible refine Nd.mk (by decide) ?_)
               | (with_reducible refine Nd.mk ?_ ?_)
               | (with_reducible refine Leaf.mk rfl ?_)
               | (with_reducible refine LeafS.fin rfl ?_)
               | (with_reducible refine Fin.mk ?_ rfl)
               | (with_reducible refine Fin.mk ?_ ?_)
               | ((with_reducible refine Nx.mk ?_ ?_ ?_ ?_) <;> first | rfl | skip)
               | (with_reducible show Bo _ _)
               | (with_reducible show Br _ _ _)
               | (with_reducible show Eqn _ _ _)))
        all_goals first | rfl | (simp only [spl, List.length_append, List.length_replicate, be_length, roomy, Int.reduceToNat, true_and]; omega) | skip
      · subst h
        have hfx : fineB ⟨1, (X.fld 1).bool, (X.fld 2).bool, (X.fld 3).bool, (X.fld 4).bool, (X.fld 5).bool, (X.fld 6).bool, (X.fld 7).int, ((X.fld 8).fld 0).int, ((X.fld 8).fld 1).int, ((X.fld 8).fld 2).int, ((X.fld 8).fld 3).int, ((X.fld 9).fld 0).int, ((X.fld 9).fld 1).int, ((X.fld 9).fld 2).int, ((X.fld 9).fld 3).int⟩ = true := by rw [e1, e2, e3, e4, e5, e6, e7, e8, e9, e10, e11, e12, e13, e14, e15]; exact hf'
        refine st_seq (fun K1 hn1 he1 hr1 => ?_)
        repeat' (first
          | (with_reducible first | refine st_seq (fun K' hn he hr => ?_) | refine st_block (fun K' hn he hr => ?_) | refine st_region ?_ | refine st_draw ?_ | refine st_cond ?_ | refine st_skip ?_ | refine st_exit ?_ | refine st_ret ?_ | refine st_loop ?_ | refine st_op (fun G gn => ?_) | refine st_nil ?_ | refine st_gop ?_ | refine st_dop (fun G gn => ?_) | refine st_dnil ?_ | refine st_gdop ?_ | refine st_tl ?_)
          | (with_reducible refine gn _ _ ?_; clear gn G)
          | (with_reducible refine gn _ _ _ _ ?_; clear gn G)
          | (with_reducible refine Wr.mk ?_)
          | (with_reducible refine hn _ _ ?_; clear hn he hr K')
          | (with_reducible refine he _ _ _ ?_; clear hn he hr K')
          | (with_reducible refine hr _ _ ?_; clear hn he hr K')
          | ((with_reducible refine Eqn.mk (fun hq => ?_) ?_) <;> first | contradiction | skip)
          | (with_reducible refine Bo.yes (by decide) ?_)
          | (with_reducible refine Bo.no (by decide) ?_)
          | ((with_reducible refine Bo.gen (fun c hb => ?_)) <;> (try simp only [Nat.reduceAdd, toD, toDs, dInt, dBool, dStr, dList, dFs, dFld, List.getD_cons_zero, List.getD_cons_succ, Nat.zero_add, Int.reduceToNat] at hb) <;> (try simp only [cond_true, cond_false, toD, toDs, dInt, dBool, dStr, dList, dFs, dFld, List.getD_cons_zero, List.getD_cons_succ, Nat.zero_add, eqA, eqAs, decide_true, decide_false, beq_self_eq_true, Bool.not_true, Bool.not_false, Bool.and_true, Bool.true_and, Bool.and_self, cmpI, ↓reduceIte, Bool.false_eq_true, reduceCtorEq, Int.reduceEq, Int.reduceLT, Int.reduceLE] at hb) <;> first | (obtain rfl : c = true := hb) | (obtain rfl : c = false := hb) | skip)
          | ((with_reducible refine Br.cs (fun hq => ?_) (fun hq => ?_)) <;> (try simp only [cond_true, cond_false, toD, toDs, dInt, dBool, dStr, dList, dFs, dFld, List.getD_cons_zero, List.getD_cons_succ, Nat.zero_add, eqA, eqAs, decide_true, decide_false, beq_self_eq_true, Bool.not_true, Bool.not_false, Bool.and_true, Bool.true_and, Bool.and_self, cmpI, ↓reduceIte, Bool.false_eq_true, reduceCtorEq, Int.reduceEq, Int.reduceLT, Int.reduceLE] at hq) <;> first | contradiction | subst hq | skip)
          | (with_reducible refine Nd.mk trivial ?_)
          | (with_reducible refine Nd.mk (by decide) ?_)
          | (with_reducible refine Nd.mk ?_ ?_)
          | (with_reducible refine Leaf.mk rfl ?_)
          | (with_reducible refine LeafS.fin rfl ?_)
          | (with_reducible refine Fin.mk ?_ rfl)
          | (with_reducible refine Fin.mk ?_ ?_)
          | ((with_reducible refine Nx.mk ?_ ?_ ?_ ?_) <;> first | rfl | skip)
          | (conv => whnf
             first
               | (with_reducible refine gn _ _ ?_; clear gn G)
               | (with_reducible refine gn _ _ _ _ ?_; clear gn G)
               | (with_reducible refine Wr.mk ?_)
               | (with_reducible refine hn _ _ ?_; clear hn he hr K')
               | (with_reducible refine he _ _ _ ?_; clear hn he hr K')
               | (with_reducible refine hr _ _ ?_; clear hn he hr K')
               | (with_reducible refine Nd.mk trivial ?_)
               | (with_reducible refine Nd.mk (by decide) ?_)
               | (with_reducible refine Nd.mk ?_ ?_)
               | (with_reducible refine Leaf.mk rfl ?_)
               | (with_reducible refine LeafS.fin rfl ?_)
               | (with_reducible refine Fin.mk ?_ rfl)
               | (with_reducible refine Fin.mk ?_ ?_)
               | ((with_reducible refine Nx.mk ?_ ?_ ?_ ?_) <;> first | rfl | skip)
               | (with_reducible show Bo _ _)
               | (with_reducible show Br _ _ _)
               | (with_reducible show Eqn _ _ _)))
        refine hn1 _ _ ?_
        clear hn1 he1 hr1 K1
        rw [show toD _ = X from hX]
        repeat' (first
          | (with_reducible first | refine st_seq (fun K' hn he hr => ?_) | refine st_block (fun K' hn he hr => ?_) | refine st_region ?_ | refine st_draw ?_ | refine st_cond ?_ | refine st_skip ?_ | refine st_exit ?_ | refine st_ret ?_ | refine st_loop ?_ | refine st_op (fun G gn => ?_) | refine st_nil ?_ | refine st_gop ?_ | refine st_dop (fun G gn => ?_) | refine st_dnil ?_ | refine st_gdop ?_ | refine st_tl ?_)
          | (with_reducible refine gn _ _ ?_; clear gn G)
          | (with_reducible refine gn _ _ _ _ ?_; clear gn G)
          | (with_reducible refine Wr.mk ?_)
          | (with_reducible refine hn _ _ ?_; clear hn he hr K')
          | (with_reducible refine he _ _ _ ?_; clear hn he hr K')
          | (with_reducible refine hr _ _ ?_; clear hn he hr K')
          | ((with_reducible refine Eqn.mk (fun hq => ?_) ?_) <;> first | contradiction | skip)
          | (with_reducible refine Bo.yes (by decide) ?_)
          | (with_reducible refine Bo.no (by decide) ?_)
          | ((with_reducible refine Bo.gen (fun c hb => ?_)) <;> (try simp only [Nat.reduceAdd, toD, toDs, dInt, dBool, dStr, dList, dFs, dFld, List.getD_cons_zero, List.getD_cons_succ, Nat.zero_add, Int.reduceToNat] at hb) <;> (try simp only [cond_true, cond_false, toD, toDs, dInt, dBool, dStr, dList, dFs, dFld, List.getD_cons_zero, List.getD_cons_succ, Nat.zero_add, eqA, eqAs, decide_true, decide_false, beq_self_eq_true, Bool.not_true, Bool.not_false, Bool.and_true, Bool.true_and, Bool.and_self, cmpI, ↓reduceIte, Bool.false_eq_true, reduceCtorEq, Int.reduceEq, Int.reduceLT, Int.reduceLE, hfx, e0] at hb) <;> first | (obtain rfl : c = true := hb) | (obtain rfl : c = false := hb) | skip)
          | ((with_reducible refine Br.cs (fun hq => ?_) (fun hq => ?_)) <;> (try simp only [cond_true, cond_false, toD, toDs, dInt, dBool, dStr, dList, dFs, dFld, List.getD_cons_zero, List.getD_cons_succ, Nat.zero_add, eqA, eqAs, decide_true, decide_false, beq_self_eq_true, Bool.not_true, Bool.not_false, Bool.and_true, Bool.true_and, Bool.and_self, cmpI, ↓reduceIte, Bool.false_eq_true, reduceCtorEq, Int.reduceEq, Int.reduceLT, Int.reduceLE, hfx, e0] at hq) <;> first | contradiction | subst hq | skip)
          | (with_reducible refine Nd.mk trivial ?_)
          | (with_reducible refine Nd.mk (by decide) ?_)
          | (with_reducible refine Nd.mk ?_ ?_)
          | (with_reducible refine Leaf.mk rfl ?_)
          | (with_reducible refine LeafS.fin rfl ?_)
          | (with_reducible refine Fin.mk ?_ rfl)
          | (with_reducible refine Fin.mk ?_ ?_)
          | ((with_reducible refine Nx.mk ?_ ?_ ?_ ?_) <;> first | rfl | skip)
          | (conv => whnf
             first
               | (with_reducible refine gn _ _ ?_; clear gn G)
               | (with_reducible refine gn _ _ _ _ ?_; clear gn G)
               | (with_reducible refine Wr.mk ?_)
               | (with_reducible refine hn _ _ ?_; clear hn he hr K')
               | (with_reducible refine he _ _ _ ?_; clear hn he hr K')
               | (with_reducible refine hr _ _ ?_; clear hn he hr K')
               | (with_reducible refine Nd.mk trivial ?_)
               | (with_reducible refine Nd.mk (by decide) ?_)
               | (with_reducible refine Nd.mk ?_ ?_)
               | (with_reducible refine Leaf.mk rfl ?_)
               | (with_reducible refine LeafS.fin rfl ?_)
               | (with_reducible refine Fin.mk ?_ rfl)
               | (with_reducible refine Fin.mk ?_ ?_)
               | ((with_reducible refine Nx.mk ?_ ?_ ?_ ?_) <;> first | rfl | skip)
               | (with_reducible show Bo _ _)
               | (with_reducible show Br _ _ _)
               | (with_reducible show Eqn _ _ _)))
        all_goals first | rfl | (simp only [spl, List.length_append, List.length_replicate, be_length, roomy, Int.reduceToNat, true_and]; omega) | skip
        clear hfx e0 e1 e2 e3 e4 e5 e6 e7 e8 e9 e10 e11 e12 e13 e14 e15
        subst hX
        subst_vars
        refine Eq.trans (b := AV.tup [bytesA (bHead ⟨1, tc, ack, pr, le, fo, ag, ro, R, C, B, P, ta, tm, th, td⟩ ++ [.i (IntKind.u8.wrap (IntKind.i64.wrap (bi tc 1 + bi ack 128)))] ++ be R 8 ++ be (IntKind.u64.wrap C) 4 ++ be B 8 ++ be (IntKind.u64.wrap P) 2 ++ bTimes ⟨1, tc, ack, pr, le, fo, ag, ro, R, C, B, P, ta, tm, th, td⟩) (.own 0), .int .i64 0]) rfl ?_
        rw [wC, wP, flagsR1 tc ack, bytes1 _ (show (1 : Int) ≠ 2 by decide) (show (1 : Int) ≠ 3 by decide)]
        rfl
      · subst h
        have hfx : fineB ⟨3, (X.fld 1).bool, (X.fld 2).bool, (X.fld 3).bool, (X.fld 4).bool, (X.fld 5).bool, (X.fld 6).bool, (X.fld 7).int, ((X.fld 8).fld 0).int, ((X.fld 8).fld 1).int, ((X.fld 8).fld 2).int, ((X.fld 8).fld 3).int, ((X.fld 9).fld 0).int, ((X.fld 9).fld 1).int, ((X.fld 9).fld 2).int, ((X.fld 9).fld 3).int⟩ = true := by rw [e1, e2, e3, e4, e5, e6, e7, e8, e9, e10, e11, e12, e13, e14, e15]; exact hf'
        refine st_seq (fun K1 hn1 he1 hr1 => ?_)
        repeat' (first
          | (with_reducible first | refine st_seq (fun K' hn he hr => ?_) | refine st_block (fun K' hn he hr => ?_) | refine st_region ?_ | refine st_draw ?_ | refine st_cond ?_ | refine st_skip ?_ | refine st_exit ?_ | refine st_ret ?_ | refine st_loop ?_ | refine st_op (fun G gn => ?_) | refine st_nil ?_ | refine st_gop ?_ | refine st_dop (fun G gn => ?_) | refine st_dnil ?_ | refine st_gdop ?_ | refine st_tl ?_)
          | (with_reducible refine gn _ _ ?_; clear gn G)
          | (with_reducible refine gn _ _ _ _ ?_; clear gn G)
          | (with_reducible refine Wr.mk ?_)
          | (with_reducible refine hn _ _ ?_; clear hn he hr K')
          | (with_reducible refine he _ _ _ ?_; clear hn he hr K')
          | (with_reducible refine hr _ _ ?_; clear hn he hr K')
          | ((with_reducible refine Eqn.mk (fun hq => ?_) ?_) <;> first | contradiction | skip)
          | (with_reducible refine Bo.yes (by decide) ?_)
          | (with_reducible refine Bo.no (by decide) ?_)
          | ((with_reducible refine Bo.gen (fun c hb => ?_)) <;> (try simp only [Nat.reduceAdd, toD, toDs, dInt, dBool, dStr, dList, dFs, dFld, List.getD_cons_zero, List.getD_cons_succ, Nat.zero_add, Int.reduceToNat] at hb) <;> (try simp only [cond_true, cond_false, toD, toDs, dInt, dBool, dStr, dList, dFs, dFld, List.getD_cons_zero, List.getD_cons_succ, Nat.zero_add, eqA, eqAs, decide_true, decide_false, beq_self_eq_true, Bool.not_true, Bool.not_false, Bool.and_true, Bool.true_and, Bool.and_self, cmpI, ↓reduceIte, Bool.false_eq_true, reduceCtorEq, Int.reduceEq, Int.reduceLT, Int.reduceLE] at hb) <;> first | (obtain rfl : c = true := hb) | (obtain rfl : c = false := hb) | skip)
          | ((with_reducible refine Br.cs (fun hq => ?_) (fun hq => ?_)) <;> (try simp only [cond_true, cond_false, toD, toDs, dInt, dBool, dStr, dList, dFs, dFld, List.getD_cons_zero, List.getD_cons_succ, Nat.zero_add, eqA, eqAs, decide_true, decide_false, beq_self_eq_true, Bool.not_true, Bool.not_false, Bool.and_true, Bool.true_and, Bool.and_self, cmpI, ↓reduceIte, Bool.false_eq_true, reduceCtorEq, Int.reduceEq, Int.reduceLT, Int.reduceLE] at hq) <;> first | contradiction | subst hq | skip)
          | (with_reducible refine Nd.mk trivial ?_)
          | (with_reducible refine Nd.mk (by decide) ?_)
          | (with_reducible refine Nd.mk ?_ ?_)
          | (with_reducible refine Leaf.mk rfl ?_)
          | (with_reducible refine LeafS.fin rfl ?_)
          | (with_reducible refine Fin.mk ?_ rfl)
          | (with_reducible refine Fin.mk ?_ ?_)
          | ((with_reducible refine Nx.mk ?_ ?_ ?_ ?_) <;> first | rfl | skip)
          | (conv => whnf
             first
               | (with_reducible refine gn _ _ ?_; clear gn G)
               | (with_reducible refine gn _ _ _ _ ?_; clear gn G)
               | (with_reducible refine Wr.mk ?_)
               | (with_reducible refine hn _ _ ?_; clear hn he hr K')
               | (with_reducible refine he _ _ _ ?_; clear hn he hr K')
               | (with_reducible refine hr _ _ ?_; clear hn he hr K')
               | (with_reducible refine Nd.mk trivial ?_)
               | (with_reducible refine Nd.mk (by decide) ?_)
               | (with_reducible refine Nd.mk ?_ ?_)
               | (with_reducible refine Leaf.mk rfl ?_)
               | (with_reducible refine LeafS.fin rfl ?_)
               | (with_reducible refine Fin.mk ?_ rfl)
               | (with_reducible refine Fin.mk ?_ ?_)
               | ((with_reducible refine Nx.mk ?_ ?_ ?_ ?_) <;> first | rfl | skip)
               | (with_reducible show Bo _ _)
               | (with_reducible show Br _ _ _)
               | (with_reducible show Eqn _ _ _)))
        refine hn1 _ _ ?_
        clear hn1 he1 hr1 K1
        rw [show toD _ = X from hX]
        repeat' (first
          | (with_reducible first | refine st_seq (fun K' hn he hr => ?_) | refine st_block (fun K' hn he hr => ?_) | refine st_region ?_ | refine st_draw ?_ | refine st_cond ?_ | refine st_skip ?_ | refine st_exit ?_ | refine st_ret ?_ | refine st_loop ?_ | refine st_op (fun G gn => ?_) | refine st_nil ?_ | refine st_gop ?_ | refine st_dop (fun G gn => ?_) | refine st_dnil ?_ | refine st_gdop ?_ | refine st_tl ?_)
          | (with_reducible refine gn _ _ ?_; clear gn G)
          | (with_reducible refine gn _ _ _ _ ?_; clear gn G)
          | (with_reducible refine Wr.mk ?_)
          | (with_reducible refine hn _ _ ?_; clear hn he hr K')
          | (with_reducible refine he _ _ _ ?_; clear hn he hr K')
          | (with_reducible refine hr _ _ ?_; clear hn he hr K')
          | ((with_reducible refine Eqn.mk (fun hq => ?_) ?_) <;> first | contradiction | skip)
          | (with_reducible refine Bo.yes (by decide) ?_)
          | (with_reducible refine Bo.no (by decide) ?_)
          | ((with_reducible refine Bo.gen (fun c hb => ?_)) <;> (try simp only [Nat.reduceAdd, toD, toDs, dInt, dBool, dStr, dList, dFs, dFld, List.getD_cons_zero, List.getD_cons_succ, Nat.zero_add, Int.reduceToNat] at hb) <;> (try simp only [cond_true, cond_false, toD, toDs, dInt, dBool, dStr, dList, dFs, dFld, List.getD_cons_zero, List.getD_cons_succ, Nat.zero_add, eqA, eqAs, decide_true, decide_false, beq_self_eq_true, Bool.not_true, Bool.not_false, Bool.and_true, Bool.true_and, Bool.and_self, cmpI, ↓reduceIte, Bool.false_eq_true, reduceCtorEq, Int.reduceEq, Int.reduceLT, Int.reduceLE, hfx, e0] at hb) <;> first | (obtain rfl : c = true := hb) | (obtain rfl : c = false := hb) | skip)
          | ((with_reducible refine Br.cs (fun hq => ?_) (fun hq => ?_)) <;> (try simp only [cond_true, cond_false, toD, toDs, dInt, dBool, dStr, dList, dFs, dFld, List.getD_cons_zero, List.getD_cons_succ, Nat.zero_add, eqA, eqAs, decide_true, decide_false, beq_self_eq_true, Bool.not_true, Bool.not_false, Bool.and_true, Bool.true_and, Bool.and_self, cmpI, ↓reduceIte, Bool.false_eq_true, reduceCtorEq, Int.reduceEq, Int.reduceLT, Int.reduceLE, hfx, e0] at hq) <;> first | contradiction | subst hq | skip)
          | (with_reducible refine Nd.mk trivial ?_)
          | (with_reducible refine Nd.mk (by decide) ?_)
          | (with_reducible refine Nd.mk ?_ ?_)
          | (with_reducible refine Leaf.mk rfl ?_)
          | (with_reducible refine LeafS.fin rfl ?_)
          | (with_reducible refine Fin.mk ?_ rfl)
          | (with_reducible refine Fin.mk ?_ ?_)
          | ((with_reducible refine Nx.mk ?_ ?_ ?_ ?_) <;> first | rfl | skip)
          | (conv => whnf
             first
               | (with_reducible refine gn _ _ ?_; clear gn G)
               | (with_reducible refine gn _ _ _ _ ?_; clear gn G)
               | (with_reducible refine Wr.mk ?_)
               | (with_reducible refine hn _ _ ?_; clear hn he hr K')
               | (with_reducible refine he _ _ _ ?_; clear hn he hr K')
               | (with_reducible refine hr _ _ ?_; clear hn he hr K')
               | (with_reducible refine Nd.mk trivial ?_)
               | (with_reducible refine Nd.mk (by decide) ?_)
               | (with_reducible refine Nd.mk ?_ ?_)
               | (with_reducible refine Leaf.mk rfl ?_)
               | (with_reducible refine LeafS.fin rfl ?_)
               | (with_reducible refine Fin.mk ?_ rfl)
               | (with_reducible refine Fin.mk ?_ ?_)
               | ((with_reducible refine Nx.mk ?_ ?_ ?_ ?_) <;> first | rfl | skip)
               | (with_reducible show Bo _ _)
               | (with_reducible show Br _ _ _)
               | (with_reducible show Eqn _ _ _)))
        all_goals first | rfl | (simp only [spl, List.length_append, List.length_replicate, be_length, roomy, Int.reduceToNat, true_and]; omega) | skip
        clear hfx e0 e1 e2 e3 e4 e5 e6 e7 e8 e9 e10 e11 e12 e13 e14 e15
        have hro : ro = 0 ∨ ro = 1 ∨ ro = 3 ∨ ro = 4 := by
          have h1 : ack = false ∧ (ro = 0 ∨ ro = 1 ∨ ro = 3 ∨ ro = 4) := by simpa [fineB] using hf'
          exact h1.2
        subst hX
        subst_vars
        refine Eq.trans (b := AV.tup [bytesA (bHead ⟨3, tc, ack, pr, le, fo, ag, ro, R, C, B, P, ta, tm, th, td⟩ ++ [.i (IntKind.u8.wrap (IntKind.i64.wrap (IntKind.i64.wrap (IntKind.i64.wrap (IntKind.i64.wrap (IntKind.i64.wrap (bi tc 1 + bi pr 2) + IntKind.i64.wrap (4 * rRole ro)) + bi le 16) + bi fo 32) + bi ag 64)))] ++ be R 8 ++ be (IntKind.u64.wrap C) 4 ++ be B 8 ++ be (IntKind.u64.wrap P) 2 ++ bTimes ⟨3, tc, ack, pr, le, fo, ag, ro, R, C, B, P, ta, tm, th, td⟩ ++ [.i 0]) (.own 0), .int .i64 0]) rfl ?_
        rw [wC, wP, flagsR3 tc pr le fo ag (ro := ro) hro, bytes3 _ rfl]
        rfl
    · have hfx : fineB ⟨(X.fld 0).int, (X.fld 1).bool, (X.fld 2).bool, (X.fld 3).bool, (X.fld 4).bool, (X.fld 5).bool, (X.fld 6).bool, (X.fld 7).int, ((X.fld 8).fld 0).int, ((X.fld 8).fld 1).int, ((X.fld 8).fld 2).int, ((X.fld 8).fld 3).int, ((X.fld 9).fld 0).int, ((X.fld 9).fld 1).int, ((X.fld 9).fld 2).int, ((X.fld 9).fld 3).int⟩ = false := by
        rw [e0, e1, e2, e3, e4, e5, e6, e7, e8, e9, e10, e11, e12, e13, e14, e15]; exact hf
      refine st_seq (fun K1 hn1 he1 hr1 => ?_)
      repeat' (first
        | (with_reducible first | refine st_seq (fun K' hn he hr => ?_) | refine st_block (fun K' hn he hr => ?_) | refine st_region ?_ | refine st_draw ?_ | refine st_cond ?_ | refine st_skip ?_ | refine st_exit ?_ | refine st_ret ?_ | refine st_loop ?_ | refine st_op (fun G gn => ?_) | refine st_nil ?_ | refine st_gop ?_ | refine st_dop (fun G gn => ?_) | refine st_dnil ?_ | refine st_gdop ?_ | refine st_tl ?_)
        | (with_reducible refine gn _ _ ?_; clear gn G)
        | (with_reducible refine gn _ _ _ _ ?_; clear gn G)
        | (with_reducible refine Wr.mk ?_)
        | (with_reducible refine hn _ _ ?_; clear hn he hr K')
        | (with_reducible refine he _ _ _ ?_; clear hn he hr K')
        | (with_reducible refine hr _ _ ?_; clear hn he hr K')
        | ((with_reducible refine Eqn.mk (fun hq => ?_) ?_) <;> first | contradiction | skip)
        | (with_reducible refine Bo.yes (by decide) ?_)
        | (with_reducible refine Bo.no (by decide) ?_)
        | ((with_reducible refine Bo.gen (fun c hb => ?_)) <;> (try simp only [Nat.reduceAdd, toD, toDs, dInt, dBool, dStr, dList, dFs, dFld, List.getD_cons_zero, List.getD_cons_succ, Nat.zero_add, Int.reduceToNat] at hb) <;> (try simp only [cond_true, cond_false, toD, toDs, dInt, dBool, dStr, dList, dFs, dFld, List.getD_cons_zero, List.getD_cons_succ, Nat.zero_add, eqA, eqAs, decide_true, decide_false, beq_self_eq_true, Bool.not_true, Bool.not_false, Bool.and_true, Bool.true_and, Bool.and_self, cmpI, ↓reduceIte, Bool.false_eq_true, reduceCtorEq, Int.reduceEq, Int.reduceLT, Int.reduceLE] at hb) <;> first | (obtain rfl : c = true := hb) | (obtain rfl : c = false := hb) | skip)
        | ((with_reducible refine Br.cs (fun hq => ?_) (fun hq => ?_)) <;> (try simp only [cond_true, cond_false, toD, toDs, dInt, dBool, dStr, dList, dFs, dFld, List.getD_cons_zero, List.getD_cons_succ, Nat.zero_add, eqA, eqAs, decide_true, decide_false, beq_self_eq_true, Bool.not_true, Bool.not_false, Bool.and_true, Bool.true_and, Bool.and_self, cmpI, ↓reduceIte, Bool.false_eq_true, reduceCtorEq, Int.reduceEq, Int.reduceLT, Int.reduceLE] at hq) <;> first | contradiction | subst hq | skip)
        | (with_reducible refine Nd.mk trivial ?_)
        | (with_reducible refine Nd.mk (by decide) ?_)
        | (with_reducible refine Nd.mk ?_ ?_)
        | (with_reducible refine Leaf.mk rfl ?_)
        | (with_reducible refine LeafS.fin rfl ?_)
        | (with_reducible refine Fin.mk ?_ rfl)
        | (with_reducible refine Fin.mk ?_ ?_)
        | ((with_reducible refine Nx.mk ?_ ?_ ?_ ?_) <;> first | rfl | skip)
        | (conv => whnf
           first
             | (with_reducible refine gn _ _ ?_; clear gn G)
             | (with_reducible refine gn _ _ _ _ ?_; clear gn G)
             | (with_reducible refine Wr.mk ?_)
             | (with_reducible refine hn _ _ ?_; clear hn he hr K')
             | (with_reducible refine he _ _ _ ?_; clear hn he hr K')
             | (with_reducible refine hr _ _ ?_; clear hn he hr K')
             | (with_reducible refine Nd.mk trivial ?_)
             | (with_reducible refine Nd.mk (by decide) ?_)
             | (with_reducible refine Nd.mk ?_ ?_)
             | (with_reducible refine Leaf.mk rfl ?_)
             | (with_reducible refine LeafS.fin rfl ?_)
             | (with_reducible refine Fin.mk ?_ rfl)
             | (with_reducible refine Fin.mk ?_ ?_)
             | ((with_reducible refine Nx.mk ?_ ?_ ?_ ?_) <;> first | rfl | skip)
             | (with_reducible show Bo _ _)
             | (with_reducible show Br _ _ _)
             | (with_reducible show Eqn _ _ _)))
      refine hn1 _ _ ?_
      clear hn1 he1 hr1 K1
      rw [show toD _ = X from hX]
      repeat' (first
        | (with_reducible first | refine st_seq (fun K' hn he hr => ?_) | refine st_block (fun K' hn he hr => ?_) | refine st_region ?_ | refine st_draw ?_ | refine st_cond ?_ | refine st_skip ?_ | refine st_exit ?_ | refine st_ret ?_ | refine st_loop ?_ | refine st_op (fun G gn => ?_) | refine st_nil ?_ | refine st_gop ?_ | refine st_dop (fun G gn => ?_) | refine st_dnil ?_ | refine st_gdop ?_ | refine st_tl ?_)
        | (with_reducible refine gn _ _ ?_; clear gn G)
        | (with_reducible refine gn _ _ _ _ ?_; clear gn G)
        | (with_reducible refine Wr.mk ?_)
        | (with_reducible refine hn _ _ ?_; clear hn he hr K')
        | (with_reducible refine he _ _ _ ?_; clear hn he hr K')
        | (with_reducible refine hr _ _ ?_; clear hn he hr K')
        | ((with_reducible refine Eqn.mk (fun hq => ?_) ?_) <;> first | contradiction | skip)
        | (with_reducible refine Bo.yes (by decide) ?_)
        | (with_reducible refine Bo.no (by decide) ?_)
        | ((with_reducible refine Bo.gen (fun c hb => ?_)) <;> (try simp only [Nat.reduceAdd, toD, toDs, dInt, dBool, dStr, dList, dFs, dFld, List.getD_cons_zero, List.getD_cons_succ, Nat.zero_add, Int.reduceToNat] at hb) <;> (try simp only [cond_true, cond_false, toD, toDs, dInt, dBool, dStr, dList, dFs, dFld, List.getD_cons_zero, List.getD_cons_succ, Nat.zero_add, eqA, eqAs, decide_true, decide_false, beq_self_eq_true, Bool.not_true, Bool.not_false, Bool.and_true, Bool.true_and, Bool.and_self, cmpI, ↓reduceIte, Bool.false_eq_true, reduceCtorEq, Int.reduceEq, Int.reduceLT, Int.reduceLE, hfx] at hb) <;> first | (obtain rfl : c = true := hb) | (obtain rfl : c = false := hb) | skip)
        | ((with_reducible refine Br.cs (fun hq => ?_) (fun hq => ?_)) <;> (try simp only [cond_true, cond_false, toD, toDs, dInt, dBool, dStr, dList, dFs, dFld, List.getD_cons_zero, List.getD_cons_succ, Nat.zero_add, eqA, eqAs, decide_true, decide_false, beq_self_eq_true, Bool.not_true, Bool.not_false, Bool.and_true, Bool.true_and, Bool.and_self, cmpI, ↓reduceIte, Bool.false_eq_true, reduceCtorEq, Int.reduceEq, Int.reduceLT, Int.reduceLE, hfx] at hq) <;> first | contradiction | subst hq | skip)
        | (with_reducible refine Nd.mk trivial ?_)
        | (with_reducible refine Nd.mk (by decide) ?_)
        | (with_reducible refine Nd.mk ?_ ?_)
        | (with_reducible refine Leaf.mk rfl ?_)
        | (with_reducible refine LeafS.fin rfl ?_)
        | (with_reducible refine Fin.mk ?_ rfl)
        | (with_reducible refine Fin.mk ?_ ?_)
        | ((with_reducible refine Nx.mk ?_ ?_ ?_ ?_) <;> first | rfl | skip)
        | (conv => whnf
           first
             | (with_reducible refine gn _ _ ?_; clear gn G)
             | (with_reducible refine gn _ _ _ _ ?_; clear gn G)
             | (with_reducible refine Wr.mk ?_)
             | (with_reducible refine hn _ _ ?_; clear hn he hr K')
             | (with_reducible refine he _ _ _ ?_; clear hn he hr K')
             | (with_reducible refine hr _ _ ?_; clear hn he hr K')
             | (with_reducible refine Nd.mk trivial ?_)
             | (with_reducible refine Nd.mk (by decide) ?_)
             | (with_reducible refine Nd.mk ?_ ?_)
             | (with_reducible refine Leaf.mk rfl ?_)
             | (with_reducible refine LeafS.fin rfl ?_)
             | (with_reducible refine Fin.mk ?_ rfl)
             | (with_reducible refine Fin.mk ?_ ?_)
             | ((with_reducible refine Nx.mk ?_ ?_ ?_ ?_) <;> first | rfl | skip)
             | (with_reducible show Bo _ _)
             | (with_reducible show Br _ _ _)
             | (with_reducible show Eqn _ _ _)))
      all_goals (try simp only [hfx] at *)
      all_goals first | rfl
  · trivial
end Go.Vc.Seat
