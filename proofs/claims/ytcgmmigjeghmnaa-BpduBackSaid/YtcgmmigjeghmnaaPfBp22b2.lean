/- A part of the proof of the seat's laws: PfBp22b2. It states no claim by itself. -/
import Derived.Test.YtcgmmigjeghmnaaPfBp21
import Derived.Test.YtcgmmigjeghmnaaPfBp17
set_option linter.unusedVariables false
set_option linter.unusedSimpArgs false
namespace Go.Vc.Seat
open Go.Vc Go.Proofs.Try
set_option maxRecDepth 20000 in
set_option maxHeartbeats 16000000 in
theorem backk2b {src : List D} {k : Int} {tc ack pr le fo ag : Bool} {ro R C B P ta tm th td : Int} {xs : List D} (hok : okAs [.arr 6 (.int .u8) src, bpA ⟨k, tc, ack, pr, le, fo, ag, ro, R, C, B, P, ta, tm, th, td⟩, .sl (.int .u8) xs .no]) (hs : single src = true) (hf : fineB ⟨k, tc, ack, pr, le, fo, ag, ro, R, C, B, P, ta, tm, th, td⟩ = true) (hk : k = 2) (h1 : short (xs.take 100) 21 = false) (h2 : decOK (xs.take 100) = false) : Body orc nt_l05_BpduBack rs_l05_BpduBack ac_l05_BpduBack [.arr 6 (.int .u8) src, bpA ⟨k, tc, ack, pr, le, fo, ag, ro, R, C, B, P, ta, tm, th, td⟩, .sl (.int .u8) xs .no] (.bool true) [] := by
  unfold ac_l05_BpduBack
  refine ⟨rfl, ?_⟩
  obtain ⟨X, hX, e0, e1, e2, e3, e4, e5, e6, e7, e8, e9, e10, e11, e12, e13, e14, e15⟩ := bpX k tc ack pr le fo ag ro R C B P ta tm th td
  subst hk
  have hMX : (⟨2, (X.fld 1).bool, (X.fld 2).bool, (X.fld 3).bool, (X.fld 4).bool, (X.fld 5).bool, (X.fld 6).bool, (X.fld 7).int, ((X.fld 8).fld 0).int, ((X.fld 8).fld 1).int, ((X.fld 8).fld 2).int, ((X.fld 8).fld 3).int, ((X.fld 9).fld 0).int, ((X.fld 9).fld 1).int, ((X.fld 9).fld 2).int, ((X.fld 9).fld 3).int⟩ : BP) = ⟨2, tc, ack, pr, le, fo, ag, ro, R, C, B, P, ta, tm, th, td⟩ := by rw [e1, e2, e3, e4, e5, e6, e7, e8, e9, e10, e11, e12, e13, e14, e15]
  have hfx : fineB ⟨2, (X.fld 1).bool, (X.fld 2).bool, (X.fld 3).bool, (X.fld 4).bool, (X.fld 5).bool, (X.fld 6).bool, (X.fld 7).int, ((X.fld 8).fld 0).int, ((X.fld 8).fld 1).int, ((X.fld 8).fld 2).int, ((X.fld 8).fld 3).int, ((X.fld 9).fld 0).int, ((X.fld 9).fld 1).int, ((X.fld 9).fld 2).int, ((X.fld 9).fld 3).int⟩ = true := by rw [hMX]; exact hf
  obtain ⟨q1, q2, q3, q4, q5, q6⟩ := enc_back hok.1.1 hs hf (okM_of hok.2.1)
  rw [← hMX] at q1 q2 q3 q4 q5 q6
  have hL : ((bBytes ⟨2, (X.fld 1).bool, (X.fld 2).bool, (X.fld 3).bool, (X.fld 4).bool, (X.fld 5).bool, (X.fld 6).bool, (X.fld 7).int, ((X.fld 8).fld 0).int, ((X.fld 8).fld 1).int, ((X.fld 8).fld 2).int, ((X.fld 8).fld 3).int, ((X.fld 9).fld 0).int, ((X.fld 9).fld 1).int, ((X.fld 9).fld 2).int, ((X.fld 9).fld 3).int⟩).length : Int) = 4 := by rw [hMX, bBytes_2 rfl]; rfl
  have hL2 : ((bEnc src ⟨2, (X.fld 1).bool, (X.fld 2).bool, (X.fld 3).bool, (X.fld 4).bool, (X.fld 5).bool, (X.fld 6).bool, (X.fld 7).int, ((X.fld 8).fld 0).int, ((X.fld 8).fld 1).int, ((X.fld 8).fld 2).int, ((X.fld 8).fld 3).int, ((X.fld 9).fld 0).int, ((X.fld 9).fld 1).int, ((X.fld 9).fld 2).int, ((X.fld 9).fld 3).int⟩).length : Int) = 21 := by rw [q6]; omega
  have w : IntKind.i64.wrap (4 + 17) = 21 := by decide
  clear hok
  refine st_seq (fun K1 hn1 he1 hr1 => ?_)
  repeat' (first
    | (with_reducible first | refine st_seq (fun K' hn he hr => ?_) | refine st_block (fun K' hn he hr => ?_) | refine st_region ?_ | refine st_draw ?_ | refine st_cond ?_ | refine st_skip ?_ | refine st_exit ?_ | refine st_ret ?_ | refine st_loop ?_ | refine st_op (fun G gn => ?_) | refine st_nil ?_ | refine st_gop ?_ | refine st_dop (fun G gn => ?_) | refine st_dnil ?_ | refine st_gdop ?_ | refine st_tl ?_)
    | (with_reducible refine gn _ _ ?_; clear gn G)
    | (with_reducible refine gn _ _ _ _ ?_; clear gn G)
    | (with_reducible refine Wr.mk ?_)
    | (with_reducible refine hn _ _ ?_; clear hn he hr K')
    | (with_reducible refine he _ _ _ ?_; clear hn he hr K')
    | (with_reducible refine hr _ _ ?_; clear hn he hr K')
    | ((with_reducible refine Eqn.mk (fun hq => ?_) ?_) <;> first | contradiction | skip)
    | (with_reducible refine Bo.yes (by decide) ?_)
    | (with_reducible refine Bo.no (by decide) ?_)
    | ((with_reducible refine Bo.gen (fun c hb => ?_)) <;> (try simp only [Nat.reduceAdd, toD, toDs, dInt, dBool, dStr, dList, dFs, dFld, List.getD_cons_zero, List.getD_cons_succ, Nat.zero_add, Int.reduceToNat] at hb) <;> (try simp only [cond_true, cond_false, toD, toDs, dInt, dBool, dStr, dList, dFs, dFld, List.getD_cons_zero, List.getD_cons_succ, Nat.zero_add, eqA, eqAs, decide_true, decide_false, beq_self_eq_true, Bool.not_true, Bool.not_false, Bool.and_true, Bool.true_and, Bool.and_self, cmpI, ↓reduceIte, Bool.false_eq_true, reduceCtorEq, Int.reduceEq, Int.reduceLT, Int.reduceLE] at hb) <;> first | (obtain rfl : c = true := hb) | (obtain rfl : c = false := hb) | skip)
    | ((with_reducible refine Br.cs (fun hq => ?_) (fun hq => ?_)) <;> (try simp only [cond_true, cond_false, toD, toDs, dInt, dBool, dStr, dList, dFs, dFld, List.getD_cons_zero, List.getD_cons_succ, Nat.zero_add, eqA, eqAs, decide_true, decide_false, beq_self_eq_true, Bool.not_true, Bool.not_false, Bool.and_true, Bool.true_and, Bool.and_self, cmpI, ↓reduceIte, Bool.false_eq_true, reduceCtorEq, Int.reduceEq, Int.reduceLT, Int.reduceLE] at hq) <;> first | contradiction | subst hq | skip)
    | (with_reducible refine Nd.mk trivial ?_)
    | (with_reducible refine Nd.mk (by decide) ?_)
    | (with_reducible refine Nd.mk ?_ ?_)
    | (with_reducible refine Leaf.mk rfl ?_)
    | (with_reducible refine LeafS.fin rfl ?_)
    | (with_reducible refine Fin.mk ?_ rfl)
    | (with_reducible refine Fin.mk ?_ ?_)
    | ((with_reducible refine Nx.mk ?_ ?_ ?_ ?_) <;> first | rfl | skip)
    | (conv => whnf
       first
         | (with_reducible refine gn _ _ ?_; clear gn G)
         | (with_reducible refine gn _ _ _ _ ?_; clear gn G)
         | (with_reducible refine Wr.mk ?_)
         | (with_reducible refine hn _ _ ?_; clear hn he hr K')
         | (with_reducible refine he _ _ _ ?_; clear hn he hr K')
         | (with_reducible refine hr _ _ ?_; clear hn he hr K')
         | (with_reducible refine Nd.mk trivial ?_)
         | (with_reducible refine Nd.mk (by decide) ?_)
         | (with_reducible refine Nd.mk ?_ ?_)
         | (with_reducible refine Leaf.mk rfl ?_)
         | (with_reducible refine LeafS.fin rfl ?_)
         | (with_reducible refine Fin.mk ?_ rfl)
         | (with_reducible refine Fin.mk ?_ ?_)
         | ((with_reducible refine Nx.mk ?_ ?_ ?_ ?_) <;> first | rfl | skip)
         | (with_reducible show Bo _ _)
         | (with_reducible show Br _ _ _)
         | (with_reducible show Eqn _ _ _)))
  refine hn1 _ _ ?_
  clear hn1 he1 hr1 K1
  rw [show toD (AV.st _) = X from hX]
  repeat' (first
    | (with_reducible first | refine st_seq (fun K' hn he hr => ?_) | refine st_block (fun K' hn he hr => ?_) | refine st_region ?_ | refine st_draw ?_ | refine st_cond ?_ | refine st_skip ?_ | refine st_exit ?_ | refine st_ret ?_ | refine st_loop ?_ | refine st_op (fun G gn => ?_) | refine st_nil ?_ | refine st_gop ?_ | refine st_dop (fun G gn => ?_) | refine st_dnil ?_ | refine st_gdop ?_ | refine st_tl ?_)
    | (with_reducible refine gn _ _ ?_; clear gn G)
    | (with_reducible refine gn _ _ _ _ ?_; clear gn G)
    | (with_reducible refine Wr.mk ?_)
    | (with_reducible refine hn _ _ ?_; clear hn he hr K')
    | (with_reducible refine he _ _ _ ?_; clear hn he hr K')
    | (with_reducible refine hr _ _ ?_; clear hn he hr K')
    | ((with_reducible refine Eqn.mk (fun hq => ?_) ?_) <;> first | contradiction | skip)
    | (with_reducible refine Bo.yes (by decide) ?_)
    | (with_reducible refine Bo.no (by decide) ?_)
    | ((with_reducible refine Bo.gen (fun c hb => ?_)) <;> (try simp only [Nat.reduceAdd, toD, toDs, dInt, dBool, dStr, dList, dFs, dFld, List.getD_cons_zero, List.getD_cons_succ, Nat.zero_add, Int.reduceToNat] at hb) <;> (try simp only [cond_true, cond_false, toD, toDs, dInt, dBool, dStr, dList, dFs, dFld, List.getD_cons_zero, List.getD_cons_succ, Nat.zero_add, eqA, eqAs, decide_true, decide_false, beq_self_eq_true, Bool.not_true, Bool.not_false, Bool.and_true, Bool.true_and, Bool.and_self, cmpI, ↓reduceIte, Bool.false_eq_true, reduceCtorEq, Int.reduceEq, Int.reduceLT, Int.reduceLE, hs, hfx, e0, q1, q2, q3, q4, q5, hL, hL2, w, h1, h2, eqDn_int, eq_self, decide_true, Bool.not_true, Bool.not_false, beq_self_eq_true] at hb) <;> first | (obtain rfl : c = true := hb) | (obtain rfl : c = false := hb) | skip)
    | ((with_reducible refine Br.cs (fun hq => ?_) (fun hq => ?_)) <;> (try simp only [cond_true, cond_false, toD, toDs, dInt, dBool, dStr, dList, dFs, dFld, List.getD_cons_zero, List.getD_cons_succ, Nat.zero_add, eqA, eqAs, decide_true, decide_false, beq_self_eq_true, Bool.not_true, Bool.not_false, Bool.and_true, Bool.true_and, Bool.and_self, cmpI, ↓reduceIte, Bool.false_eq_true, reduceCtorEq, Int.reduceEq, Int.reduceLT, Int.reduceLE, hs, hfx, e0, q1, q2, q3, q4, q5, hL, hL2, w, h1, h2, eqDn_int, eq_self, decide_true, Bool.not_true, Bool.not_false, beq_self_eq_true] at hq) <;> first | contradiction | subst hq | skip)
    | (with_reducible refine Nd.mk trivial ?_)
    | (with_reducible refine Nd.mk (by decide) ?_)
    | (with_reducible refine Nd.mk ?_ ?_)
    | (with_reducible refine Leaf.mk rfl ?_)
    | (with_reducible refine LeafS.fin rfl ?_)
    | (with_reducible refine Fin.mk ?_ rfl)
    | (with_reducible refine Fin.mk ?_ ?_)
    | ((with_reducible refine Nx.mk ?_ ?_ ?_ ?_) <;> first | rfl | skip)
    | (conv => whnf
       first
         | (with_reducible refine gn _ _ ?_; clear gn G)
         | (with_reducible refine gn _ _ _ _ ?_; clear gn G)
         | (with_reducible refine Wr.mk ?_)
         | (with_reducible refine hn _ _ ?_; clear hn he hr K')
         | (with_reducible refine he _ _ _ ?_; clear hn he hr K')
         | (with_reducible refine hr _ _ ?_; clear hn he hr K')
         | (with_reducible refine Nd.mk trivial ?_)
         | (with_reducible refine Nd.mk (by decide) ?_)
         | (with_reducible refine Nd.mk ?_ ?_)
         | (with_reducible refine Leaf.mk rfl ?_)
         | (with_reducible refine LeafS.fin rfl ?_)
         | (with_reducible refine Fin.mk ?_ rfl)
         | (with_reducible refine Fin.mk ?_ ?_)
         | ((with_reducible refine Nx.mk ?_ ?_ ?_ ?_) <;> first | rfl | skip)
         | (with_reducible show Bo _ _)
         | (with_reducible show Br _ _ _)
         | (with_reducible show Eqn _ _ _)))
  all_goals first | rfl | omega | (exfalso; simp_all; done)
end Go.Vc.Seat
