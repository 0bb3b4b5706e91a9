/- A part of the proof of the seat's laws: PfBp12. It states no claim by itself. -/
import Derived.Test.YtcgmmigjeghmnaaPfBp11
set_option linter.unusedVariables false
set_option linter.unusedSimpArgs false
namespace Go.Vc.Seat
open Go.Vc Go.Proofs.Try
theorem single_iff {m : List D} : single m = true ↔ macKind m = 1 := by simp [single]
theorem bBytes_le {m : BP} (h : fineB m = true) : (bBytes m).length ≤ 36 := by
  rcases fine_k h with h | h | h
  · rw [bBytes_2 h]; omega
  · rw [bBytes_1 h]; omega
  · rw [bBytes_3 h]; omega
theorem cat2 (b : List D) : cat [.l [.i 66, .i 66, .i 3], .l b] = [.i 66, .i 66, .i 3] ++ b := by simp [cat, D.list]
theorem cat_enc1 {m : BP} (h : (bBytes m).length ≤ 36) : (cat [.l [.i 66, .i 66, .i 3], .l (bBytes m)]).length ≤ 140737488355328 := by
  rw [cat2, List.length_append]
  simp only [List.length_cons, List.length_nil]
  omega
theorem bEnc_length {src : List D} {m : BP} (hl : src.length = 6) (h : (bBytes m).length ≤ 36) : (bEnc src m).length ≤ 140737488355328 := by
  simp only [bEnc, List.length_append, be_length, hl, bGrp, List.length_cons, List.length_nil]
  omega
theorem cat_enc {src : List D} {m : BP} (hl : src.length = 6) (h : (bBytes m).length ≤ 36) :
    cat [.l (bGrp.take 6), .l (src.take 6), .l ([] ++ be (IntKind.u64.wrap ((cat [.l [.i 66, .i 66, .i 3], .l (bBytes m)]).length : Int)) 2), .l (cat [.l [.i 66, .i 66, .i 3], .l (bBytes m)])] = bEnc src m := by
  have e1 : src.take 6 = src := List.take_of_length_le (by omega)
  have e2 : IntKind.u64.wrap (((cat [.l [.i 66, .i 66, .i 3], .l (bBytes m)]).length : Nat) : Int) = 3 + ((bBytes m).length : Int) := by
    rw [cat2, List.length_append, w64]
    simp only [List.length_cons, List.length_nil]
    omega
  rw [e2, e1, cat2]
  simp [cat, D.list, bEnc, bGrp]
set_option maxRecDepth 20000 in
set_option maxHeartbeats 8000000 in
theorem pok_bpdu_Encode : POK prog orc f_bpdu_Encode := by
  refine pok_of ok_bpdu_Encode mixed (by simp [ac_bpdu_Encode, acP, callsP, pok_mac_Kind, pok_bpdu_Bytes, pok_bpdu_bridges, pok_bpdu_llc, pok_slices_Concat_u8]) (by simp [ac_bpdu_Encode, acS, callsS, sok_bpdu_number]) fun args hok => ?_
  show Fits orc nt_bpdu_Encode rs_bpdu_Encode ac_bpdu_Encode args (pBpEnc args)
  unfold ac_bpdu_Encode
  unfold pBpEnc
  split
  · rename_i src k tc ack pr le fo ag ro R C B P ta tm th td
    simp only [okAs, okA, maxLen] at hok
    have hl := hok.1.1
    have hso := hok.1.2
    clear hok
    obtain ⟨X, hX, e0, e1, e2, e3, e4, e5, e6, e7, e8, e9, e10, e11, e12, e13, e14, e15⟩ := bpX k tc ack pr le fo ag ro R C B P ta tm th td
    refine ⟨fun hk => ?_, fun hk => ⟨rfl, ?_⟩⟩
    · have hk1 := single_iff.1 hk
      refine ⟨fun hf => ⟨rfl, ?_⟩, fun hf => ⟨rfl, ?_⟩⟩
      · have hfx : fineB ⟨(X.fld 0).int, (X.fld 1).bool, (X.fld 2).bool, (X.fld 3).bool, (X.fld 4).bool, (X.fld 5).bool, (X.fld 6).bool, (X.fld 7).int, ((X.fld 8).fld 0).int, ((X.fld 8).fld 1).int, ((X.fld 8).fld 2).int, ((X.fld 8).fld 3).int, ((X.fld 9).fld 0).int, ((X.fld 9).fld 1).int, ((X.fld 9).fld 2).int, ((X.fld 9).fld 3).int⟩ = true := by
          rw [e0, e1, e2, e3, e4, e5, e6, e7, e8, e9, e10, e11, e12, e13, e14, e15]; exact hf
        have hm : bBytes ⟨(X.fld 0).int, (X.fld 1).bool, (X.fld 2).bool, (X.fld 3).bool, (X.fld 4).bool, (X.fld 5).bool, (X.fld 6).bool, (X.fld 7).int, ((X.fld 8).fld 0).int, ((X.fld 8).fld 1).int, ((X.fld 8).fld 2).int, ((X.fld 8).fld 3).int, ((X.fld 9).fld 0).int, ((X.fld 9).fld 1).int, ((X.fld 9).fld 2).int, ((X.fld 9).fld 3).int⟩ = bBytes ⟨k, tc, ack, pr, le, fo, ag, ro, R, C, B, P, ta, tm, th, td⟩ := by rw [e0, e1, e2, e3, e4, e5, e6, e7, e8, e9, e10, e11, e12, e13, e14, e15]
        have hlen := bBytes_le hf
        refine st_seq (fun K1 hn1 he1 hr1 => ?_)
        repeat' (first
          | (with_reducible first | refine st_seq (fun K' hn he hr => ?_) | refine st_block (fun K' hn he hr => ?_) | refine st_region ?_ | refine st_draw ?_ | refine st_cond ?_ | refine st_skip ?_ | refine st_exit ?_ | refine st_ret ?_ | refine st_loop ?_ | refine st_op (fun G gn => ?_) | refine st_nil ?_ | refine st_gop ?_ | refine st_dop (fun G gn => ?_) | refine st_dnil ?_ | refine st_gdop ?_ | refine st_tl ?_)
          | (with_reducible refine gn _ _ ?_; clear gn G)
          | (with_reducible refine gn _ _ _ _ ?_; clear gn G)
          | (with_reducible refine Wr.mk ?_)
          | (with_reducible refine hn _ _ ?_; clear hn he hr K')
          | (with_reducible refine he _ _ _ ?_; clear hn he hr K')
          | (with_reducible refine hr _ _ ?_; clear hn he hr K')
          | ((with_reducible refine Eqn.mk (fun hq => ?_) ?_) <;> first | contradiction | skip)
          | (with_reducible refine Bo.yes (by decide) ?_)
          | (with_reducible refine Bo.no (by decide) ?_)
          | ((with_reducible refine Bo.gen (fun c hb => ?_)) <;> (try simp only [Nat.reduceAdd, toD, toDs, dInt, dBool, dStr, dList, dFs, dFld, List.getD_cons_zero, List.getD_cons_succ, Nat.zero_add, Int.reduceToNat] at hb) <;> (try simp only [cond_true, cond_false, toD, toDs, dInt, dBool, dStr, dList, dFs, dFld, List.getD_cons_zero, List.getD_cons_succ, Nat.zero_add, eqA, eqAs, decide_true, decide_false, beq_self_eq_true, Bool.not_true, Bool.not_false, Bool.and_true, Bool.true_and, Bool.and_self, cmpI, ↓reduceIte, Bool.false_eq_true, reduceCtorEq, Int.reduceEq, Int.reduceLT, Int.reduceLE] at hb) <;> first | (obtain rfl : c = true := hb) | (obtain rfl : c = false := hb) | skip)
          | ((with_reducible refine Br.cs (fun hq => ?_) (fun hq => ?_)) <;> (try simp only [cond_true, cond_false, toD, toDs, dInt, dBool, dStr, dList, dFs, dFld, List.getD_cons_zero, List.getD_cons_succ, Nat.zero_add, eqA, eqAs, decide_true, decide_false, beq_self_eq_true, Bool.not_true, Bool.not_false, Bool.and_true, Bool.true_and, Bool.and_self, cmpI, ↓reduceIte, Bool.false_eq_true, reduceCtorEq, Int.reduceEq, Int.reduceLT, Int.reduceLE] at hq) <;> first | contradiction | subst hq | skip)
          | (with_reducible refine Nd.mk trivial ?_)
          | (with_reducible refine Nd.mk (by decide) ?_)
          | (with_reducible refine Nd.mk ?_ ?_)
          | (with_reducible refine Leaf.mk rfl ?_)
          | (with_reducible refine LeafS.fin rfl ?_)
          | (with_reducible refine Fin.mk ?_ rfl)
          | (with_reducible refine Fin.mk ?_ ?_)
          | ((with_reducible refine Nx.mk ?_ ?_ ?_ ?_) <;> first | rfl | skip)
          | (conv => whnf
             first
               | (with_reducible refine gn _ _ ?_; clear gn G)
               | (with_reducible refine gn _ _ _ _ ?_; clear gn G)
               | (with_reducible refine Wr.mk ?_)
               | (with_reducible refine hn _ _ ?_; clear hn he hr K')
               | (with_reducible refine he _ _ _ ?_; clear hn he hr K')
               | (with_reducible refine hr _ _ ?_; clear hn he hr K')
               | (with_reducible refine Nd.mk trivial ?_)
               | (with_reducible refine Nd.mk (by decide) ?_)
               | (with_reducible refine Nd.mk ?_ ?_)
               | (with_reducible refine Leaf.mk rfl ?_)
               | (with_reducible refine LeafS.fin rfl ?_)
               | (with_reducible refine Fin.mk ?_ rfl)
               | (with_reducible refine Fin.mk ?_ ?_)
               | ((with_reducible refine Nx.mk ?_ ?_ ?_ ?_) <;> first | rfl | skip)
               | (with_reducible show Bo _ _)
               | (with_reducible show Br _ _ _)
               | (with_reducible show Eqn _ _ _)))
        refine hn1 _ _ ?_
        clear hn1 he1 hr1 K1
        rw [show toD (AV.st _) = X from hX]
        repeat' (first
          | (with_reducible first | refine st_seq (fun K' hn he hr => ?_) | refine st_block (fun K' hn he hr => ?_) | refine st_region ?_ | refine st_draw ?_ | refine st_cond ?_ | refine st_skip ?_ | refine st_exit ?_ | refine st_ret ?_ | refine st_loop ?_ | refine st_op (fun G gn => ?_) | refine st_nil ?_ | refine st_gop ?_ | refine st_dop (fun G gn => ?_) | refine st_dnil ?_ | refine st_gdop ?_ | refine st_tl ?_)
          | (with_reducible refine gn _ _ ?_; clear gn G)
          | (with_reducible refine gn _ _ _ _ ?_; clear gn G)
          | (with_reducible refine Wr.mk ?_)
          | (with_reducible refine hn _ _ ?_; clear hn he hr K')
          | (with_reducible refine he _ _ _ ?_; clear hn he hr K')
          | (with_reducible refine hr _ _ ?_; clear hn he hr K')
          | ((with_reducible refine Eqn.mk (fun hq => ?_) ?_) <;> first | contradiction | skip)
          | (with_reducible refine Bo.yes (by decide) ?_)
          | (with_reducible refine Bo.no (by decide) ?_)
          | ((with_reducible refine Bo.gen (fun c hb => ?_)) <;> (try simp only [Nat.reduceAdd, toD, toDs, dInt, dBool, dStr, dList, dFs, dFld, List.getD_cons_zero, List.getD_cons_succ, Nat.zero_add, Int.reduceToNat] at hb) <;> (try simp only [cond_true, cond_false, toD, toDs, dInt, dBool, dStr, dList, dFs, dFld, List.getD_cons_zero, List.getD_cons_succ, Nat.zero_add, eqA, eqAs, decide_true, decide_false, beq_self_eq_true, Bool.not_true, Bool.not_false, Bool.and_true, Bool.true_and, Bool.and_self, cmpI, ↓reduceIte, Bool.false_eq_true, reduceCtorEq, Int.reduceEq, Int.reduceLT, Int.reduceLE, hk1, hfx] at hb) <;> first | (obtain rfl : c = true := hb) | (obtain rfl : c = false := hb) | skip)
          | ((with_reducible refine Br.cs (fun hq => ?_) (fun hq => ?_)) <;> (try simp only [cond_true, cond_false, toD, toDs, dInt, dBool, dStr, dList, dFs, dFld, List.getD_cons_zero, List.getD_cons_succ, Nat.zero_add, eqA, eqAs, decide_true, decide_false, beq_self_eq_true, Bool.not_true, Bool.not_false, Bool.and_true, Bool.true_and, Bool.and_self, cmpI, ↓reduceIte, Bool.false_eq_true, reduceCtorEq, Int.reduceEq, Int.reduceLT, Int.reduceLE, hk1, hfx] at hq) <;> first | contradiction | subst hq | skip)
          | (with_reducible refine Nd.mk trivial ?_)
          | (with_reducible refine Nd.mk (by decide) ?_)
          | (with_reducible refine Nd.mk ?_ ?_)
          | (with_reducible refine Leaf.mk rfl ?_)
          | (with_reducible refine LeafS.fin rfl ?_)
          | (with_reducible refine Fin.mk ?_ rfl)
          | (with_reducible refine Fin.mk ?_ ?_)
          | ((with_reducible refine Nx.mk ?_ ?_ ?_ ?_) <;> first | rfl | skip)
          | (conv => whnf
             first
               | (with_reducible refine gn _ _ ?_; clear gn G)
               | (with_reducible refine gn _ _ _ _ ?_; clear gn G)
               | (with_reducible refine Wr.mk ?_)
               | (with_reducible refine hn _ _ ?_; clear hn he hr K')
               | (with_reducible refine he _ _ _ ?_; clear hn he hr K')
               | (with_reducible refine hr _ _ ?_; clear hn he hr K')
               | (with_reducible refine Nd.mk trivial ?_)
               | (with_reducible refine Nd.mk (by decide) ?_)
               | (with_reducible refine Nd.mk ?_ ?_)
               | (with_reducible refine Leaf.mk rfl ?_)
               | (with_reducible refine LeafS.fin rfl ?_)
               | (with_reducible refine Fin.mk ?_ rfl)
               | (with_reducible refine Fin.mk ?_ ?_)
               | ((with_reducible refine Nx.mk ?_ ?_ ?_ ?_) <;> first | rfl | skip)
               | (with_reducible show Bo _ _)
               | (with_reducible show Br _ _ _)
               | (with_reducible show Eqn _ _ _)))
        all_goals clear hfx hm e0 e1 e2 e3 e4 e5 e6 e7 e8 e9 e10 e11 e12 e13 e14 e15
        · have hc := cat_enc1 hlen
          subst hX
          exact hc
        · have hE := cat_enc hl hlen
          have hb := bEnc_length hl hlen
          subst hX
          exact Nat.le_trans (Nat.le_of_eq (congrArg List.length hE)) hb
        · have hE := cat_enc hl hlen
          subst hX
          exact congrArg (fun l => AV.tup [.sl u8 l (.own 0), .int .i64 0]) hE
        · have hE := cat_enc hl hlen
          subst hX
          exact congrArg (fun l : List D => [Blk.ext u8 l.length]) hE
      · have hfx : fineB ⟨(X.fld 0).int, (X.fld 1).bool, (X.fld 2).bool, (X.fld 3).bool, (X.fld 4).bool, (X.fld 5).bool, (X.fld 6).bool, (X.fld 7).int, ((X.fld 8).fld 0).int, ((X.fld 8).fld 1).int, ((X.fld 8).fld 2).int, ((X.fld 8).fld 3).int, ((X.fld 9).fld 0).int, ((X.fld 9).fld 1).int, ((X.fld 9).fld 2).int, ((X.fld 9).fld 3).int⟩ = false := by
          rw [e0, e1, e2, e3, e4, e5, e6, e7, e8, e9, e10, e11, e12, e13, e14, e15]; exact hf
        refine st_seq (fun K1 hn1 he1 hr1 => ?_)
        repeat' (first
          | (with_reducible first | refine st_seq (fun K' hn he hr => ?_) | refine st_block (fun K' hn he hr => ?_) | refine st_region ?_ | refine st_draw ?_ | refine st_cond ?_ | refine st_skip ?_ | refine st_exit ?_ | refine st_ret ?_ | refine st_loop ?_ | refine st_op (fun G gn => ?_) | refine st_nil ?_ | refine st_gop ?_ | refine st_dop (fun G gn => ?_) | refine st_dnil ?_ | refine st_gdop ?_ | refine st_tl ?_)
          | (with_reducible refine gn _ _ ?_; clear gn G)
          | (with_reducible refine gn _ _ _ _ ?_; clear gn G)
          | (with_reducible refine Wr.mk ?_)
          | (with_reducible refine hn _ _ ?_; clear hn he hr K')
          | (with_reducible refine he _ _ _ ?_; clear hn he hr K')
          | (with_reducible refine hr _ _ ?_; clear hn he hr K')
          | ((with_reducible refine Eqn.mk (fun hq => ?_) ?_) <;> first | contradiction | skip)
          | (with_reducible refine Bo.yes (by decide) ?_)
          | (with_reducible refine Bo.no (by decide) ?_)
          | ((with_reducible refine Bo.gen (fun c hb => ?_)) <;> (try simp only [Nat.reduceAdd, toD, toDs, dInt, dBool, dStr, dList, dFs, dFld, List.getD_cons_zero, List.getD_cons_succ, Nat.zero_add, Int.reduceToNat] at hb) <;> (try simp only [cond_true, cond_false, toD, toDs, dInt, dBool, dStr, dList, dFs, dFld, List.getD_cons_zero, List.getD_cons_succ, Nat.zero_add, eqA, eqAs, decide_true, decide_false, beq_self_eq_true, Bool.not_true, Bool.not_false, Bool.and_true, Bool.true_and, Bool.and_self, cmpI, ↓reduceIte, Bool.false_eq_true, reduceCtorEq, Int.reduceEq, Int.reduceLT, Int.reduceLE] at hb) <;> first | (obtain rfl : c = true := hb) | (obtain rfl : c = false := hb) | skip)
          | ((with_reducible refine Br.cs (fun hq => ?_) (fun hq => ?_)) <;> (try simp only [cond_true, cond_false, toD, toDs, dInt, dBool, dStr, dList, dFs, dFld, List.getD_cons_zero, List.getD_cons_succ, Nat.zero_add, eqA, eqAs, decide_true, decide_false, beq_self_eq_true, Bool.not_true, Bool.not_false, Bool.and_true, Bool.true_and, Bool.and_self, cmpI, ↓reduceIte, Bool.false_eq_true, reduceCtorEq, Int.reduceEq, Int.reduceLT, Int.reduceLE] at hq) <;> first | contradiction | subst hq | skip)
          | (with_reducible refine Nd.mk trivial ?_)
          | (with_reducible refine Nd.mk (by decide) ?_)
          | (with_reducible refine Nd.mk ?_ ?_)
          | (with_reducible refine Leaf.mk rfl ?_)
          | (with_reducible refine LeafS.fin rfl ?_)
          | (with_reducible refine Fin.mk ?_ rfl)
          | (with_reducible refine Fin.mk ?_ ?_)
          | ((with_reducible refine Nx.mk ?_ ?_ ?_ ?_) <;> first | rfl | skip)
          | (conv => whnf
             first
               | (with_reducible refine gn _ _ ?_; clear gn G)
               | (with_reducible refine gn _ _ _ _ ?_; clear gn G)
               | (with_reducible refine Wr.mk ?_)
               | (with_reducible refine hn _ _ ?_; clear hn he hr K')
               | (with_reducible refine he _ _ _ ?_; clear hn he hr K')
               | (with_reducible refine hr _ _ ?_; clear hn he hr K')
               | (with_reducible refine Nd.mk trivial ?_)
               | (with_reducible refine Nd.mk (by decide) ?_)
               | (with_reducible refine Nd.mk ?_ ?_)
               | (with_reducible refine Leaf.mk rfl ?_)
               | (with_reducible refine LeafS.fin rfl ?_)
               | (with_reducible refine Fin.mk ?_ rfl)
               | (with_reducible refine Fin.mk ?_ ?_)
               | ((with_reducible refine Nx.mk ?_ ?_ ?_ ?_) <;> first | rfl | skip)
               | (with_reducible show Bo _ _)
               | (with_reducible show Br _ _ _)
               | (with_reducible show Eqn _ _ _)))
        refine hn1 _ _ ?_
        clear hn1 he1 hr1 K1
        rw [show toD (AV.st _) = X from hX]
        repeat' (first
          | (with_reducible first | refine st_seq (fun K' hn he hr => ?_) | refine st_block (fun K' hn he hr => ?_) | refine st_region ?_ | refine st_draw ?_ | refine st_cond ?_ | refine st_skip ?_ | refine st_exit ?_ | refine st_ret ?_ | refine st_loop ?_ | refine st_op (fun G gn => ?_) | refine st_nil ?_ | refine st_gop ?_ | refine st_dop (fun G gn => ?_) | refine st_dnil ?_ | refine st_gdop ?_ | refine st_tl ?_)
          | (with_reducible refine gn _ _ ?_; clear gn G)
          | (with_reducible refine gn _ _ _ _ ?_; clear gn G)
          | (with_reducible refine Wr.mk ?_)
          | (with_reducible refine hn _ _ ?_; clear hn he hr K')
          | (with_reducible refine he _ _ _ ?_; clear hn he hr K')
          | (with_reducible refine hr _ _ ?_; clear hn he hr K')
          | ((with_reducible refine Eqn.mk (fun hq => ?_) ?_) <;> first | contradiction | skip)
          | (with_reducible refine Bo.yes (by decide) ?_)
          | (with_reducible refine Bo.no (by decide) ?_)
          | ((with_reducible refine Bo.gen (fun c hb => ?_)) <;> (try simp only [Nat.reduceAdd, toD, toDs, dInt, dBool, dStr, dList, dFs, dFld, List.getD_cons_zero, List.getD_cons_succ, Nat.zero_add, Int.reduceToNat] at hb) <;> (try simp only [cond_true, cond_false, toD, toDs, dInt, dBool, dStr, dList, dFs, dFld, List.getD_cons_zero, List.getD_cons_succ, Nat.zero_add, eqA, eqAs, decide_true, decide_false, beq_self_eq_true, Bool.not_true, Bool.not_false, Bool.and_true, Bool.true_and, Bool.and_self, cmpI, ↓reduceIte, Bool.false_eq_true, reduceCtorEq, Int.reduceEq, Int.reduceLT, Int.reduceLE, hk1, hfx] at hb) <;> first | (obtain rfl : c = true := hb) | (obtain rfl : c = false := hb) | skip)
          | ((with_reducible refine Br.cs (fun hq => ?_) (fun hq => ?_)) <;> (try simp only [cond_true, cond_false, toD, toDs, dInt, dBool, dStr, dList, dFs, dFld, List.getD_cons_zero, List.getD_cons_succ, Nat.zero_add, eqA, eqAs, decide_true, decide_false, beq_self_eq_true, Bool.not_true, Bool.not_false, Bool.and_true, Bool.true_and, Bool.and_self, cmpI, ↓reduceIte, Bool.false_eq_true, reduceCtorEq, Int.reduceEq, Int.reduceLT, Int.reduceLE, hk1, hfx] at hq) <;> first | contradiction | subst hq | skip)
          | (with_reducible refine Nd.mk trivial ?_)
          | (with_reducible refine Nd.mk (by decide) ?_)
          | (with_reducible refine Nd.mk ?_ ?_)
          | (with_reducible refine Leaf.mk rfl ?_)
          | (with_reducible refine LeafS.fin rfl ?_)
          | (with_reducible refine Fin.mk ?_ rfl)
          | (with_reducible refine Fin.mk ?_ ?_)
          | ((with_reducible refine Nx.mk ?_ ?_ ?_ ?_) <;> first | rfl | skip)
          | (conv => whnf
             first
               | (with_reducible refine gn _ _ ?_; clear gn G)
               | (with_reducible refine gn _ _ _ _ ?_; clear gn G)
               | (with_reducible refine Wr.mk ?_)
               | (with_reducible refine hn _ _ ?_; clear hn he hr K')
               | (with_reducible refine he _ _ _ ?_; clear hn he hr K')
               | (with_reducible refine hr _ _ ?_; clear hn he hr K')
               | (with_reducible refine Nd.mk trivial ?_)
               | (with_reducible refine Nd.mk (by decide) ?_)
               | (with_reducible refine Nd.mk ?_ ?_)
               | (with_reducible refine Leaf.mk rfl ?_)
               | (with_reducible refine LeafS.fin rfl ?_)
               | (with_reducible refine Fin.mk ?_ rfl)
               | (with_reducible refine Fin.mk ?_ ?_)
               | ((with_reducible refine Nx.mk ?_ ?_ ?_ ?_) <;> first | rfl | skip)
               | (with_reducible show Bo _ _)
               | (with_reducible show Br _ _ _)
               | (with_reducible show Eqn _ _ _)))
        all_goals (try simp only [hfx] at *)
        all_goals first | rfl
    · have hk1 : ¬ macKind src = 1 := fun h => by rw [single_iff.2 h] at hk; cases hk
      refine st_seq (fun K1 hn1 he1 hr1 => ?_)
      repeat' (first
        | (with_reducible first | refine st_seq (fun K' hn he hr => ?_) | refine st_block (fun K' hn he hr => ?_) | refine st_region ?_ | refine st_draw ?_ | refine st_cond ?_ | refine st_skip ?_ | refine st_exit ?_ | refine st_ret ?_ | refine st_loop ?_ | refine st_op (fun G gn => ?_) | refine st_nil ?_ | refine st_gop ?_ | refine st_dop (fun G gn => ?_) | refine st_dnil ?_ | refine st_gdop ?_ | refine st_tl ?_)
        | (with_reducible refine gn _ _ ?_; clear gn G)
        | (with_reducible refine gn _ _ _ _ ?_; clear gn G)
        | (with_reducible refine Wr.mk ?_)
        | (with_reducible refine hn _ _ ?_; clear hn he hr K')
        | (with_reducible refine he _ _ _ ?_; clear hn he hr K')
        | (with_reducible refine hr _ _ ?_; clear hn he hr K')
        | ((with_reducible refine Eqn.mk (fun hq => ?_) ?_) <;> first | contradiction | skip)
        | (with_reducible refine Bo.yes (by decide) ?_)
        | (with_reducible refine Bo.no (by decide) ?_)
        | ((with_reducible refine Bo.gen (fun c hb => ?_)) <;> (try simp only [Nat.reduceAdd, toD, toDs, dInt, dBool, dStr, dList, dFs, dFld, List.getD_cons_zero, List.getD_cons_succ, Nat.zero_add, Int.reduceToNat] at hb) <;> (try simp only [cond_true, cond_false, toD, toDs, dInt, dBool, dStr, dList, dFs, dFld, List.getD_cons_zero, List.getD_cons_succ, Nat.zero_add, eqA, eqAs, decide_true, decide_false, beq_self_eq_true, Bool.not_true, Bool.not_false, Bool.and_true, Bool.true_and, Bool.and_self, cmpI, ↓reduceIte, Bool.false_eq_true, reduceCtorEq, Int.reduceEq, Int.reduceLT, Int.reduceLE] at hb) <;> first | (obtain rfl : c = true := hb) | (obtain rfl : c = false := hb) | skip)
        | ((with_reducible refine Br.cs (fun hq => ?_) (fun hq => ?_)) <;> (try simp only [cond_true, cond_false, toD, toDs, dInt, dBool, dStr, dList, dFs, dFld, List.getD_cons_zero, List.getD_cons_succ, Nat.zero_add, eqA, eqAs, decide_true, decide_false, beq_self_eq_true, Bool.not_true, Bool.not_false, Bool.and_true, Bool.true_and, Bool.and_self, cmpI, ↓reduceIte, Bool.false_eq_true, reduceCtorEq, Int.reduceEq, Int.reduceLT, Int.reduceLE] at hq) <;> first | contradiction | subst hq | skip)
        | (with_reducible refine Nd.mk trivial ?_)
        | (with_reducible refine Nd.mk (by decide) ?_)
        | (with_reducible refine Nd.mk ?_ ?_)
        | (with_reducible refine Leaf.mk rfl ?_)
        | (with_reducible refine LeafS.fin rfl ?_)
        | (with_reducible refine Fin.mk ?_ rfl)
        | (with_reducible refine Fin.mk ?_ ?_)
        | ((with_reducible refine Nx.mk ?_ ?_ ?_ ?_) <;> first | rfl | skip)
        | (conv => whnf
           first
             | (with_reducible refine gn _ _ ?_; clear gn G)
             | (with_reducible refine gn _ _ _ _ ?_; clear gn G)
             | (with_reducible refine Wr.mk ?_)
             | (with_reducible refine hn _ _ ?_; clear hn he hr K')
             | (with_reducible refine he _ _ _ ?_; clear hn he hr K')
             | (with_reducible refine hr _ _ ?_; clear hn he hr K')
             | (with_reducible refine Nd.mk trivial ?_)
             | (with_reducible refine Nd.mk (by decide) ?_)
             | (with_reducible refine Nd.mk ?_ ?_)
             | (with_reducible refine Leaf.mk rfl ?_)
             | (with_reducible refine LeafS.fin rfl ?_)
             | (with_reducible refine Fin.mk ?_ rfl)
             | (with_reducible refine Fin.mk ?_ ?_)
             | ((with_reducible refine Nx.mk ?_ ?_ ?_ ?_) <;> first | rfl | skip)
             | (with_reducible show Bo _ _)
             | (with_reducible show Br _ _ _)
             | (with_reducible show Eqn _ _ _)))
      refine hn1 _ _ ?_
      clear hn1 he1 hr1 K1
      rw [show toD (AV.st _) = X from hX]
      repeat' (first
        | (with_reducible first | refine st_seq (fun K' hn he hr => ?_) | refine st_block (fun K' hn he hr => ?_) | refine st_region ?_ | refine st_draw ?_ | refine st_cond ?_ | refine st_skip ?_ | refine st_exit ?_ | refine st_ret ?_ | refine st_loop ?_ | refine st_op (fun G gn => ?_) | refine st_nil ?_ | refine st_gop ?_ | refine st_dop (fun G gn => ?_) | refine st_dnil ?_ | refine st_gdop ?_ | refine st_tl ?_)
        | (with_reducible refine gn _ _ ?_; clear gn G)
        | (with_reducible refine gn _ _ _ _ ?_; clear gn G)
        | (with_reducible refine Wr.mk ?_)
        | (with_reducible refine hn _ _ ?_; clear hn he hr K')
        | (with_reducible refine he _ _ _ ?_; clear hn he hr K')
        | (with_reducible refine hr _ _ ?_; clear hn he hr K')
        | ((with_reducible refine Eqn.mk (fun hq => ?_) ?_) <;> first | contradiction | skip)
        | (with_reducible refine Bo.yes (by decide) ?_)
        | (with_reducible refine Bo.no (by decide) ?_)
        | ((with_reducible refine Bo.gen (fun c hb => ?_)) <;> (try simp only [Nat.reduceAdd, toD, toDs, dInt, dBool, dStr, dList, dFs, dFld, List.getD_cons_zero, List.getD_cons_succ, Nat.zero_add, Int.reduceToNat] at hb) <;> (try simp only [cond_true, cond_false, toD, toDs, dInt, dBool, dStr, dList, dFs, dFld, List.getD_cons_zero, List.getD_cons_succ, Nat.zero_add, eqA, eqAs, decide_true, decide_false, beq_self_eq_true, Bool.not_true, Bool.not_false, Bool.and_true, Bool.true_and, Bool.and_self, cmpI, ↓reduceIte, Bool.false_eq_true, reduceCtorEq, Int.reduceEq, Int.reduceLT, Int.reduceLE, hk1] at hb) <;> first | (obtain rfl : c = true := hb) | (obtain rfl : c = false := hb) | skip)
        | ((with_reducible refine Br.cs (fun hq => ?_) (fun hq => ?_)) <;> (try simp only [cond_true, cond_false, toD, toDs, dInt, dBool, dStr, dList, dFs, dFld, List.getD_cons_zero, List.getD_cons_succ, Nat.zero_add, eqA, eqAs, decide_true, decide_false, beq_self_eq_true, Bool.not_true, Bool.not_false, Bool.and_true, Bool.true_and, Bool.and_self, cmpI, ↓reduceIte, Bool.false_eq_true, reduceCtorEq, Int.reduceEq, Int.reduceLT, Int.reduceLE, hk1] at hq) <;> first | contradiction | subst hq | skip)
        | (with_reducible refine Nd.mk trivial ?_)
        | (with_reducible refine Nd.mk (by decide) ?_)
        | (with_reducible refine Nd.mk ?_ ?_)
        | (with_reducible refine Leaf.mk rfl ?_)
        | (with_reducible refine LeafS.fin rfl ?_)
        | (with_reducible refine Fin.mk ?_ rfl)
        | (with_reducible refine Fin.mk ?_ ?_)
        | ((with_reducible refine Nx.mk ?_ ?_ ?_ ?_) <;> first | rfl | skip)
        | (conv => whnf
           first
             | (with_reducible refine gn _ _ ?_; clear gn G)
             | (with_reducible refine gn _ _ _ _ ?_; clear gn G)
             | (with_reducible refine Wr.mk ?_)
             | (with_reducible refine hn _ _ ?_; clear hn he hr K')
             | (with_reducible refine he _ _ _ ?_; clear hn he hr K')
             | (with_reducible refine hr _ _ ?_; clear hn he hr K')
             | (with_reducible refine Nd.mk trivial ?_)
             | (with_reducible refine Nd.mk (by decide) ?_)
             | (with_reducible refine Nd.mk ?_ ?_)
             | (with_reducible refine Leaf.mk rfl ?_)
             | (with_reducible refine LeafS.fin rfl ?_)
             | (with_reducible refine Fin.mk ?_ rfl)
             | (with_reducible refine Fin.mk ?_ ?_)
             | ((with_reducible refine Nx.mk ?_ ?_ ?_ ?_) <;> first | rfl | skip)
             | (with_reducible show Bo _ _)
             | (with_reducible show Br _ _ _)
             | (with_reducible show Eqn _ _ _)))
      all_goals first | rfl
  · trivial
end Go.Vc.Seat
