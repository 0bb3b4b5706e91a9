/- A part of the proof of the seat's laws: PfTag6. It states no claim by itself. -/
import Derived.Test.YtgcakbnkeiajeaaPfTag5
set_option linter.unusedVariables false
set_option linter.unusedSimpArgs false
namespace Go.Vc.Seat
open Go.Vc Go.Proofs.Try

def raw2 (xs : List D) : Int := IntKind.i64.wrap (IntKind.i64.wrap (IntKind.i64.wrap (xs.getD 0 (.i 0)).int * 256) + IntKind.i64.wrap (xs.getD 1 (.i 0)).int)
theorem raw2_eq {xs : List D} (h0 : 0 ≤ ato xs 0 ∧ ato xs 0 ≤ 255) (h1 : 0 ≤ ato xs 1 ∧ ato xs 1 ≤ 255) : raw2 xs = ato xs 0 * 256 + ato xs 1 := by
  unfold raw2
  unfold ato at h0 h1 ⊢
  simp only [wi64]; omega
theorem pok_r02_Take : POK prog orc f_r02_Take := by
  refine pok_of ok_r02_Take mixed (by simp [ac_r02_Take, acP, callsP, pok_r02_Is]) (by simp [ac_r02_Take, acS, callsS]) fun args hok => ?_
  show Fits orc nt_r02_Take rs_r02_Take ac_r02_Take args (pTake args)
  unfold ac_r02_Take
  unfold pTake
  split
  · rename_i xs
    simp only [okAs, okA, maxLen] at hok
    have h0 := ato_le hok.1.2 0
    have h1 := ato_le hok.1.2 1
    have e0 := raw2_eq h0 h1
    have e1 : IntKind.i64.wrap ((raw2 xs).tdiv 8192) = (ato xs 0 * 256 + ato xs 1) / 8192 := by
      rw [e0, Int.tdiv_eq_ediv_of_nonneg (by omega), wi64_in (by omega) (by omega)]
    have e2 : (raw2 xs).tmod 4096 = (ato xs 0 * 256 + ato xs 1) % 4096 := by
      rw [e0, Int.tmod_eq_emod_of_nonneg (by omega)]
    have e3 : (IntKind.i64.wrap ((raw2 xs).tdiv 4096)).tmod 2 = (ato xs 0 * 256 + ato xs 1) / 4096 % 2 := by
      rw [e0, Int.tdiv_eq_ediv_of_nonneg (by omega), wi64_in (by omega) (by omega), Int.tmod_eq_emod_of_nonneg (by omega)]
    refine ⟨fun h => ⟨rfl, ?_⟩, fun h => ?_⟩
    all_goals simp only [decide_eq_true_eq, decide_eq_false_iff_not] at h
    · have hl : (xs.length : Int) < 2 := by omega
      repeat' (first
        | (with_reducible refine st_seq (fun K' hn he hr => ?_)) | (with_reducible refine st_block (fun K' hn he hr => ?_)) | (with_reducible refine st_region ?_) | (with_reducible refine st_draw ?_) | (with_reducible refine st_cond ?_) | (with_reducible refine st_skip ?_) | (with_reducible refine st_exit ?_) | (with_reducible refine st_ret ?_) | (with_reducible refine st_loop ?_)
        | (with_reducible refine st_op (fun G gn => ?_)) | (with_reducible refine st_nil ?_) | (with_reducible refine st_gop ?_) | (with_reducible refine st_dop (fun G gn => ?_)) | (with_reducible refine st_dnil ?_) | (with_reducible refine st_gdop ?_) | (with_reducible refine st_tl ?_)
        | (with_reducible refine gn _ _ ?_; clear gn G)
        | (with_reducible refine gn _ _ _ _ ?_; clear gn G)
        | (with_reducible refine Wr.mk ?_)
        | (with_reducible refine hn _ _ ?_; clear hn he hr K')
        | (with_reducible refine he _ _ _ ?_; clear hn he hr K')
        | (with_reducible refine hr _ _ ?_; clear hn he hr K')
        | ((with_reducible refine Eqn.mk (fun hq => ?_) ?_) <;> first | contradiction | skip)
        | (with_reducible refine Bo.yes (by decide) ?_)
        | (with_reducible refine Bo.no (by decide) ?_)
        | ((with_reducible refine Bo.gen (fun c hb => ?_)) <;> (try simp only [cond_true, cond_false, toD, toDs, dInt, dBool, dStr, dList, dFs, dFld, List.getD_cons_zero, List.getD_cons_succ, Nat.zero_add, eqA, eqAs, decide_true, decide_false, beq_self_eq_true, Bool.not_true, Bool.not_false, Bool.and_true, Bool.true_and, Bool.and_self, cmpI, ↓reduceIte, Bool.false_eq_true, reduceCtorEq, Int.reduceEq, Int.reduceLT, Int.reduceLE, hl] at hb) <;> first | (obtain rfl : c = true := hb) | (obtain rfl : c = false := hb) | skip)
        | ((with_reducible refine Br.cs (fun hq => ?_) (fun hq => ?_)) <;> (try simp only [cond_true, cond_false, toD, toDs, dInt, dBool, dStr, dList, dFs, dFld, List.getD_cons_zero, List.getD_cons_succ, Nat.zero_add, eqA, eqAs, decide_true, decide_false, beq_self_eq_true, Bool.not_true, Bool.not_false, Bool.and_true, Bool.true_and, Bool.and_self, cmpI, ↓reduceIte, Bool.false_eq_true, reduceCtorEq, Int.reduceEq, Int.reduceLT, Int.reduceLE, hl] at hq) <;> first | contradiction | subst hq | skip)
        | (with_reducible refine Nd.mk trivial ?_)
        | (with_reducible refine Nd.mk (by decide) ?_)
        | (with_reducible refine Nd.mk ?_ ?_)
        | (with_reducible refine Leaf.mk rfl ?_)
        | (with_reducible refine LeafS.fin rfl ?_)
        | (with_reducible refine Fin.mk ?_ rfl)
        | (with_reducible refine Fin.mk ?_ ?_)
        | ((with_reducible refine Nx.mk ?_ ?_ ?_ ?_) <;> first | rfl | skip)
        | (conv => whnf
           first
             | (with_reducible refine gn _ _ ?_; clear gn G)
             | (with_reducible refine gn _ _ _ _ ?_; clear gn G)
             | (with_reducible refine Wr.mk ?_)
             | (with_reducible refine hn _ _ ?_; clear hn he hr K')
             | (with_reducible refine he _ _ _ ?_; clear hn he hr K')
             | (with_reducible refine hr _ _ ?_; clear hn he hr K')
             | ((with_reducible refine Eqn.mk (fun hq => ?_) ?_) <;> first | contradiction | skip)
             | (with_reducible refine Bo.yes (by decide) ?_)
             | (with_reducible refine Bo.no (by decide) ?_)
             | ((with_reducible refine Bo.gen (fun c hb => ?_)) <;> (try simp only [cond_true, cond_false, toD, toDs, dInt, dBool, dStr, dList, dFs, dFld, List.getD_cons_zero, List.getD_cons_succ, Nat.zero_add, eqA, eqAs, decide_true, decide_false, beq_self_eq_true, Bool.not_true, Bool.not_false, Bool.and_true, Bool.true_and, Bool.and_self, cmpI, ↓reduceIte, Bool.false_eq_true, reduceCtorEq, Int.reduceEq, Int.reduceLT, Int.reduceLE, hl] at hb) <;> first | (obtain rfl : c = true := hb) | (obtain rfl : c = false := hb) | skip)
             | ((with_reducible refine Br.cs (fun hq => ?_) (fun hq => ?_)) <;> (try simp only [cond_true, cond_false, toD, toDs, dInt, dBool, dStr, dList, dFs, dFld, List.getD_cons_zero, List.getD_cons_succ, Nat.zero_add, eqA, eqAs, decide_true, decide_false, beq_self_eq_true, Bool.not_true, Bool.not_false, Bool.and_true, Bool.true_and, Bool.and_self, cmpI, ↓reduceIte, Bool.false_eq_true, reduceCtorEq, Int.reduceEq, Int.reduceLT, Int.reduceLE, hl] at hq) <;> first | contradiction | subst hq | skip)
             | (with_reducible refine Nd.mk trivial ?_)
             | (with_reducible refine Nd.mk (by decide) ?_)
             | (with_reducible refine Nd.mk ?_ ?_)
             | (with_reducible refine Leaf.mk rfl ?_)
             | (with_reducible refine LeafS.fin rfl ?_)
             | (with_reducible refine Fin.mk ?_ rfl)
             | (with_reducible refine Fin.mk ?_ ?_)
             | ((with_reducible refine Nx.mk ?_ ?_ ?_ ?_) <;> first | rfl | skip)))
      all_goals (try simp only [toD, toDs, dInt, dBool, dStr, dList, dFs, dFld, List.getD_cons_zero, List.getD_cons_succ, Nat.zero_add, Int.reduceToNat, Nat.reduceAdd, setPartsD, zeroDs, List.replicate, List.set_cons_zero, List.set_cons_succ, zeroD, Nat.reduceMul, Nat.reducePow, Int.reducePow, Int.reduceMul, Nat.min_def, IntKind.bits, Nat.reduceLeDiff, ct_eq, cf_eq, ct_ne, cf_ne, ct_lt, cf_lt, ct_le, cf_le, ct_gt, cf_gt, ct_ge, cf_ge, ct_not, cf_not, ct_and, cf_and, ct_dec, cf_dec, cond_true, cond_false, i_nil, Int.toNat_natCast, Nat.sub_zero, List.drop_zero, ↓reduceIte, Bool.false_eq_true, Int.sub_zero, Int.add_zero] at *)
      all_goals first | contradiction | (exfalso; omega) | (exfalso; simp_all only [Bool.false_eq_true, reduceCtorEq]; done) | skip
      rfl
    · have hl : ¬ (xs.length : Int) < 2 := by omega
      rw [← e1, ← e2, ← e3]
      refine ⟨fun ht hc => ⟨rfl, ?_⟩, fun ht => ⟨rfl, ?_⟩⟩
      · unfold raw2 at ht ⊢
        repeat' (first
          | (with_reducible refine st_seq (fun K' hn he hr => ?_)) | (with_reducible refine st_block (fun K' hn he hr => ?_)) | (with_reducible refine st_region ?_) | (with_reducible refine st_draw ?_) | (with_reducible refine st_cond ?_) | (with_reducible refine st_skip ?_) | (with_reducible refine st_exit ?_) | (with_reducible refine st_ret ?_) | (with_reducible refine st_loop ?_)
          | (with_reducible refine st_op (fun G gn => ?_)) | (with_reducible refine st_nil ?_) | (with_reducible refine st_gop ?_) | (with_reducible refine st_dop (fun G gn => ?_)) | (with_reducible refine st_dnil ?_) | (with_reducible refine st_gdop ?_) | (with_reducible refine st_tl ?_)
          | (with_reducible refine gn _ _ ?_; clear gn G)
          | (with_reducible refine gn _ _ _ _ ?_; clear gn G)
          | (with_reducible refine Wr.mk ?_)
          | (with_reducible refine hn _ _ ?_; clear hn he hr K')
          | (with_reducible refine he _ _ _ ?_; clear hn he hr K')
          | (with_reducible refine hr _ _ ?_; clear hn he hr K')
          | ((with_reducible refine Eqn.mk (fun hq => ?_) ?_) <;> first | contradiction | skip)
          | (with_reducible refine Bo.yes (by decide) ?_)
          | (with_reducible refine Bo.no (by decide) ?_)
          | ((with_reducible refine Bo.gen (fun c hb => ?_)) <;> (try simp only [cond_true, cond_false, toD, toDs, dInt, dBool, dStr, dList, dFs, dFld, List.getD_cons_zero, List.getD_cons_succ, Nat.zero_add, eqA, eqAs, decide_true, decide_false, beq_self_eq_true, Bool.not_true, Bool.not_false, Bool.and_true, Bool.true_and, Bool.and_self, cmpI, ↓reduceIte, Bool.false_eq_true, reduceCtorEq, Int.reduceEq, Int.reduceLT, Int.reduceLE, hl, ht] at hb) <;> first | (obtain rfl : c = true := hb) | (obtain rfl : c = false := hb) | skip)
          | ((with_reducible refine Br.cs (fun hq => ?_) (fun hq => ?_)) <;> (try simp only [cond_true, cond_false, toD, toDs, dInt, dBool, dStr, dList, dFs, dFld, List.getD_cons_zero, List.getD_cons_succ, Nat.zero_add, eqA, eqAs, decide_true, decide_false, beq_self_eq_true, Bool.not_true, Bool.not_false, Bool.and_true, Bool.true_and, Bool.and_self, cmpI, ↓reduceIte, Bool.false_eq_true, reduceCtorEq, Int.reduceEq, Int.reduceLT, Int.reduceLE, hl, ht] at hq) <;> first | contradiction | subst hq | skip)
          | (with_reducible refine Nd.mk trivial ?_)
          | (with_reducible refine Nd.mk (by decide) ?_)
          | (with_reducible refine Nd.mk ?_ ?_)
          | (with_reducible refine Leaf.mk rfl ?_)
          | (with_reducible refine LeafS.fin rfl ?_)
          | (with_reducible refine Fin.mk ?_ rfl)
          | (with_reducible refine Fin.mk ?_ ?_)
          | ((with_reducible refine Nx.mk ?_ ?_ ?_ ?_) <;> first | rfl | skip)
          | (conv => whnf
             first
               | (with_reducible refine gn _ _ ?_; clear gn G)
               | (with_reducible refine gn _ _ _ _ ?_; clear gn G)
               | (with_reducible refine Wr.mk ?_)
               | (with_reducible refine hn _ _ ?_; clear hn he hr K')
               | (with_reducible refine he _ _ _ ?_; clear hn he hr K')
               | (with_reducible refine hr _ _ ?_; clear hn he hr K')
               | ((with_reducible refine Eqn.mk (fun hq => ?_) ?_) <;> first | contradiction | skip)
               | (with_reducible refine Bo.yes (by decide) ?_)
               | (with_reducible refine Bo.no (by decide) ?_)
               | ((with_reducible refine Bo.gen (fun c hb => ?_)) <;> (try simp only [cond_true, cond_false, toD, toDs, dInt, dBool, dStr, dList, dFs, dFld, List.getD_cons_zero, List.getD_cons_succ, Nat.zero_add, eqA, eqAs, decide_true, decide_false, beq_self_eq_true, Bool.not_true, Bool.not_false, Bool.and_true, Bool.true_and, Bool.and_self, cmpI, ↓reduceIte, Bool.false_eq_true, reduceCtorEq, Int.reduceEq, Int.reduceLT, Int.reduceLE, hl, ht] at hb) <;> first | (obtain rfl : c = true := hb) | (obtain rfl : c = false := hb) | skip)
               | ((with_reducible refine Br.cs (fun hq => ?_) (fun hq => ?_)) <;> (try simp only [cond_true, cond_false, toD, toDs, dInt, dBool, dStr, dList, dFs, dFld, List.getD_cons_zero, List.getD_cons_succ, Nat.zero_add, eqA, eqAs, decide_true, decide_false, beq_self_eq_true, Bool.not_true, Bool.not_false, Bool.and_true, Bool.true_and, Bool.and_self, cmpI, ↓reduceIte, Bool.false_eq_true, reduceCtorEq, Int.reduceEq, Int.reduceLT, Int.reduceLE, hl, ht] at hq) <;> first | contradiction | subst hq | skip)
               | (with_reducible refine Nd.mk trivial ?_)
               | (with_reducible refine Nd.mk (by decide) ?_)
               | (with_reducible refine Nd.mk ?_ ?_)
               | (with_reducible refine Leaf.mk rfl ?_)
               | (with_reducible refine LeafS.fin rfl ?_)
               | (with_reducible refine Fin.mk ?_ rfl)
               | (with_reducible refine Fin.mk ?_ ?_)
               | ((with_reducible refine Nx.mk ?_ ?_ ?_ ?_) <;> first | rfl | skip)))
        all_goals (try simp only [toD, toDs, dInt, dBool, dStr, dList, dFs, dFld, List.getD_cons_zero, List.getD_cons_succ, Nat.zero_add, Int.reduceToNat, Nat.reduceAdd, setPartsD, zeroDs, List.replicate, List.set_cons_zero, List.set_cons_succ, zeroD, Nat.reduceMul, Nat.reducePow, Int.reducePow, Int.reduceMul, Nat.min_def, IntKind.bits, Nat.reduceLeDiff, ct_eq, cf_eq, ct_ne, cf_ne, ct_lt, cf_lt, ct_le, cf_le, ct_gt, cf_gt, ct_ge, cf_ge, ct_not, cf_not, ct_and, cf_and, ct_dec, cf_dec, cond_true, cond_false, i_nil, Int.toNat_natCast, Nat.sub_zero, List.drop_zero, ↓reduceIte, Bool.false_eq_true, Int.sub_zero, Int.add_zero] at *)
        all_goals first | contradiction | (exfalso; omega) | (exfalso; simp_all only [Bool.false_eq_true, reduceCtorEq]; done) | skip
        · omega
        · omega
        · unfold cutOK; omega
        · refine ⟨.inl rfl, ?_⟩
          simp [roomy]; omega
        · subst_vars
          rw [take_drop_all]
          rfl
        · rw [take_drop_all]; simp
      · unfold raw2 at ht
        repeat' (first
          | (with_reducible refine st_seq (fun K' hn he hr => ?_)) | (with_reducible refine st_block (fun K' hn he hr => ?_)) | (with_reducible refine st_region ?_) | (with_reducible refine st_draw ?_) | (with_reducible refine st_cond ?_) | (with_reducible refine st_skip ?_) | (with_reducible refine st_exit ?_) | (with_reducible refine st_ret ?_) | (with_reducible refine st_loop ?_)
          | (with_reducible refine st_op (fun G gn => ?_)) | (with_reducible refine st_nil ?_) | (with_reducible refine st_gop ?_) | (with_reducible refine st_dop (fun G gn => ?_)) | (with_reducible refine st_dnil ?_) | (with_reducible refine st_gdop ?_) | (with_reducible refine st_tl ?_)
          | (with_reducible refine gn _ _ ?_; clear gn G)
          | (with_reducible refine gn _ _ _ _ ?_; clear gn G)
          | (with_reducible refine Wr.mk ?_)
          | (with_reducible refine hn _ _ ?_; clear hn he hr K')
          | (with_reducible refine he _ _ _ ?_; clear hn he hr K')
          | (with_reducible refine hr _ _ ?_; clear hn he hr K')
          | ((with_reducible refine Eqn.mk (fun hq => ?_) ?_) <;> first | contradiction | skip)
          | (with_reducible refine Bo.yes (by decide) ?_)
          | (with_reducible refine Bo.no (by decide) ?_)
          | ((with_reducible refine Bo.gen (fun c hb => ?_)) <;> (try simp only [cond_true, cond_false, toD, toDs, dInt, dBool, dStr, dList, dFs, dFld, List.getD_cons_zero, List.getD_cons_succ, Nat.zero_add, eqA, eqAs, decide_true, decide_false, beq_self_eq_true, Bool.not_true, Bool.not_false, Bool.and_true, Bool.true_and, Bool.and_self, cmpI, ↓reduceIte, Bool.false_eq_true, reduceCtorEq, Int.reduceEq, Int.reduceLT, Int.reduceLE, hl, ht] at hb) <;> first | (obtain rfl : c = true := hb) | (obtain rfl : c = false := hb) | skip)
          | ((with_reducible refine Br.cs (fun hq => ?_) (fun hq => ?_)) <;> (try simp only [cond_true, cond_false, toD, toDs, dInt, dBool, dStr, dList, dFs, dFld, List.getD_cons_zero, List.getD_cons_succ, Nat.zero_add, eqA, eqAs, decide_true, decide_false, beq_self_eq_true, Bool.not_true, Bool.not_false, Bool.and_true, Bool.true_and, Bool.and_self, cmpI, ↓reduceIte, Bool.false_eq_true, reduceCtorEq, Int.reduceEq, Int.reduceLT, Int.reduceLE, hl, ht] at hq) <;> first | contradiction | subst hq | skip)
          | (with_reducible refine Nd.mk trivial ?_)
          | (with_reducible refine Nd.mk (by decide) ?_)
          | (with_reducible refine Nd.mk ?_ ?_)
          | (with_reducible refine Leaf.mk rfl ?_)
          | (with_reducible refine LeafS.fin rfl ?_)
          | (with_reducible refine Fin.mk ?_ rfl)
          | (with_reducible refine Fin.mk ?_ ?_)
          | ((with_reducible refine Nx.mk ?_ ?_ ?_ ?_) <;> first | rfl | skip)
          | (conv => whnf
             first
               | (with_reducible refine gn _ _ ?_; clear gn G)
               | (with_reducible refine gn _ _ _ _ ?_; clear gn G)
               | (with_reducible refine Wr.mk ?_)
               | (with_reducible refine hn _ _ ?_; clear hn he hr K')
               | (with_reducible refine he _ _ _ ?_; clear hn he hr K')
               | (with_reducible refine hr _ _ ?_; clear hn he hr K')
               | ((with_reducible refine Eqn.mk (fun hq => ?_) ?_) <;> first | contradiction | skip)
               | (with_reducible refine Bo.yes (by decide) ?_)
               | (with_reducible refine Bo.no (by decide) ?_)
               | ((with_reducible refine Bo.gen (fun c hb => ?_)) <;> (try simp only [cond_true, cond_false, toD, toDs, dInt, dBool, dStr, dList, dFs, dFld, List.getD_cons_zero, List.getD_cons_succ, Nat.zero_add, eqA, eqAs, decide_true, decide_false, beq_self_eq_true, Bool.not_true, Bool.not_false, Bool.and_true, Bool.true_and, Bool.and_self, cmpI, ↓reduceIte, Bool.false_eq_true, reduceCtorEq, Int.reduceEq, Int.reduceLT, Int.reduceLE, hl, ht] at hb) <;> first | (obtain rfl : c = true := hb) | (obtain rfl : c = false := hb) | skip)
               | ((with_reducible refine Br.cs (fun hq => ?_) (fun hq => ?_)) <;> (try simp only [cond_true, cond_false, toD, toDs, dInt, dBool, dStr, dList, dFs, dFld, List.getD_cons_zero, List.getD_cons_succ, Nat.zero_add, eqA, eqAs, decide_true, decide_false, beq_self_eq_true, Bool.not_true, Bool.not_false, Bool.and_true, Bool.true_and, Bool.and_self, cmpI, ↓reduceIte, Bool.false_eq_true, reduceCtorEq, Int.reduceEq, Int.reduceLT, Int.reduceLE, hl, ht] at hq) <;> first | contradiction | subst hq | skip)
               | (with_reducible refine Nd.mk trivial ?_)
               | (with_reducible refine Nd.mk (by decide) ?_)
               | (with_reducible refine Nd.mk ?_ ?_)
               | (with_reducible refine Leaf.mk rfl ?_)
               | (with_reducible refine LeafS.fin rfl ?_)
               | (with_reducible refine Fin.mk ?_ rfl)
               | (with_reducible refine Fin.mk ?_ ?_)
               | ((with_reducible refine Nx.mk ?_ ?_ ?_ ?_) <;> first | rfl | skip)))
        all_goals (try simp only [toD, toDs, dInt, dBool, dStr, dList, dFs, dFld, List.getD_cons_zero, List.getD_cons_succ, Nat.zero_add, Int.reduceToNat, Nat.reduceAdd, setPartsD, zeroDs, List.replicate, List.set_cons_zero, List.set_cons_succ, zeroD, Nat.reduceMul, Nat.reducePow, Int.reducePow, Int.reduceMul, Nat.min_def, IntKind.bits, Nat.reduceLeDiff, ct_eq, cf_eq, ct_ne, cf_ne, ct_lt, cf_lt, ct_le, cf_le, ct_gt, cf_gt, ct_ge, cf_ge, ct_not, cf_not, ct_and, cf_and, ct_dec, cf_dec, cond_true, cond_false, i_nil, Int.toNat_natCast, Nat.sub_zero, List.drop_zero, ↓reduceIte, Bool.false_eq_true, Int.sub_zero, Int.add_zero] at *)
        all_goals first | contradiction | (exfalso; omega) | (exfalso; simp_all only [Bool.false_eq_true, reduceCtorEq]; done) | skip
        · omega
        · omega
        · rfl
  · trivial
theorem pok_tag_Take : POK prog orc f_tag_Take := by
  refine pok_of ok_tag_Take mixed (by simp [ac_tag_Take, acP, callsP, pok_tag_number, pok_tag_cutter, pok_tag_Check, pok_slices_Clone_u8]) (by simp [ac_tag_Take, acS, callsS, sok_tag_cutter_1]) fun args hok => ?_
  show Fits orc nt_tag_Take rs_tag_Take ac_tag_Take args (pTake args)
  unfold ac_tag_Take
  unfold pTake
  split
  · rename_i xs
    simp only [okAs, okA, maxLen] at hok
    have h0 := ato_le hok.1.2 0
    have h1 := ato_le hok.1.2 1
    refine ⟨fun h => ⟨rfl, ?_⟩, fun h => ?_⟩
    all_goals simp only [decide_eq_true_eq, decide_eq_false_iff_not] at h
    · have hl : (xs.length : Int) < 2 := by omega
      repeat' (first
        | (with_reducible refine st_seq (fun K' hn he hr => ?_)) | (with_reducible refine st_block (fun K' hn he hr => ?_)) | (with_reducible refine st_region ?_) | (with_reducible refine st_draw ?_) | (with_reducible refine st_cond ?_) | (with_reducible refine st_skip ?_) | (with_reducible refine st_exit ?_) | (with_reducible refine st_ret ?_) | (with_reducible refine st_loop ?_)
        | (with_reducible refine st_op (fun G gn => ?_)) | (with_reducible refine st_nil ?_) | (with_reducible refine st_gop ?_) | (with_reducible refine st_dop (fun G gn => ?_)) | (with_reducible refine st_dnil ?_) | (with_reducible refine st_gdop ?_) | (with_reducible refine st_tl ?_)
        | (with_reducible refine gn _ _ ?_; clear gn G)
        | (with_reducible refine gn _ _ _ _ ?_; clear gn G)
        | (with_reducible refine Wr.mk ?_)
        | (with_reducible refine hn _ _ ?_; clear hn he hr K')
        | (with_reducible refine he _ _ _ ?_; clear hn he hr K')
        | (with_reducible refine hr _ _ ?_; clear hn he hr K')
        | ((with_reducible refine Eqn.mk (fun hq => ?_) ?_) <;> first | contradiction | skip)
        | (with_reducible refine Bo.yes (by decide) ?_)
        | (with_reducible refine Bo.no (by decide) ?_)
        | ((with_reducible refine Bo.gen (fun c hb => ?_)) <;> (try simp only [cond_true, cond_false, toD, toDs, dInt, dBool, dStr, dList, dFs, dFld, List.getD_cons_zero, List.getD_cons_succ, Nat.zero_add, eqA, eqAs, decide_true, decide_false, beq_self_eq_true, Bool.not_true, Bool.not_false, Bool.and_true, Bool.true_and, Bool.and_self, cmpI, ↓reduceIte, Bool.false_eq_true, reduceCtorEq, Int.reduceEq, Int.reduceLT, Int.reduceLE, hl] at hb) <;> first | (obtain rfl : c = true := hb) | (obtain rfl : c = false := hb) | skip)
        | ((with_reducible refine Br.cs (fun hq => ?_) (fun hq => ?_)) <;> (try simp only [cond_true, cond_false, toD, toDs, dInt, dBool, dStr, dList, dFs, dFld, List.getD_cons_zero, List.getD_cons_succ, Nat.zero_add, eqA, eqAs, decide_true, decide_false, beq_self_eq_true, Bool.not_true, Bool.not_false, Bool.and_true, Bool.true_and, Bool.and_self, cmpI, ↓reduceIte, Bool.false_eq_true, reduceCtorEq, Int.reduceEq, Int.reduceLT, Int.reduceLE, hl] at hq) <;> first | contradiction | subst hq | skip)
        | (with_reducible refine Nd.mk trivial ?_)
        | (with_reducible refine Nd.mk (by decide) ?_)
        | (with_reducible refine Nd.mk ?_ ?_)
        | (with_reducible refine Leaf.mk rfl ?_)
        | (with_reducible refine LeafS.fin rfl ?_)
        | (with_reducible refine Fin.mk ?_ rfl)
        | (with_reducible refine Fin.mk ?_ ?_)
        | ((with_reducible refine Nx.mk ?_ ?_ ?_ ?_) <;> first | rfl | skip)
        | (conv => whnf
           first
             | (with_reducible refine gn _ _ ?_; clear gn G)
             | (with_reducible refine gn _ _ _ _ ?_; clear gn G)
             | (with_reducible refine Wr.mk ?_)
             | (with_reducible refine hn _ _ ?_; clear hn he hr K')
             | (with_reducible refine he _ _ _ ?_; clear hn he hr K')
             | (with_reducible refine hr _ _ ?_; clear hn he hr K')
             | ((with_reducible refine Eqn.mk (fun hq => ?_) ?_) <;> first | contradiction | skip)
             | (with_reducible refine Bo.yes (by decide) ?_)
             | (with_reducible refine Bo.no (by decide) ?_)
             | ((with_reducible refine Bo.gen (fun c hb => ?_)) <;> (try simp only [cond_true, cond_false, toD, toDs, dInt, dBool, dStr, dList, dFs, dFld, List.getD_cons_zero, List.getD_cons_succ, Nat.zero_add, eqA, eqAs, decide_true, decide_false, beq_self_eq_true, Bool.not_true, Bool.not_false, Bool.and_true, Bool.true_and, Bool.and_self, cmpI, ↓reduceIte, Bool.false_eq_true, reduceCtorEq, Int.reduceEq, Int.reduceLT, Int.reduceLE, hl] at hb) <;> first | (obtain rfl : c = true := hb) | (obtain rfl : c = false := hb) | skip)
             | ((with_reducible refine Br.cs (fun hq => ?_) (fun hq => ?_)) <;> (try simp only [cond_true, cond_false, toD, toDs, dInt, dBool, dStr, dList, dFs, dFld, List.getD_cons_zero, List.getD_cons_succ, Nat.zero_add, eqA, eqAs, decide_true, decide_false, beq_self_eq_true, Bool.not_true, Bool.not_false, Bool.and_true, Bool.true_and, Bool.and_self, cmpI, ↓reduceIte, Bool.false_eq_true, reduceCtorEq, Int.reduceEq, Int.reduceLT, Int.reduceLE, hl] at hq) <;> first | contradiction | subst hq | skip)
             | (with_reducible refine Nd.mk trivial ?_)
             | (with_reducible refine Nd.mk (by decide) ?_)
             | (with_reducible refine Nd.mk ?_ ?_)
             | (with_reducible refine Leaf.mk rfl ?_)
             | (with_reducible refine LeafS.fin rfl ?_)
             | (with_reducible refine Fin.mk ?_ rfl)
             | (with_reducible refine Fin.mk ?_ ?_)
             | ((with_reducible refine Nx.mk ?_ ?_ ?_ ?_) <;> first | rfl | skip)))
      all_goals (try simp only [toD, toDs, dInt, dBool, dStr, dList, dFs, dFld, List.getD_cons_zero, List.getD_cons_succ, Nat.zero_add, Int.reduceToNat, Nat.reduceAdd, setPartsD, zeroDs, List.replicate, List.set_cons_zero, List.set_cons_succ, zeroD, Nat.reduceMul, Nat.reducePow, Int.reducePow, Int.reduceMul, Nat.min_def, IntKind.bits, Nat.reduceLeDiff, ct_eq, cf_eq, ct_ne, cf_ne, ct_lt, cf_lt, ct_le, cf_le, ct_gt, cf_gt, ct_ge, cf_ge, ct_not, cf_not, ct_and, cf_and, ct_dec, cf_dec, cond_true, cond_false, i_nil, Int.toNat_natCast, Nat.sub_zero, List.drop_zero, ↓reduceIte, Bool.false_eq_true, Int.sub_zero, Int.add_zero] at *)
      all_goals first | contradiction | (exfalso; omega) | (exfalso; simp_all only [Bool.false_eq_true, reduceCtorEq]; done) | skip
      rfl
    · have hl : ¬ (xs.length : Int) < 2 := by omega
      rw [← num2 (by omega)]
      have hN : 0 ≤ num (xs.take 2) ∧ num (xs.take 2) < 65536 := by rw [num2 (by omega)]; omega
      have hd : num (xs.take 2) / 4096 / 2 % 8 = num (xs.take 2) / 8192 := by omega
      refine ⟨fun ht hc => ⟨rfl, ?_⟩, fun ht => ⟨rfl, ?_⟩⟩
      · repeat' (first
          | (with_reducible refine st_seq (fun K' hn he hr => ?_)) | (with_reducible refine st_block (fun K' hn he hr => ?_)) | (with_reducible refine st_region ?_) | (with_reducible refine st_draw ?_) | (with_reducible refine st_cond ?_) | (with_reducible refine st_skip ?_) | (with_reducible refine st_exit ?_) | (with_reducible refine st_ret ?_) | (with_reducible refine st_loop ?_)
          | (with_reducible refine st_op (fun G gn => ?_)) | (with_reducible refine st_nil ?_) | (with_reducible refine st_gop ?_) | (with_reducible refine st_dop (fun G gn => ?_)) | (with_reducible refine st_dnil ?_) | (with_reducible refine st_gdop ?_) | (with_reducible refine st_tl ?_)
          | (with_reducible refine gn _ _ ?_; clear gn G)
          | (with_reducible refine gn _ _ _ _ ?_; clear gn G)
          | (with_reducible refine Wr.mk ?_)
          | (with_reducible refine hn _ _ ?_; clear hn he hr K')
          | (with_reducible refine he _ _ _ ?_; clear hn he hr K')
          | (with_reducible refine hr _ _ ?_; clear hn he hr K')
          | ((with_reducible refine Eqn.mk (fun hq => ?_) ?_) <;> first | contradiction | skip)
          | (with_reducible refine Bo.yes (by decide) ?_)
          | (with_reducible refine Bo.no (by decide) ?_)
          | ((with_reducible refine Bo.gen (fun c hb => ?_)) <;> (try simp only [cond_true, cond_false, toD, toDs, dInt, dBool, dStr, dList, dFs, dFld, List.getD_cons_zero, List.getD_cons_succ, Nat.zero_add, eqA, eqAs, decide_true, decide_false, beq_self_eq_true, Bool.not_true, Bool.not_false, Bool.and_true, Bool.true_and, Bool.and_self, cmpI, ↓reduceIte, Bool.false_eq_true, reduceCtorEq, Int.reduceEq, Int.reduceLT, Int.reduceLE, hl] at hb) <;> first | (obtain rfl : c = true := hb) | (obtain rfl : c = false := hb) | skip)
          | ((with_reducible refine Br.cs (fun hq => ?_) (fun hq => ?_)) <;> (try simp only [cond_true, cond_false, toD, toDs, dInt, dBool, dStr, dList, dFs, dFld, List.getD_cons_zero, List.getD_cons_succ, Nat.zero_add, eqA, eqAs, decide_true, decide_false, beq_self_eq_true, Bool.not_true, Bool.not_false, Bool.and_true, Bool.true_and, Bool.and_self, cmpI, ↓reduceIte, Bool.false_eq_true, reduceCtorEq, Int.reduceEq, Int.reduceLT, Int.reduceLE, hl] at hq) <;> first | contradiction | subst hq | skip)
          | (with_reducible refine Nd.mk trivial ?_)
          | (with_reducible refine Nd.mk (by decide) ?_)
          | (with_reducible refine Nd.mk ?_ ?_)
          | (with_reducible refine Leaf.mk rfl ?_)
          | (with_reducible refine LeafS.fin rfl ?_)
          | (with_reducible refine Fin.mk ?_ rfl)
          | (with_reducible refine Fin.mk ?_ ?_)
          | ((with_reducible refine Nx.mk ?_ ?_ ?_ ?_) <;> first | rfl | skip)
          | (conv => whnf
             first
               | (with_reducible refine gn _ _ ?_; clear gn G)
               | (with_reducible refine gn _ _ _ _ ?_; clear gn G)
               | (with_reducible refine Wr.mk ?_)
               | (with_reducible refine hn _ _ ?_; clear hn he hr K')
               | (with_reducible refine he _ _ _ ?_; clear hn he hr K')
               | (with_reducible refine hr _ _ ?_; clear hn he hr K')
               | ((with_reducible refine Eqn.mk (fun hq => ?_) ?_) <;> first | contradiction | skip)
               | (with_reducible refine Bo.yes (by decide) ?_)
               | (with_reducible refine Bo.no (by decide) ?_)
               | ((with_reducible refine Bo.gen (fun c hb => ?_)) <;> (try simp only [cond_true, cond_false, toD, toDs, dInt, dBool, dStr, dList, dFs, dFld, List.getD_cons_zero, List.getD_cons_succ, Nat.zero_add, eqA, eqAs, decide_true, decide_false, beq_self_eq_true, Bool.not_true, Bool.not_false, Bool.and_true, Bool.true_and, Bool.and_self, cmpI, ↓reduceIte, Bool.false_eq_true, reduceCtorEq, Int.reduceEq, Int.reduceLT, Int.reduceLE, hl] at hb) <;> first | (obtain rfl : c = true := hb) | (obtain rfl : c = false := hb) | skip)
               | ((with_reducible refine Br.cs (fun hq => ?_) (fun hq => ?_)) <;> (try simp only [cond_true, cond_false, toD, toDs, dInt, dBool, dStr, dList, dFs, dFld, List.getD_cons_zero, List.getD_cons_succ, Nat.zero_add, eqA, eqAs, decide_true, decide_false, beq_self_eq_true, Bool.not_true, Bool.not_false, Bool.and_true, Bool.true_and, Bool.and_self, cmpI, ↓reduceIte, Bool.false_eq_true, reduceCtorEq, Int.reduceEq, Int.reduceLT, Int.reduceLE, hl] at hq) <;> first | contradiction | subst hq | skip)
               | (with_reducible refine Nd.mk trivial ?_)
               | (with_reducible refine Nd.mk (by decide) ?_)
               | (with_reducible refine Nd.mk ?_ ?_)
               | (with_reducible refine Leaf.mk rfl ?_)
               | (with_reducible refine LeafS.fin rfl ?_)
               | (with_reducible refine Fin.mk ?_ rfl)
               | (with_reducible refine Fin.mk ?_ ?_)
               | ((with_reducible refine Nx.mk ?_ ?_ ?_ ?_) <;> first | rfl | skip)))
        all_goals (try simp only [toD, toDs, dInt, dBool, dStr, dList, dFs, dFld, List.getD_cons_zero, List.getD_cons_succ, Nat.zero_add, Int.reduceToNat, Nat.reduceAdd, setPartsD, zeroDs, List.replicate, List.set_cons_zero, List.set_cons_succ, zeroD, Nat.reduceMul, Nat.reducePow, Int.reducePow, Int.reduceMul, Nat.min_def, IntKind.bits, Nat.reduceLeDiff, ct_eq, cf_eq, ct_ne, cf_ne, ct_lt, cf_lt, ct_le, cf_le, ct_gt, cf_gt, ct_ge, cf_ge, ct_not, cf_not, ct_and, cf_and, ct_dec, cf_dec, cond_true, cond_false, i_nil, Int.toNat_natCast, Nat.sub_zero, List.drop_zero, ↓reduceIte, Bool.false_eq_true, Int.sub_zero, Int.add_zero, hd, ht, decide_true, eq_self, Bool.true_eq_false] at *)
        all_goals first | contradiction | (exfalso; omega) | (exfalso; simp_all only [Bool.false_eq_true, reduceCtorEq]; done) | skip
        · unfold cutOK; omega
        · simp; omega
        · omega
        · omega
        · omega
        · unfold cutOK; omega
        · simp; omega
        · subst_vars
          rw [take_drop_all]
          rfl
        · rw [take_drop_all]; simp
      · repeat' (first
          | (with_reducible refine st_seq (fun K' hn he hr => ?_)) | (with_reducible refine st_block (fun K' hn he hr => ?_)) | (with_reducible refine st_region ?_) | (with_reducible refine st_draw ?_) | (with_reducible refine st_cond ?_) | (with_reducible refine st_skip ?_) | (with_reducible refine st_exit ?_) | (with_reducible refine st_ret ?_) | (with_reducible refine st_loop ?_)
          | (with_reducible refine st_op (fun G gn => ?_)) | (with_reducible refine st_nil ?_) | (with_reducible refine st_gop ?_) | (with_reducible refine st_dop (fun G gn => ?_)) | (with_reducible refine st_dnil ?_) | (with_reducible refine st_gdop ?_) | (with_reducible refine st_tl ?_)
          | (with_reducible refine gn _ _ ?_; clear gn G)
          | (with_reducible refine gn _ _ _ _ ?_; clear gn G)
          | (with_reducible refine Wr.mk ?_)
          | (with_reducible refine hn _ _ ?_; clear hn he hr K')
          | (with_reducible refine he _ _ _ ?_; clear hn he hr K')
          | (with_reducible refine hr _ _ ?_; clear hn he hr K')
          | ((with_reducible refine Eqn.mk (fun hq => ?_) ?_) <;> first | contradiction | skip)
          | (with_reducible refine Bo.yes (by decide) ?_)
          | (with_reducible refine Bo.no (by decide) ?_)
          | ((with_reducible refine Bo.gen (fun c hb => ?_)) <;> (try simp only [cond_true, cond_false, toD, toDs, dInt, dBool, dStr, dList, dFs, dFld, List.getD_cons_zero, List.getD_cons_succ, Nat.zero_add, eqA, eqAs, decide_true, decide_false, beq_self_eq_true, Bool.not_true, Bool.not_false, Bool.and_true, Bool.true_and, Bool.and_self, cmpI, ↓reduceIte, Bool.false_eq_true, reduceCtorEq, Int.reduceEq, Int.reduceLT, Int.reduceLE, hl] at hb) <;> first | (obtain rfl : c = true := hb) | (obtain rfl : c = false := hb) | skip)
          | ((with_reducible refine Br.cs (fun hq => ?_) (fun hq => ?_)) <;> (try simp only [cond_true, cond_false, toD, toDs, dInt, dBool, dStr, dList, dFs, dFld, List.getD_cons_zero, List.getD_cons_succ, Nat.zero_add, eqA, eqAs, decide_true, decide_false, beq_self_eq_true, Bool.not_true, Bool.not_false, Bool.and_true, Bool.true_and, Bool.and_self, cmpI, ↓reduceIte, Bool.false_eq_true, reduceCtorEq, Int.reduceEq, Int.reduceLT, Int.reduceLE, hl] at hq) <;> first | contradiction | subst hq | skip)
          | (with_reducible refine Nd.mk trivial ?_)
          | (with_reducible refine Nd.mk (by decide) ?_)
          | (with_reducible refine Nd.mk ?_ ?_)
          | (with_reducible refine Leaf.mk rfl ?_)
          | (with_reducible refine LeafS.fin rfl ?_)
          | (with_reducible refine Fin.mk ?_ rfl)
          | (with_reducible refine Fin.mk ?_ ?_)
          | ((with_reducible refine Nx.mk ?_ ?_ ?_ ?_) <;> first | rfl | skip)
          | (conv => whnf
             first
               | (with_reducible refine gn _ _ ?_; clear gn G)
               | (with_reducible refine gn _ _ _ _ ?_; clear gn G)
               | (with_reducible refine Wr.mk ?_)
               | (with_reducible refine hn _ _ ?_; clear hn he hr K')
               | (with_reducible refine he _ _ _ ?_; clear hn he hr K')
               | (with_reducible refine hr _ _ ?_; clear hn he hr K')
               | ((with_reducible refine Eqn.mk (fun hq => ?_) ?_) <;> first | contradiction | skip)
               | (with_reducible refine Bo.yes (by decide) ?_)
               | (with_reducible refine Bo.no (by decide) ?_)
               | ((with_reducible refine Bo.gen (fun c hb => ?_)) <;> (try simp only [cond_true, cond_false, toD, toDs, dInt, dBool, dStr, dList, dFs, dFld, List.getD_cons_zero, List.getD_cons_succ, Nat.zero_add, eqA, eqAs, decide_true, decide_false, beq_self_eq_true, Bool.not_true, Bool.not_false, Bool.and_true, Bool.true_and, Bool.and_self, cmpI, ↓reduceIte, Bool.false_eq_true, reduceCtorEq, Int.reduceEq, Int.reduceLT, Int.reduceLE, hl] at hb) <;> first | (obtain rfl : c = true := hb) | (obtain rfl : c = false := hb) | skip)
               | ((with_reducible refine Br.cs (fun hq => ?_) (fun hq => ?_)) <;> (try simp only [cond_true, cond_false, toD, toDs, dInt, dBool, dStr, dList, dFs, dFld, List.getD_cons_zero, List.getD_cons_succ, Nat.zero_add, eqA, eqAs, decide_true, decide_false, beq_self_eq_true, Bool.not_true, Bool.not_false, Bool.and_true, Bool.true_and, Bool.and_self, cmpI, ↓reduceIte, Bool.false_eq_true, reduceCtorEq, Int.reduceEq, Int.reduceLT, Int.reduceLE, hl] at hq) <;> first | contradiction | subst hq | skip)
               | (with_reducible refine Nd.mk trivial ?_)
               | (with_reducible refine Nd.mk (by decide) ?_)
               | (with_reducible refine Nd.mk ?_ ?_)
               | (with_reducible refine Leaf.mk rfl ?_)
               | (with_reducible refine LeafS.fin rfl ?_)
               | (with_reducible refine Fin.mk ?_ rfl)
               | (with_reducible refine Fin.mk ?_ ?_)
               | ((with_reducible refine Nx.mk ?_ ?_ ?_ ?_) <;> first | rfl | skip)))
        all_goals (try simp only [toD, toDs, dInt, dBool, dStr, dList, dFs, dFld, List.getD_cons_zero, List.getD_cons_succ, Nat.zero_add, Int.reduceToNat, Nat.reduceAdd, setPartsD, zeroDs, List.replicate, List.set_cons_zero, List.set_cons_succ, zeroD, Nat.reduceMul, Nat.reducePow, Int.reducePow, Int.reduceMul, Nat.min_def, IntKind.bits, Nat.reduceLeDiff, ct_eq, cf_eq, ct_ne, cf_ne, ct_lt, cf_lt, ct_le, cf_le, ct_gt, cf_gt, ct_ge, cf_ge, ct_not, cf_not, ct_and, cf_and, ct_dec, cf_dec, cond_true, cond_false, i_nil, Int.toNat_natCast, Nat.sub_zero, List.drop_zero, ↓reduceIte, Bool.false_eq_true, Int.sub_zero, Int.add_zero, hd, ht, decide_true, eq_self, Bool.true_eq_false] at *)
        all_goals first | contradiction | (exfalso; omega) | (exfalso; simp_all only [Bool.false_eq_true, reduceCtorEq]; done) | skip
        all_goals first | omega | (unfold cutOK; omega) | (simp only [List.length_take]; omega) | rfl
  · trivial
end Go.Vc.Seat
