/- A part of the proof of the seat's laws: PfTag4. It states no claim by itself. -/
import Derived.Test.YtgcakbnkeiajeaaPfTag3
set_option linter.unusedVariables false
set_option linter.unusedSimpArgs false
namespace Go.Vc.Seat
open Go.Vc Go.Proofs.Try

theorem pok_slices_Clone_u8 : POK prog orc f_slices_Clone_u8 := by
  refine pok_of ok_slices_Clone_u8 mixed (by simp [ac_slices_Clone_u8, acP, callsP]) (by simp [ac_slices_Clone_u8, acS, callsS]) fun args hok => ?_
  show Fits orc nt_slices_Clone_u8 rs_slices_Clone_u8 ac_slices_Clone_u8 args (pClone8 args)
  unfold ac_slices_Clone_u8
  unfold pClone8
  split
  · rename_i xs
    intro hc
    refine ⟨rfl, ?_⟩
    repeat' (first
      | (with_reducible refine st_seq (fun K' hn he hr => ?_)) | (with_reducible refine st_block (fun K' hn he hr => ?_)) | (with_reducible refine st_region ?_) | (with_reducible refine st_draw ?_) | (with_reducible refine st_cond ?_) | (with_reducible refine st_skip ?_) | (with_reducible refine st_exit ?_) | (with_reducible refine st_ret ?_) | (with_reducible refine st_loop ?_)
      | (with_reducible refine st_op (fun G gn => ?_)) | (with_reducible refine st_nil ?_) | (with_reducible refine st_gop ?_) | (with_reducible refine st_dop (fun G gn => ?_)) | (with_reducible refine st_dnil ?_) | (with_reducible refine st_gdop ?_) | (with_reducible refine st_tl ?_)
      | (with_reducible refine gn _ _ ?_; clear gn G)
      | (with_reducible refine gn _ _ _ _ ?_; clear gn G)
      | (with_reducible refine Wr.mk ?_)
      | (with_reducible refine hn _ _ ?_; clear hn he hr K')
      | (with_reducible refine he _ _ _ ?_; clear hn he hr K')
      | (with_reducible refine hr _ _ ?_; clear hn he hr K')
      | ((with_reducible refine Eqn.mk (fun hq => ?_) ?_) <;> first | contradiction | skip)
      | (with_reducible refine Bo.yes (by decide) ?_)
      | (with_reducible refine Bo.no (by decide) ?_)
      | ((with_reducible refine Bo.gen (fun c hb => ?_)) <;> (try simp only [cond_true, cond_false, toD, toDs, dInt, dBool, dStr, dList, dFs, dFld, List.getD_cons_zero, List.getD_cons_succ, Nat.zero_add, eqA, eqAs, decide_true, decide_false, beq_self_eq_true, Bool.not_true, Bool.not_false, Bool.and_true, Bool.true_and, Bool.and_self, cmpI, ↓reduceIte, Bool.false_eq_true, reduceCtorEq, Int.reduceEq, Int.reduceLT, Int.reduceLE] at hb) <;> first | (obtain rfl : c = true := hb) | (obtain rfl : c = false := hb) | skip)
      | ((with_reducible refine Br.cs (fun hq => ?_) (fun hq => ?_)) <;> (try simp only [cond_true, cond_false, toD, toDs, dInt, dBool, dStr, dList, dFs, dFld, List.getD_cons_zero, List.getD_cons_succ, Nat.zero_add, eqA, eqAs, decide_true, decide_false, beq_self_eq_true, Bool.not_true, Bool.not_false, Bool.and_true, Bool.true_and, Bool.and_self, cmpI, ↓reduceIte, Bool.false_eq_true, reduceCtorEq, Int.reduceEq, Int.reduceLT, Int.reduceLE] at hq) <;> first | contradiction | subst hq | skip)
      | (with_reducible refine Nd.mk trivial ?_)
      | (with_reducible refine Nd.mk (by decide) ?_)
      | (with_reducible refine Nd.mk ?_ ?_)
      | (with_reducible refine Leaf.mk rfl ?_)
      | (with_reducible refine LeafS.fin rfl ?_)
      | (with_reducible refine Fin.mk ?_ rfl)
      | (with_reducible refine Fin.mk ?_ ?_)
      | ((with_reducible refine Nx.mk ?_ ?_ ?_ ?_) <;> first | rfl | skip)
      | (conv => whnf
         first
           | (with_reducible refine gn _ _ ?_; clear gn G)
           | (with_reducible refine gn _ _ _ _ ?_; clear gn G)
           | (with_reducible refine Wr.mk ?_)
           | (with_reducible refine hn _ _ ?_; clear hn he hr K')
           | (with_reducible refine he _ _ _ ?_; clear hn he hr K')
           | (with_reducible refine hr _ _ ?_; clear hn he hr K')
           | ((with_reducible refine Eqn.mk (fun hq => ?_) ?_) <;> first | contradiction | skip)
           | (with_reducible refine Bo.yes (by decide) ?_)
           | (with_reducible refine Bo.no (by decide) ?_)
           | ((with_reducible refine Bo.gen (fun c hb => ?_)) <;> (try simp only [cond_true, cond_false, toD, toDs, dInt, dBool, dStr, dList, dFs, dFld, List.getD_cons_zero, List.getD_cons_succ, Nat.zero_add, eqA, eqAs, decide_true, decide_false, beq_self_eq_true, Bool.not_true, Bool.not_false, Bool.and_true, Bool.true_and, Bool.and_self, cmpI, ↓reduceIte, Bool.false_eq_true, reduceCtorEq, Int.reduceEq, Int.reduceLT, Int.reduceLE] at hb) <;> first | (obtain rfl : c = true := hb) | (obtain rfl : c = false := hb) | skip)
           | ((with_reducible refine Br.cs (fun hq => ?_) (fun hq => ?_)) <;> (try simp only [cond_true, cond_false, toD, toDs, dInt, dBool, dStr, dList, dFs, dFld, List.getD_cons_zero, List.getD_cons_succ, Nat.zero_add, eqA, eqAs, decide_true, decide_false, beq_self_eq_true, Bool.not_true, Bool.not_false, Bool.and_true, Bool.true_and, Bool.and_self, cmpI, ↓reduceIte, Bool.false_eq_true, reduceCtorEq, Int.reduceEq, Int.reduceLT, Int.reduceLE] at hq) <;> first | contradiction | subst hq | skip)
           | (with_reducible refine Nd.mk trivial ?_)
           | (with_reducible refine Nd.mk (by decide) ?_)
           | (with_reducible refine Nd.mk ?_ ?_)
           | (with_reducible refine Leaf.mk rfl ?_)
           | (with_reducible refine LeafS.fin rfl ?_)
           | (with_reducible refine Fin.mk ?_ rfl)
           | (with_reducible refine Fin.mk ?_ ?_)
           | ((with_reducible refine Nx.mk ?_ ?_ ?_ ?_) <;> first | rfl | skip)))
    all_goals (try simp only [toD, toDs, dInt, dBool, dStr, dList, dFs, dFld, List.getD_cons_zero, List.getD_cons_succ, Nat.zero_add, Int.reduceToNat, Nat.reduceAdd, setPartsD, zeroDs, List.replicate, List.set_cons_zero, List.set_cons_succ, zeroD, Nat.reduceMul, Nat.reducePow, Int.reducePow, Int.reduceMul, Nat.min_def, IntKind.bits, Nat.reduceLeDiff, ct_eq, cf_eq, ct_ne, cf_ne, ct_lt, cf_lt, ct_le, cf_le, ct_gt, cf_gt, ct_ge, cf_ge, ct_not, cf_not, ct_and, cf_and, ct_dec, cf_dec, cond_true, cond_false, i_nil, Int.toNat_natCast, Nat.sub_zero, List.drop_zero, ↓reduceIte, Bool.false_eq_true, Int.sub_zero, Int.add_zero] at *)
    all_goals first | contradiction | (exfalso; omega) | (exfalso; simp_all only [Bool.false_eq_true, reduceCtorEq]; done) | skip
    · rename_i h0; subst h0; rfl
    · rename_i h0; subst h0; rfl
    · exact ⟨.inl rfl, by unfold roomy; simp; omega⟩
    · rfl
    · simp
  · trivial
theorem pok_tag_cutter : POK prog orc f_tag_cutter := by
  refine pok_of ok_tag_cutter mixed (by simp [ac_tag_cutter, acP, callsP]) (by simp [ac_tag_cutter, acS, callsS]) fun args hok => ?_
  show Fits orc nt_tag_cutter rs_tag_cutter ac_tag_cutter args (pCutter args)
  unfold ac_tag_cutter
  unfold pCutter
  split
  · rename_i n
    refine ⟨rfl, ?_⟩
    repeat' (first
      | (with_reducible refine st_seq (fun K' hn he hr => ?_)) | (with_reducible refine st_block (fun K' hn he hr => ?_)) | (with_reducible refine st_region ?_) | (with_reducible refine st_draw ?_) | (with_reducible refine st_cond ?_) | (with_reducible refine st_skip ?_) | (with_reducible refine st_exit ?_) | (with_reducible refine st_ret ?_) | (with_reducible refine st_loop ?_)
      | (with_reducible refine st_op (fun G gn => ?_)) | (with_reducible refine st_nil ?_) | (with_reducible refine st_gop ?_) | (with_reducible refine st_dop (fun G gn => ?_)) | (with_reducible refine st_dnil ?_) | (with_reducible refine st_gdop ?_) | (with_reducible refine st_tl ?_)
      | (with_reducible refine gn _ _ ?_; clear gn G)
      | (with_reducible refine gn _ _ _ _ ?_; clear gn G)
      | (with_reducible refine Wr.mk ?_)
      | (with_reducible refine hn _ _ ?_; clear hn he hr K')
      | (with_reducible refine he _ _ _ ?_; clear hn he hr K')
      | (with_reducible refine hr _ _ ?_; clear hn he hr K')
      | ((with_reducible refine Eqn.mk (fun hq => ?_) ?_) <;> first | contradiction | skip)
      | (with_reducible refine Bo.yes (by decide) ?_)
      | (with_reducible refine Bo.no (by decide) ?_)
      | ((with_reducible refine Bo.gen (fun c hb => ?_)) <;> (try simp only [cond_true, cond_false, toD, toDs, dInt, dBool, dStr, dList, dFs, dFld, List.getD_cons_zero, List.getD_cons_succ, Nat.zero_add, eqA, eqAs, decide_true, decide_false, beq_self_eq_true, Bool.not_true, Bool.not_false, Bool.and_true, Bool.true_and, Bool.and_self, cmpI, ↓reduceIte, Bool.false_eq_true, reduceCtorEq, Int.reduceEq, Int.reduceLT, Int.reduceLE] at hb) <;> first | (obtain rfl : c = true := hb) | (obtain rfl : c = false := hb) | skip)
      | ((with_reducible refine Br.cs (fun hq => ?_) (fun hq => ?_)) <;> (try simp only [cond_true, cond_false, toD, toDs, dInt, dBool, dStr, dList, dFs, dFld, List.getD_cons_zero, List.getD_cons_succ, Nat.zero_add, eqA, eqAs, decide_true, decide_false, beq_self_eq_true, Bool.not_true, Bool.not_false, Bool.and_true, Bool.true_and, Bool.and_self, cmpI, ↓reduceIte, Bool.false_eq_true, reduceCtorEq, Int.reduceEq, Int.reduceLT, Int.reduceLE] at hq) <;> first | contradiction | subst hq | skip)
      | (with_reducible refine Nd.mk trivial ?_)
      | (with_reducible refine Nd.mk (by decide) ?_)
      | (with_reducible refine Nd.mk ?_ ?_)
      | (with_reducible refine Leaf.mk rfl ?_)
      | (with_reducible refine LeafS.fin rfl ?_)
      | (with_reducible refine Fin.mk ?_ rfl)
      | (with_reducible refine Fin.mk ?_ ?_)
      | ((with_reducible refine Nx.mk ?_ ?_ ?_ ?_) <;> first | rfl | skip)
      | (conv => whnf
         first
           | (with_reducible refine gn _ _ ?_; clear gn G)
           | (with_reducible refine gn _ _ _ _ ?_; clear gn G)
           | (with_reducible refine Wr.mk ?_)
           | (with_reducible refine hn _ _ ?_; clear hn he hr K')
           | (with_reducible refine he _ _ _ ?_; clear hn he hr K')
           | (with_reducible refine hr _ _ ?_; clear hn he hr K')
           | ((with_reducible refine Eqn.mk (fun hq => ?_) ?_) <;> first | contradiction | skip)
           | (with_reducible refine Bo.yes (by decide) ?_)
           | (with_reducible refine Bo.no (by decide) ?_)
           | ((with_reducible refine Bo.gen (fun c hb => ?_)) <;> (try simp only [cond_true, cond_false, toD, toDs, dInt, dBool, dStr, dList, dFs, dFld, List.getD_cons_zero, List.getD_cons_succ, Nat.zero_add, eqA, eqAs, decide_true, decide_false, beq_self_eq_true, Bool.not_true, Bool.not_false, Bool.and_true, Bool.true_and, Bool.and_self, cmpI, ↓reduceIte, Bool.false_eq_true, reduceCtorEq, Int.reduceEq, Int.reduceLT, Int.reduceLE] at hb) <;> first | (obtain rfl : c = true := hb) | (obtain rfl : c = false := hb) | skip)
           | ((with_reducible refine Br.cs (fun hq => ?_) (fun hq => ?_)) <;> (try simp only [cond_true, cond_false, toD, toDs, dInt, dBool, dStr, dList, dFs, dFld, List.getD_cons_zero, List.getD_cons_succ, Nat.zero_add, eqA, eqAs, decide_true, decide_false, beq_self_eq_true, Bool.not_true, Bool.not_false, Bool.and_true, Bool.true_and, Bool.and_self, cmpI, ↓reduceIte, Bool.false_eq_true, reduceCtorEq, Int.reduceEq, Int.reduceLT, Int.reduceLE] at hq) <;> first | contradiction | subst hq | skip)
           | (with_reducible refine Nd.mk trivial ?_)
           | (with_reducible refine Nd.mk (by decide) ?_)
           | (with_reducible refine Nd.mk ?_ ?_)
           | (with_reducible refine Leaf.mk rfl ?_)
           | (with_reducible refine LeafS.fin rfl ?_)
           | (with_reducible refine Fin.mk ?_ rfl)
           | (with_reducible refine Fin.mk ?_ ?_)
           | ((with_reducible refine Nx.mk ?_ ?_ ?_ ?_) <;> first | rfl | skip)))
    all_goals (try simp only [toD, toDs, dInt, dBool, dStr, dList, dFs, dFld, List.getD_cons_zero, List.getD_cons_succ, Nat.zero_add, Int.reduceToNat, Nat.reduceAdd, setPartsD, zeroDs, List.replicate, List.set_cons_zero, List.set_cons_succ, zeroD, Nat.reduceMul, Nat.reducePow, Int.reducePow, Int.reduceMul, Nat.min_def, IntKind.bits, Nat.reduceLeDiff, ct_eq, cf_eq, ct_ne, cf_ne, ct_lt, cf_lt, ct_le, cf_le, ct_gt, cf_gt, ct_ge, cf_ge, ct_not, cf_not, ct_and, cf_and, ct_dec, cf_dec, cond_true, cond_false, i_nil, Int.toNat_natCast, Nat.sub_zero, List.drop_zero, ↓reduceIte, Bool.false_eq_true, Int.sub_zero, Int.add_zero] at *)
    all_goals first | contradiction | (exfalso; omega) | (exfalso; simp_all only [Bool.false_eq_true, reduceCtorEq]; done) | skip
  · trivial
theorem sok_tag_cutter_1 : SOK prog orc f_tag_cutter_1 := by
  refine sok_of ok_tag_cutter_1 mixed (by simp [ac_tag_cutter_1, acP, callsP]) (by simp [ac_tag_cutter_1, acS, callsS]) fun args H hok => ?_
  show FitsS orc nt_tag_cutter_1 rs_tag_cutter_1 ac_tag_cutter_1 args H (sCutter args H)
  unfold ac_tag_cutter_1
  unfold sCutter
  split
  · rename_i k n
    intro hc
    simp only [okAs, okA] at hok
    have hk := has_u64 hok.1
    have e1 : k.toNat.min IntKind.u32.bits = k.toNat := Nat.min_eq_left (by simp [IntKind.bits]; omega)
    have e2 := pow2_pos k.toNat
    have e3 : (2 : Int) ^ k.toNat ≤ 2 ^ 31 := pow2_le (by omega)
    have e4 : IntKind.u32.wrap (IntKind.u32.wrap (1 * 2 ^ k.toNat) - 1) = 2 ^ k.toNat - 1 := by simp only [w32]; omega
    have e5 := bit_and (k := .u32) rfl k.toNat (x := n) (by simp [IntKind.bits]; omega) hc.2.1 (by simp [IntKind.bits]; omega) e4
    have e6 : 0 ≤ n % 2 ^ k.toNat := Int.emod_nonneg _ (by omega)
    have e7 : n % 2 ^ k.toNat < 2 ^ k.toNat := Int.emod_lt_of_pos _ e2
    refine ⟨rfl, ?_⟩
    repeat' (first
      | (with_reducible refine st_seq (fun K' hn he hr => ?_)) | (with_reducible refine st_block (fun K' hn he hr => ?_)) | (with_reducible refine st_region ?_) | (with_reducible refine st_draw ?_) | (with_reducible refine st_cond ?_) | (with_reducible refine st_skip ?_) | (with_reducible refine st_exit ?_) | (with_reducible refine st_ret ?_) | (with_reducible refine st_loop ?_)
      | (with_reducible refine st_op (fun G gn => ?_)) | (with_reducible refine st_nil ?_) | (with_reducible refine st_gop ?_) | (with_reducible refine st_dop (fun G gn => ?_)) | (with_reducible refine st_dnil ?_) | (with_reducible refine st_gdop ?_) | (with_reducible refine st_tl ?_)
      | (with_reducible refine gn _ _ ?_; clear gn G)
      | (with_reducible refine gn _ _ _ _ ?_; clear gn G)
      | (with_reducible refine Wr.mk ?_)
      | (with_reducible refine hn _ _ ?_; clear hn he hr K')
      | (with_reducible refine he _ _ _ ?_; clear hn he hr K')
      | (with_reducible refine hr _ _ ?_; clear hn he hr K')
      | ((with_reducible refine Eqn.mk (fun hq => ?_) ?_) <;> first | contradiction | skip)
      | (with_reducible refine Bo.yes (by decide) ?_)
      | (with_reducible refine Bo.no (by decide) ?_)
      | ((with_reducible refine Bo.gen (fun c hb => ?_)) <;> (try simp only [cond_true, cond_false, toD, toDs, dInt, dBool, dStr, dList, dFs, dFld, List.getD_cons_zero, List.getD_cons_succ, Nat.zero_add, eqA, eqAs, decide_true, decide_false, beq_self_eq_true, Bool.not_true, Bool.not_false, Bool.and_true, Bool.true_and, Bool.and_self, cmpI, ↓reduceIte, Bool.false_eq_true, reduceCtorEq, Int.reduceEq, Int.reduceLT, Int.reduceLE] at hb) <;> first | (obtain rfl : c = true := hb) | (obtain rfl : c = false := hb) | skip)
      | ((with_reducible refine Br.cs (fun hq => ?_) (fun hq => ?_)) <;> (try simp only [cond_true, cond_false, toD, toDs, dInt, dBool, dStr, dList, dFs, dFld, List.getD_cons_zero, List.getD_cons_succ, Nat.zero_add, eqA, eqAs, decide_true, decide_false, beq_self_eq_true, Bool.not_true, Bool.not_false, Bool.and_true, Bool.true_and, Bool.and_self, cmpI, ↓reduceIte, Bool.false_eq_true, reduceCtorEq, Int.reduceEq, Int.reduceLT, Int.reduceLE] at hq) <;> first | contradiction | subst hq | skip)
      | (with_reducible refine Nd.mk trivial ?_)
      | (with_reducible refine Nd.mk (by decide) ?_)
      | (with_reducible refine Nd.mk ?_ ?_)
      | (with_reducible refine Leaf.mk rfl ?_)
      | (with_reducible refine LeafS.fin rfl ?_)
      | (with_reducible refine Fin.mk ?_ rfl)
      | (with_reducible refine Fin.mk ?_ ?_)
      | ((with_reducible refine Nx.mk ?_ ?_ ?_ ?_) <;> first | rfl | skip)
      | (conv => whnf
         first
           | (with_reducible refine gn _ _ ?_; clear gn G)
           | (with_reducible refine gn _ _ _ _ ?_; clear gn G)
           | (with_reducible refine Wr.mk ?_)
           | (with_reducible refine hn _ _ ?_; clear hn he hr K')
           | (with_reducible refine he _ _ _ ?_; clear hn he hr K')
           | (with_reducible refine hr _ _ ?_; clear hn he hr K')
           | ((with_reducible refine Eqn.mk (fun hq => ?_) ?_) <;> first | contradiction | skip)
           | (with_reducible refine Bo.yes (by decide) ?_)
           | (with_reducible refine Bo.no (by decide) ?_)
           | ((with_reducible refine Bo.gen (fun c hb => ?_)) <;> (try simp only [cond_true, cond_false, toD, toDs, dInt, dBool, dStr, dList, dFs, dFld, List.getD_cons_zero, List.getD_cons_succ, Nat.zero_add, eqA, eqAs, decide_true, decide_false, beq_self_eq_true, Bool.not_true, Bool.not_false, Bool.and_true, Bool.true_and, Bool.and_self, cmpI, ↓reduceIte, Bool.false_eq_true, reduceCtorEq, Int.reduceEq, Int.reduceLT, Int.reduceLE] at hb) <;> first | (obtain rfl : c = true := hb) | (obtain rfl : c = false := hb) | skip)
           | ((with_reducible refine Br.cs (fun hq => ?_) (fun hq => ?_)) <;> (try simp only [cond_true, cond_false, toD, toDs, dInt, dBool, dStr, dList, dFs, dFld, List.getD_cons_zero, List.getD_cons_succ, Nat.zero_add, eqA, eqAs, decide_true, decide_false, beq_self_eq_true, Bool.not_true, Bool.not_false, Bool.and_true, Bool.true_and, Bool.and_self, cmpI, ↓reduceIte, Bool.false_eq_true, reduceCtorEq, Int.reduceEq, Int.reduceLT, Int.reduceLE] at hq) <;> first | contradiction | subst hq | skip)
           | (with_reducible refine Nd.mk trivial ?_)
           | (with_reducible refine Nd.mk (by decide) ?_)
           | (with_reducible refine Nd.mk ?_ ?_)
           | (with_reducible refine Leaf.mk rfl ?_)
           | (with_reducible refine LeafS.fin rfl ?_)
           | (with_reducible refine Fin.mk ?_ rfl)
           | (with_reducible refine Fin.mk ?_ ?_)
           | ((with_reducible refine Nx.mk ?_ ?_ ?_ ?_) <;> first | rfl | skip)))
    · omega
    · omega
    · rw [e1, e5, wi64_in (by omega) (by omega)]
    · rw [e1, fdiv_pow]
  · trivial
theorem pok_l02_cut : POK prog orc f_l02_cut := by
  refine pok_of ok_l02_cut mixed (by simp [ac_l02_cut, acP, callsP]) (by simp [ac_l02_cut, acS, callsS]) fun args hok => ?_
  show Fits orc nt_l02_cut rs_l02_cut ac_l02_cut args (pCut args)
  unfold ac_l02_cut
  unfold pCut
  split
  · rename_i xs
    refine ⟨rfl, ?_⟩
    repeat' (first
      | (with_reducible refine st_seq (fun K' hn he hr => ?_)) | (with_reducible refine st_block (fun K' hn he hr => ?_)) | (with_reducible refine st_region ?_) | (with_reducible refine st_draw ?_) | (with_reducible refine st_cond ?_) | (with_reducible refine st_skip ?_) | (with_reducible refine st_exit ?_) | (with_reducible refine st_ret ?_) | (with_reducible refine st_loop ?_)
      | (with_reducible refine st_op (fun G gn => ?_)) | (with_reducible refine st_nil ?_) | (with_reducible refine st_gop ?_) | (with_reducible refine st_dop (fun G gn => ?_)) | (with_reducible refine st_dnil ?_) | (with_reducible refine st_gdop ?_) | (with_reducible refine st_tl ?_)
      | (with_reducible refine gn _ _ ?_; clear gn G)
      | (with_reducible refine gn _ _ _ _ ?_; clear gn G)
      | (with_reducible refine Wr.mk ?_)
      | (with_reducible refine hn _ _ ?_; clear hn he hr K')
      | (with_reducible refine he _ _ _ ?_; clear hn he hr K')
      | (with_reducible refine hr _ _ ?_; clear hn he hr K')
      | ((with_reducible refine Eqn.mk (fun hq => ?_) ?_) <;> first | contradiction | skip)
      | (with_reducible refine Bo.yes (by decide) ?_)
      | (with_reducible refine Bo.no (by decide) ?_)
      | ((with_reducible refine Bo.gen (fun c hb => ?_)) <;> (try simp only [cond_true, cond_false, toD, toDs, dInt, dBool, dStr, dList, dFs, dFld, List.getD_cons_zero, List.getD_cons_succ, Nat.zero_add, eqA, eqAs, decide_true, decide_false, beq_self_eq_true, Bool.not_true, Bool.not_false, Bool.and_true, Bool.true_and, Bool.and_self, cmpI, ↓reduceIte, Bool.false_eq_true, reduceCtorEq, Int.reduceEq, Int.reduceLT, Int.reduceLE] at hb) <;> first | (obtain rfl : c = true := hb) | (obtain rfl : c = false := hb) | skip)
      | ((with_reducible refine Br.cs (fun hq => ?_) (fun hq => ?_)) <;> (try simp only [cond_true, cond_false, toD, toDs, dInt, dBool, dStr, dList, dFs, dFld, List.getD_cons_zero, List.getD_cons_succ, Nat.zero_add, eqA, eqAs, decide_true, decide_false, beq_self_eq_true, Bool.not_true, Bool.not_false, Bool.and_true, Bool.true_and, Bool.and_self, cmpI, ↓reduceIte, Bool.false_eq_true, reduceCtorEq, Int.reduceEq, Int.reduceLT, Int.reduceLE] at hq) <;> first | contradiction | subst hq | skip)
      | (with_reducible refine Nd.mk trivial ?_)
      | (with_reducible refine Nd.mk (by decide) ?_)
      | (with_reducible refine Nd.mk ?_ ?_)
      | (with_reducible refine Leaf.mk rfl ?_)
      | (with_reducible refine LeafS.fin rfl ?_)
      | (with_reducible refine Fin.mk ?_ rfl)
      | (with_reducible refine Fin.mk ?_ ?_)
      | ((with_reducible refine Nx.mk ?_ ?_ ?_ ?_) <;> first | rfl | skip)
      | (conv => whnf
         first
           | (with_reducible refine gn _ _ ?_; clear gn G)
           | (with_reducible refine gn _ _ _ _ ?_; clear gn G)
           | (with_reducible refine Wr.mk ?_)
           | (with_reducible refine hn _ _ ?_; clear hn he hr K')
           | (with_reducible refine he _ _ _ ?_; clear hn he hr K')
           | (with_reducible refine hr _ _ ?_; clear hn he hr K')
           | ((with_reducible refine Eqn.mk (fun hq => ?_) ?_) <;> first | contradiction | skip)
           | (with_reducible refine Bo.yes (by decide) ?_)
           | (with_reducible refine Bo.no (by decide) ?_)
           | ((with_reducible refine Bo.gen (fun c hb => ?_)) <;> (try simp only [cond_true, cond_false, toD, toDs, dInt, dBool, dStr, dList, dFs, dFld, List.getD_cons_zero, List.getD_cons_succ, Nat.zero_add, eqA, eqAs, decide_true, decide_false, beq_self_eq_true, Bool.not_true, Bool.not_false, Bool.and_true, Bool.true_and, Bool.and_self, cmpI, ↓reduceIte, Bool.false_eq_true, reduceCtorEq, Int.reduceEq, Int.reduceLT, Int.reduceLE] at hb) <;> first | (obtain rfl : c = true := hb) | (obtain rfl : c = false := hb) | skip)
           | ((with_reducible refine Br.cs (fun hq => ?_) (fun hq => ?_)) <;> (try simp only [cond_true, cond_false, toD, toDs, dInt, dBool, dStr, dList, dFs, dFld, List.getD_cons_zero, List.getD_cons_succ, Nat.zero_add, eqA, eqAs, decide_true, decide_false, beq_self_eq_true, Bool.not_true, Bool.not_false, Bool.and_true, Bool.true_and, Bool.and_self, cmpI, ↓reduceIte, Bool.false_eq_true, reduceCtorEq, Int.reduceEq, Int.reduceLT, Int.reduceLE] at hq) <;> first | contradiction | subst hq | skip)
           | (with_reducible refine Nd.mk trivial ?_)
           | (with_reducible refine Nd.mk (by decide) ?_)
           | (with_reducible refine Nd.mk ?_ ?_)
           | (with_reducible refine Leaf.mk rfl ?_)
           | (with_reducible refine LeafS.fin rfl ?_)
           | (with_reducible refine Fin.mk ?_ rfl)
           | (with_reducible refine Fin.mk ?_ ?_)
           | ((with_reducible refine Nx.mk ?_ ?_ ?_ ?_) <;> first | rfl | skip)))
    all_goals (try simp only [toD, toDs, dInt, dBool, dStr, dList, dFs, dFld, List.getD_cons_zero, List.getD_cons_succ, Nat.zero_add, Int.reduceToNat, Nat.reduceAdd, setPartsD, zeroDs, List.replicate, List.set_cons_zero, List.set_cons_succ, zeroD, Nat.reduceMul, Nat.reducePow, Int.reducePow, Int.reduceMul, Nat.min_def, IntKind.bits, Nat.reduceLeDiff, ct_eq, cf_eq, ct_ne, cf_ne, ct_lt, cf_lt, ct_le, cf_le, ct_gt, cf_gt, ct_ge, cf_ge, ct_not, cf_not, ct_and, cf_and, ct_dec, cf_dec, cond_true, cond_false, i_nil, Int.toNat_natCast, Nat.sub_zero, List.drop_zero, ↓reduceIte, Bool.false_eq_true, Int.sub_zero, Int.add_zero] at *)
    all_goals first | contradiction | (exfalso; omega) | (exfalso; simp_all only [Bool.false_eq_true, reduceCtorEq]; done) | skip
    · unfold cutOK; omega
    · rw [List.take_of_length_le (by omega)]
  · trivial
theorem pok_tag_Carried : POK prog orc f_tag_Carried := by
  refine pok_of ok_tag_Carried mixed (by simp [ac_tag_Carried, acP, callsP, pok_tag_Check]) (by simp [ac_tag_Carried, acS, callsS]) fun args hok => ?_
  show Fits orc nt_tag_Carried rs_tag_Carried ac_tag_Carried args (pCarried args)
  unfold ac_tag_Carried
  unfold pCarried
  split
  · rename_i p d v w
    cases hp : tagOK p v <;> cases hw : tagOK p w
    all_goals refine ⟨fun h => ?_, fun h => ?_⟩
    all_goals first | (exfalso; exact absurd h (by decide)) | refine ⟨rfl, ?_⟩
    all_goals repeat' (first
                | (with_reducible refine st_seq (fun K' hn he hr => ?_)) | (with_reducible refine st_block (fun K' hn he hr => ?_)) | (with_reducible refine st_region ?_) | (with_reducible refine st_draw ?_) | (with_reducible refine st_cond ?_) | (with_reducible refine st_skip ?_) | (with_reducible refine st_exit ?_) | (with_reducible refine st_ret ?_) | (with_reducible refine st_loop ?_)
                | (with_reducible refine st_op (fun G gn => ?_)) | (with_reducible refine st_nil ?_) | (with_reducible refine st_gop ?_) | (with_reducible refine st_dop (fun G gn => ?_)) | (with_reducible refine st_dnil ?_) | (with_reducible refine st_gdop ?_) | (with_reducible refine st_tl ?_)
                | (with_reducible refine gn _ _ ?_; clear gn G)
                | (with_reducible refine gn _ _ _ _ ?_; clear gn G)
                | (with_reducible refine Wr.mk ?_)
                | (with_reducible refine hn _ _ ?_; clear hn he hr K')
                | (with_reducible refine he _ _ _ ?_; clear hn he hr K')
                | (with_reducible refine hr _ _ ?_; clear hn he hr K')
                | ((with_reducible refine Eqn.mk (fun hq => ?_) ?_) <;> first | contradiction | skip)
                | (with_reducible refine Bo.yes (by decide) ?_)
                | (with_reducible refine Bo.no (by decide) ?_)
                | ((with_reducible refine Bo.gen (fun c hb => ?_)) <;> (try simp only [cond_true, cond_false, toD, toDs, dInt, dBool, dStr, dList, dFs, dFld, List.getD_cons_zero, List.getD_cons_succ, Nat.zero_add, eqA, eqAs, decide_true, decide_false, beq_self_eq_true, Bool.not_true, Bool.not_false, Bool.and_true, Bool.true_and, Bool.and_self, cmpI, ↓reduceIte, Bool.false_eq_true, reduceCtorEq, Int.reduceEq, Int.reduceLT, Int.reduceLE, hp, hw] at hb) <;> first | (obtain rfl : c = true := hb) | (obtain rfl : c = false := hb) | skip)
                | ((with_reducible refine Br.cs (fun hq => ?_) (fun hq => ?_)) <;> (try simp only [cond_true, cond_false, toD, toDs, dInt, dBool, dStr, dList, dFs, dFld, List.getD_cons_zero, List.getD_cons_succ, Nat.zero_add, eqA, eqAs, decide_true, decide_false, beq_self_eq_true, Bool.not_true, Bool.not_false, Bool.and_true, Bool.true_and, Bool.and_self, cmpI, ↓reduceIte, Bool.false_eq_true, reduceCtorEq, Int.reduceEq, Int.reduceLT, Int.reduceLE, hp, hw] at hq) <;> first | contradiction | subst hq | skip)
                | (with_reducible refine Nd.mk trivial ?_)
                | (with_reducible refine Nd.mk (by decide) ?_)
                | (with_reducible refine Nd.mk ?_ ?_)
                | (with_reducible refine Leaf.mk rfl ?_)
                | (with_reducible refine LeafS.fin rfl ?_)
                | (with_reducible refine Fin.mk ?_ rfl)
                | (with_reducible refine Fin.mk ?_ ?_)
                | ((with_reducible refine Nx.mk ?_ ?_ ?_ ?_) <;> first | rfl | skip)
                | (conv => whnf
                   first
                     | (with_reducible refine gn _ _ ?_; clear gn G)
                     | (with_reducible refine gn _ _ _ _ ?_; clear gn G)
                     | (with_reducible refine Wr.mk ?_)
                     | (with_reducible refine hn _ _ ?_; clear hn he hr K')
                     | (with_reducible refine he _ _ _ ?_; clear hn he hr K')
                     | (with_reducible refine hr _ _ ?_; clear hn he hr K')
                     | ((with_reducible refine Eqn.mk (fun hq => ?_) ?_) <;> first | contradiction | skip)
                     | (with_reducible refine Bo.yes (by decide) ?_)
                     | (with_reducible refine Bo.no (by decide) ?_)
                     | ((with_reducible refine Bo.gen (fun c hb => ?_)) <;> (try simp only [cond_true, cond_false, toD, toDs, dInt, dBool, dStr, dList, dFs, dFld, List.getD_cons_zero, List.getD_cons_succ, Nat.zero_add, eqA, eqAs, decide_true, decide_false, beq_self_eq_true, Bool.not_true, Bool.not_false, Bool.and_true, Bool.true_and, Bool.and_self, cmpI, ↓reduceIte, Bool.false_eq_true, reduceCtorEq, Int.reduceEq, Int.reduceLT, Int.reduceLE, hp, hw] at hb) <;> first | (obtain rfl : c = true := hb) | (obtain rfl : c = false := hb) | skip)
                     | ((with_reducible refine Br.cs (fun hq => ?_) (fun hq => ?_)) <;> (try simp only [cond_true, cond_false, toD, toDs, dInt, dBool, dStr, dList, dFs, dFld, List.getD_cons_zero, List.getD_cons_succ, Nat.zero_add, eqA, eqAs, decide_true, decide_false, beq_self_eq_true, Bool.not_true, Bool.not_false, Bool.and_true, Bool.true_and, Bool.and_self, cmpI, ↓reduceIte, Bool.false_eq_true, reduceCtorEq, Int.reduceEq, Int.reduceLT, Int.reduceLE, hp, hw] at hq) <;> first | contradiction | subst hq | skip)
                     | (with_reducible refine Nd.mk trivial ?_)
                     | (with_reducible refine Nd.mk (by decide) ?_)
                     | (with_reducible refine Nd.mk ?_ ?_)
                     | (with_reducible refine Leaf.mk rfl ?_)
                     | (with_reducible refine LeafS.fin rfl ?_)
                     | (with_reducible refine Fin.mk ?_ rfl)
                     | (with_reducible refine Fin.mk ?_ ?_)
                     | ((with_reducible refine Nx.mk ?_ ?_ ?_ ?_) <;> first | rfl | skip)))
    all_goals rfl
  · trivial
theorem pok_r02_Carried : POK prog orc f_r02_Carried := by
  refine pok_of ok_r02_Carried mixed (by simp [ac_r02_Carried, acP, callsP, pok_r02_Is]) (by simp [ac_r02_Carried, acS, callsS]) fun args hok => ?_
  show Fits orc nt_r02_Carried rs_r02_Carried ac_r02_Carried args (pCarried args)
  unfold ac_r02_Carried
  unfold pCarried
  split
  · rename_i p d v w
    cases hp : tagOK p v <;> cases hw : tagOK p w
    all_goals refine ⟨fun h => ?_, fun h => ?_⟩
    all_goals first | (exfalso; exact absurd h (by decide)) | refine ⟨rfl, ?_⟩
    all_goals repeat' (first
                | (with_reducible refine st_seq (fun K' hn he hr => ?_)) | (with_reducible refine st_block (fun K' hn he hr => ?_)) | (with_reducible refine st_region ?_) | (with_reducible refine st_draw ?_) | (with_reducible refine st_cond ?_) | (with_reducible refine st_skip ?_) | (with_reducible refine st_exit ?_) | (with_reducible refine st_ret ?_) | (with_reducible refine st_loop ?_)
                | (with_reducible refine st_op (fun G gn => ?_)) | (with_reducible refine st_nil ?_) | (with_reducible refine st_gop ?_) | (with_reducible refine st_dop (fun G gn => ?_)) | (with_reducible refine st_dnil ?_) | (with_reducible refine st_gdop ?_) | (with_reducible refine st_tl ?_)
                | (with_reducible refine gn _ _ ?_; clear gn G)
                | (with_reducible refine gn _ _ _ _ ?_; clear gn G)
                | (with_reducible refine Wr.mk ?_)
                | (with_reducible refine hn _ _ ?_; clear hn he hr K')
                | (with_reducible refine he _ _ _ ?_; clear hn he hr K')
                | (with_reducible refine hr _ _ ?_; clear hn he hr K')
                | ((with_reducible refine Eqn.mk (fun hq => ?_) ?_) <;> first | contradiction | skip)
                | (with_reducible refine Bo.yes (by decide) ?_)
                | (with_reducible refine Bo.no (by decide) ?_)
                | ((with_reducible refine Bo.gen (fun c hb => ?_)) <;> (try simp only [cond_true, cond_false, toD, toDs, dInt, dBool, dStr, dList, dFs, dFld, List.getD_cons_zero, List.getD_cons_succ, Nat.zero_add, eqA, eqAs, decide_true, decide_false, beq_self_eq_true, Bool.not_true, Bool.not_false, Bool.and_true, Bool.true_and, Bool.and_self, cmpI, ↓reduceIte, Bool.false_eq_true, reduceCtorEq, Int.reduceEq, Int.reduceLT, Int.reduceLE, hp, hw] at hb) <;> first | (obtain rfl : c = true := hb) | (obtain rfl : c = false := hb) | skip)
                | ((with_reducible refine Br.cs (fun hq => ?_) (fun hq => ?_)) <;> (try simp only [cond_true, cond_false, toD, toDs, dInt, dBool, dStr, dList, dFs, dFld, List.getD_cons_zero, List.getD_cons_succ, Nat.zero_add, eqA, eqAs, decide_true, decide_false, beq_self_eq_true, Bool.not_true, Bool.not_false, Bool.and_true, Bool.true_and, Bool.and_self, cmpI, ↓reduceIte, Bool.false_eq_true, reduceCtorEq, Int.reduceEq, Int.reduceLT, Int.reduceLE, hp, hw] at hq) <;> first | contradiction | subst hq | skip)
                | (with_reducible refine Nd.mk trivial ?_)
                | (with_reducible refine Nd.mk (by decide) ?_)
                | (with_reducible refine Nd.mk ?_ ?_)
                | (with_reducible refine Leaf.mk rfl ?_)
                | (with_reducible refine LeafS.fin rfl ?_)
                | (with_reducible refine Fin.mk ?_ rfl)
                | (with_reducible refine Fin.mk ?_ ?_)
                | ((with_reducible refine Nx.mk ?_ ?_ ?_ ?_) <;> first | rfl | skip)
                | (conv => whnf
                   first
                     | (with_reducible refine gn _ _ ?_; clear gn G)
                     | (with_reducible refine gn _ _ _ _ ?_; clear gn G)
                     | (with_reducible refine Wr.mk ?_)
                     | (with_reducible refine hn _ _ ?_; clear hn he hr K')
                     | (with_reducible refine he _ _ _ ?_; clear hn he hr K')
                     | (with_reducible refine hr _ _ ?_; clear hn he hr K')
                     | ((with_reducible refine Eqn.mk (fun hq => ?_) ?_) <;> first | contradiction | skip)
                     | (with_reducible refine Bo.yes (by decide) ?_)
                     | (with_reducible refine Bo.no (by decide) ?_)
                     | ((with_reducible refine Bo.gen (fun c hb => ?_)) <;> (try simp only [cond_true, cond_false, toD, toDs, dInt, dBool, dStr, dList, dFs, dFld, List.getD_cons_zero, List.getD_cons_succ, Nat.zero_add, eqA, eqAs, decide_true, decide_false, beq_self_eq_true, Bool.not_true, Bool.not_false, Bool.and_true, Bool.true_and, Bool.and_self, cmpI, ↓reduceIte, Bool.false_eq_true, reduceCtorEq, Int.reduceEq, Int.reduceLT, Int.reduceLE, hp, hw] at hb) <;> first | (obtain rfl : c = true := hb) | (obtain rfl : c = false := hb) | skip)
                     | ((with_reducible refine Br.cs (fun hq => ?_) (fun hq => ?_)) <;> (try simp only [cond_true, cond_false, toD, toDs, dInt, dBool, dStr, dList, dFs, dFld, List.getD_cons_zero, List.getD_cons_succ, Nat.zero_add, eqA, eqAs, decide_true, decide_false, beq_self_eq_true, Bool.not_true, Bool.not_false, Bool.and_true, Bool.true_and, Bool.and_self, cmpI, ↓reduceIte, Bool.false_eq_true, reduceCtorEq, Int.reduceEq, Int.reduceLT, Int.reduceLE, hp, hw] at hq) <;> first | contradiction | subst hq | skip)
                     | (with_reducible refine Nd.mk trivial ?_)
                     | (with_reducible refine Nd.mk (by decide) ?_)
                     | (with_reducible refine Nd.mk ?_ ?_)
                     | (with_reducible refine Leaf.mk rfl ?_)
                     | (with_reducible refine LeafS.fin rfl ?_)
                     | (with_reducible refine Fin.mk ?_ rfl)
                     | (with_reducible refine Fin.mk ?_ ?_)
                     | ((with_reducible refine Nx.mk ?_ ?_ ?_ ?_) <;> first | rfl | skip)))
    all_goals rfl
  · trivial
end Go.Vc.Seat
