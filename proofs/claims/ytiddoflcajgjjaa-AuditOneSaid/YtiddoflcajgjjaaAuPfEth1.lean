/- A part of the proof of the seat's laws: AuPfEth1. It states no claim by itself. -/
import Derived.Test.YtiddoflcajgjjaaAuPfTag7
import Derived.Test.YtiddoflcajgjjaaAuPfAto
set_option linter.unusedVariables false
set_option linter.unusedSimpArgs false
namespace Go.Vc.Seat
open Go.Vc Go.Proofs.Try

theorem pok_mac_Many : POK prog orc f_mac_Many := by
  refine pok_of ok_mac_Many mixed (by simp [ac_mac_Many, acP, callsP]) (by simp [ac_mac_Many, acS, callsS]) fun args hok => ?_
  show Fits orc nt_mac_Many rs_mac_Many ac_mac_Many args (pMany args)
  unfold ac_mac_Many
  unfold pMany
  split
  · rename_i m
    simp only [okAs, okA, maxLen] at hok
    have h0 := ato_le hok.1.2 0
    have e1 : bitI .and .u8 (m.getD 0 (.i 0)).int 1 = ato m 0 % 2 := by
      unfold ato at h0 ⊢
      rw [bit_and (k := .u8) (x := (m.getD 0 (.i 0)).int) (y := 1) rfl 1 (by decide) (by omega) (show _ < (2 : Int) ^ 8 by omega) rfl]; rfl
    refine ⟨rfl, ?_⟩
    repeat' (first | (with_reducible first | refine st_seq (fun K' hn he hr => ?_) | refine st_block (fun K' hn he hr => ?_) | refine st_region ?_ | refine st_draw ?_ | refine st_cond ?_ | refine st_loop ?_ | refine st_op (fun G gn => ?_) | refine st_gop ?_ | refine st_dop (fun G gn => ?_) | refine st_gdop ?_ | refine st_tl ?_) | ((conv => whnf); first | (with_reducible first | (refine gn _ _ ?_; clear gn G) | (refine gn _ _ _ _ ?_; clear gn G) | refine Wr.mk ?_ | (refine hn _ _ ?_; clear hn he hr K') | (refine he _ _ _ ?_; clear hn he hr K') | (refine hr _ _ ?_; clear hn he hr K') | refine Bo.yes (by decide) ?_ | refine Bo.no (by decide) ?_ | refine Nd.mk trivial ?_ | refine Nd.mk (by decide) ?_ | refine Nd.mk ?_ ?_ | refine Leaf.mk rfl ?_ | refine Fin.mk ?_ rfl | refine Fin.mk ?_ ?_) | ((with_reducible refine Eqn.mk (fun hq => ?_) ?_) <;> try contradiction) | ((with_reducible refine Bo.gen (fun c hb => ?_)) <;> (try simp only [Nat.reduceAdd, Int.reduceToNat, toD, toDs, bl0] at hb) <;> (try simp only [↓reduceIte, reduceCtorEq, Int.reduceEq, Int.reduceLT, Int.reduceLE, eqA, eqAs, cmpI, bl1, toD, toDs, bl0] at hb) <;> first | (obtain rfl : c = true := hb) | (obtain rfl : c = false := hb) | skip) | ((with_reducible refine Br.cs (fun hq => ?_) (fun hq => ?_)) <;> (try simp only [↓reduceIte, reduceCtorEq, Int.reduceEq, Int.reduceLT, Int.reduceLE, eqA, eqAs, cmpI, bl1, toD, toDs, bl0] at hq) <;> first | contradiction | subst hq | skip) | ((with_reducible refine Nx.mk ?_ ?_ ?_ ?_) <;> try rfl)))
    all_goals (try simp only [toD, toDs, dInt, dBool, dStr, dList, dFs, dFld, List.getD_cons_zero, List.getD_cons_succ, Nat.zero_add, Int.reduceToNat, Nat.reduceAdd, setPartsD, zeroDs, List.replicate, List.set_cons_zero, List.set_cons_succ, zeroD, Nat.reduceMul, Nat.reducePow, Int.reducePow, Int.reduceMul, Nat.min_def, IntKind.bits, Nat.reduceLeDiff, ct_eq, cf_eq, ct_ne, cf_ne, ct_lt, cf_lt, ct_le, cf_le, ct_gt, cf_gt, ct_ge, cf_ge, ct_not, cf_not, ct_and, cf_and, ct_dec, cf_dec, cond_true, cond_false, i_nil, Int.toNat_natCast, Nat.sub_zero, List.drop_zero, ↓reduceIte, Bool.false_eq_true, Int.sub_zero, Int.add_zero, e1] at *)
    all_goals first | contradiction | (exfalso; omega) | (exfalso; simp_all only [Bool.false_eq_true, reduceCtorEq]; done) | skip
    subst_vars
    rfl
  · trivial
theorem six_step {P : Nat → Prop} {i : Nat} (h : ∀ j, j < i → P j) (hi : P i) : ∀ j, j < i + 1 → P j := fun j hj => by
  rcases Nat.lt_or_eq_of_le (Nat.le_of_lt_succ hj) with h1 | h1
  · exact h j h1
  · subst h1; exact hi
theorem pok_r01_same : POK prog orc f_r01_same := by
  refine pok_of ok_r01_same mixed (by simp [ac_r01_same, acP, callsP]) (by simp [ac_r01_same, acS, callsS]) fun args hok => ?_
  show Fits orc nt_r01_same rs_r01_same ac_r01_same args (pSame1 args)
  unfold ac_r01_same
  unfold pSame1
  split
  · rename_i m b
    simp only [okAs, okA, maxLen] at hok
    obtain ⟨⟨hl, hm⟩, _⟩ := hok
    refine ⟨rfl, ?_⟩
    repeat' (first | (with_reducible first | refine st_seq (fun K' hn he hr => ?_) | refine st_block (fun K' hn he hr => ?_) | refine st_region ?_ | refine st_draw ?_ | refine st_cond ?_ | refine st_loop ?_ | refine st_op (fun G gn => ?_) | refine st_gop ?_ | refine st_dop (fun G gn => ?_) | refine st_gdop ?_ | refine st_tl ?_) | ((conv => whnf); first | (with_reducible first | (refine gn _ _ ?_; clear gn G) | (refine gn _ _ _ _ ?_; clear gn G) | refine Wr.mk ?_ | (refine hn _ _ ?_; clear hn he hr K') | (refine he _ _ _ ?_; clear hn he hr K') | (refine hr _ _ ?_; clear hn he hr K') | refine Bo.yes (by decide) ?_ | refine Bo.no (by decide) ?_ | refine Nd.mk trivial ?_ | refine Nd.mk (by decide) ?_ | refine Nd.mk ?_ ?_ | refine Leaf.mk rfl ?_ | refine Fin.mk ?_ rfl | refine Fin.mk ?_ ?_) | ((with_reducible refine Eqn.mk (fun hq => ?_) ?_) <;> try contradiction) | ((with_reducible refine Bo.gen (fun c hb => ?_)) <;> (try simp only [Nat.reduceAdd, Int.reduceToNat, toD, toDs, bl0] at hb) <;> (try simp only [↓reduceIte, reduceCtorEq, Int.reduceEq, Int.reduceLT, Int.reduceLE, eqA, eqAs, cmpI, bl1, toD, toDs, bl0] at hb) <;> first | (obtain rfl : c = true := hb) | (obtain rfl : c = false := hb) | skip) | ((with_reducible refine Br.cs (fun hq => ?_) (fun hq => ?_)) <;> (try simp only [↓reduceIte, reduceCtorEq, Int.reduceEq, Int.reduceLT, Int.reduceLE, eqA, eqAs, cmpI, bl1, toD, toDs, bl0] at hq) <;> first | contradiction | subst hq | skip) | ((with_reducible refine Nx.mk ?_ ?_ ?_ ?_) <;> try rfl)))
    refine loop_of (fun i : Nat => [(1, .int .u8 b), (2, .cptr (.arr 6 (.int .u8)) (.a m)), (5, .int .i64 i)]) (fun i => []) (fun i => i ≤ 6 ∧ ∀ j, j < i → ato m j = b) (fun i => 6 - i) 0 rfl rfl ⟨by omega, fun j hj => by omega⟩ (fun _ _ => rfl) ?_
    intro i hi J hJ K' hn he hr
    have hw : i < 6 → IntKind.i64.wrap ((i : Int) + 1) = ((i + 1 : Nat) : Int) := fun _ => wi64_in (by omega) (by omega)
    repeat' (first | (with_reducible first | refine st_seq (fun K' hn he hr => ?_) | refine st_block (fun K' hn he hr => ?_) | refine st_region ?_ | refine st_draw ?_ | refine st_cond ?_ | refine st_loop ?_ | refine st_op (fun G gn => ?_) | refine st_gop ?_ | refine st_dop (fun G gn => ?_) | refine st_gdop ?_ | refine st_tl ?_) | ((conv => whnf); first | (with_reducible first | (refine gn _ _ ?_; clear gn G) | (refine gn _ _ _ _ ?_; clear gn G) | refine Wr.mk ?_ | (refine hn _ _ ?_; clear hn he hr K') | (refine he _ _ _ ?_; clear hn he hr K') | (refine hr _ _ ?_; clear hn he hr K') | refine Bo.yes (by decide) ?_ | refine Bo.no (by decide) ?_ | refine Nd.mk trivial ?_ | refine Nd.mk (by decide) ?_ | refine Nd.mk ?_ ?_ | refine Leaf.mk rfl ?_ | refine Fin.mk ?_ rfl | refine Fin.mk ?_ ?_) | ((with_reducible refine Eqn.mk (fun hq => ?_) ?_) <;> try contradiction) | ((with_reducible refine Bo.gen (fun c hb => ?_)) <;> (try simp only [Nat.reduceAdd, Int.reduceToNat, toD, toDs, bl0] at hb) <;> (try simp only [↓reduceIte, reduceCtorEq, Int.reduceEq, Int.reduceLT, Int.reduceLE, eqA, eqAs, cmpI, bl1, toD, toDs, bl0] at hb) <;> first | (obtain rfl : c = true := hb) | (obtain rfl : c = false := hb) | skip) | ((with_reducible refine Br.cs (fun hq => ?_) (fun hq => ?_)) <;> (try simp only [↓reduceIte, reduceCtorEq, Int.reduceEq, Int.reduceLT, Int.reduceLE, eqA, eqAs, cmpI, bl1, toD, toDs, bl0] at hq) <;> first | contradiction | subst hq | skip) | ((with_reducible refine Nx.mk ?_ ?_ ?_ ?_) <;> try rfl)))
    all_goals (try simp only [toD, toDs, dInt, dBool, dStr, dList, dFs, dFld, List.getD_cons_zero, List.getD_cons_succ, Nat.zero_add, Int.reduceToNat, Nat.reduceAdd, setPartsD, zeroDs, List.replicate, List.set_cons_zero, List.set_cons_succ, zeroD, Nat.reduceMul, Nat.reducePow, Int.reducePow, Int.reduceMul, Nat.min_def, IntKind.bits, Nat.reduceLeDiff, ct_eq, cf_eq, ct_ne, cf_ne, ct_lt, cf_lt, ct_le, cf_le, ct_gt, cf_gt, ct_ge, cf_ge, ct_not, cf_not, ct_and, cf_and, ct_dec, cf_dec, cond_true, cond_false, i_nil, Int.toNat_natCast, Nat.sub_zero, List.drop_zero, ↓reduceIte, Bool.false_eq_true, Int.sub_zero, Int.add_zero] at *)
    all_goals first | contradiction | (exfalso; omega) | (exfalso; simp_all only [Bool.false_eq_true, reduceCtorEq]; done) | skip
    · omega
    · have hb1 := hb
      have e1 : ¬ (ato m i = b) := of_decide_eq_false hb1
      have e2 : all6 m b = false := by
        rw [all6, decide_eq_false_iff_not]
        rintro ⟨q0, q1, q2, q3, q4, q5⟩
        have hi6 : i < 6 := by omega
        match i, hi6 with
        | 0, _ => exact e1 q0
        | 1, _ => exact e1 q1
        | 2, _ => exact e1 q2
        | 3, _ => exact e1 q3
        | 4, _ => exact e1 q4
        | 5, _ => exact e1 q5
      rw [e2]
    · have hb1 := hb
      refine J_of (hJ (i + 1) ⟨by omega, six_step hi.2 (of_decide_eq_true hb1)⟩ (by omega)) ?_ rfl
      rw [hw (by omega)]
    · have : i = 6 := by omega
      subst this
      have e2 : all6 m b = true := by
        rw [all6_iff]
        exact ⟨hi.2 0 (by omega), hi.2 1 (by omega), hi.2 2 (by omega), hi.2 3 (by omega), hi.2 4 (by omega), hi.2 5 (by omega)⟩
      rw [e2]
  · trivial
set_option maxRecDepth 20000 in
set_option maxHeartbeats 4000000 in
theorem pok_r01_Kind : POK prog orc f_r01_Kind := by
  refine pok_of ok_r01_Kind mixed (by simp [ac_r01_Kind, acP, callsP, pok_r01_same]) (by simp [ac_r01_Kind, acS, callsS]) fun args hok => ?_
  show Fits orc nt_r01_Kind rs_r01_Kind ac_r01_Kind args (pKind args)
  unfold ac_r01_Kind
  unfold pKind
  split
  · rename_i m
    simp only [okAs, okA, maxLen] at hok
    have h0 := ato_le hok.1.2 0
    have f0 : ato m 0 = (m.getD 0 (.i 0)).int := rfl
    have f1 : ato m 1 = (m.getD 1 (.i 0)).int := rfl
    have f2 : ato m 2 = (m.getD 2 (.i 0)).int := rfl
    have f3 : ato m 3 = (m.getD 3 (.i 0)).int := rfl
    have f4 : ato m 4 = (m.getD 4 (.i 0)).int := rfl
    have f5 : ato m 5 = (m.getD 5 (.i 0)).int := rfl
    have e0 : (m.getD 0 (.i 0)).int.tmod 2 = (m.getD 0 (.i 0)).int % 2 := Int.tmod_eq_emod_of_nonneg h0.1
    refine ⟨rfl, ?_⟩
    repeat' (first | (with_reducible first | refine st_seq (fun K' hn he hr => ?_) | refine st_block (fun K' hn he hr => ?_) | refine st_region ?_ | refine st_draw ?_ | refine st_cond ?_ | refine st_loop ?_ | refine st_op (fun G gn => ?_) | refine st_gop ?_ | refine st_dop (fun G gn => ?_) | refine st_gdop ?_ | refine st_tl ?_) | ((conv => whnf); first | (with_reducible first | (refine gn _ _ ?_; clear gn G) | (refine gn _ _ _ _ ?_; clear gn G) | refine Wr.mk ?_ | (refine hn _ _ ?_; clear hn he hr K') | (refine he _ _ _ ?_; clear hn he hr K') | (refine hr _ _ ?_; clear hn he hr K') | refine Bo.yes (by decide) ?_ | refine Bo.no (by decide) ?_ | refine Nd.mk trivial ?_ | refine Nd.mk (by decide) ?_ | refine Nd.mk ?_ ?_ | refine Leaf.mk rfl ?_ | refine Fin.mk ?_ rfl | refine Fin.mk ?_ ?_) | ((with_reducible refine Eqn.mk (fun hq => ?_) ?_) <;> try contradiction) | ((with_reducible refine Bo.gen (fun c hb => ?_)) <;> (try simp only [Nat.reduceAdd, Int.reduceToNat, toD, toDs, bl0] at hb) <;> (try simp only [↓reduceIte, reduceCtorEq, Int.reduceEq, Int.reduceLT, Int.reduceLE, eqA, eqAs, cmpI, bl1, toD, toDs, bl0] at hb) <;> first | (obtain rfl : c = true := hb) | (obtain rfl : c = false := hb) | skip) | ((with_reducible refine Br.cs (fun hq => ?_) (fun hq => ?_)) <;> (try simp only [↓reduceIte, reduceCtorEq, Int.reduceEq, Int.reduceLT, Int.reduceLE, eqA, eqAs, cmpI, bl1, toD, toDs, bl0] at hq) <;> first | contradiction | subst hq | skip) | ((with_reducible refine Nx.mk ?_ ?_ ?_ ?_) <;> try rfl)))
    all_goals (clear hok; refine congrArg (AV.int .i64) ?_; simp only [all6, ctd, cfd, dtd, dfd, e0] at *; unfold macKind; repeat' split)
    all_goals first | rfl | (exfalso; omega)
  · trivial
end Go.Vc.Seat
