/- A part of the proof of the seat's laws: PfPbb18. It states no claim by itself. -/
import Derived.Test.YtdhfofnfhlnjbaaPfPbb17
set_option linter.unusedVariables false
set_option linter.unusedSimpArgs false
namespace Go.Vc.Seat
open Go.Vc Go.Proofs.Try
set_option maxRecDepth 20000 in
set_option maxHeartbeats 8000000 in
theorem pok_r04_Decode : POK prog orc f_r04_Decode := by
  refine pok_of ok_r04_Decode mixed (by simp [ac_r04_Decode, acP, callsP, pok_r02_Take, pok_r02_TakeI, pok_r04_Check, pok_r04_u8s]) (by simp [ac_r04_Decode, acS, callsS]) fun args hok => ?_
  show Fits orc nt_r04_Decode rs_r04_Decode ac_r04_Decode args (pBfDec args)
  unfold ac_r04_Decode
  unfold pBfDec
  split
  · rename_i xs
    simp only [okAs, okA, maxLen] at hok
    have r14 : List.take ((xs.length : Int).toNat - Int.toNat 14) (List.drop (Int.toNat 14) xs) = xs.drop 14 := tda 14 xs
    have r18 : List.take ((xs.length : Int).toNat - Int.toNat 18) (List.drop (Int.toNat 18) xs) = xs.drop 18 := tda 18 xs
    have r34 : List.take ((xs.length : Int).toNat - Int.toNat 34) (List.drop (Int.toNat 34) xs) = xs.drop 34 := tda 34 xs
    refine ⟨fun h1 => ⟨rfl, ?_⟩, fun h1 => ⟨fun h2 hc => ⟨rfl, ?_⟩, fun h2 => ⟨fun h3 => ⟨rfl, ?_⟩, fun h3 => ⟨rfl, ?_⟩⟩⟩⟩
    all_goals simp only [Bool.not_eq_true', Bool.not_eq_false', short_iff, short_f] at *
    · have l1 : (xs.length : Int) < 36 := by omega
      repeat' (first
        | (with_reducible first | refine st_seq (fun K' hn he hr => ?_) | refine st_block (fun K' hn he hr => ?_) | refine st_region ?_ | refine st_draw ?_ | refine st_cond ?_ | refine st_skip ?_ | refine st_exit ?_ | refine st_ret ?_ | refine st_loop ?_ | refine st_op (fun G gn => ?_) | refine st_nil ?_ | refine st_gop ?_ | refine st_dop (fun G gn => ?_) | refine st_dnil ?_ | refine st_gdop ?_ | refine st_tl ?_)
        | (with_reducible refine gn _ _ ?_; clear gn G)
        | (with_reducible refine gn _ _ _ _ ?_; clear gn G)
        | (with_reducible refine Wr.mk ?_)
        | (with_reducible refine hn _ _ ?_; clear hn he hr K')
        | (with_reducible refine he _ _ _ ?_; clear hn he hr K')
        | (with_reducible refine hr _ _ ?_; clear hn he hr K')
        | ((with_reducible refine Eqn.mk (fun hq => ?_) ?_) <;> first | contradiction | skip)
        | (with_reducible refine Bo.yes (by decide) ?_)
        | (with_reducible refine Bo.no (by decide) ?_)
        | ((with_reducible refine Bo.gen (fun c hb => ?_)) <;> (try simp only [Nat.reduceAdd, toD, toDs, dInt, dBool, dStr, dList, dFs, dFld, List.getD_cons_zero, List.getD_cons_succ, Nat.zero_add, Int.reduceToNat] at hb) <;> (try simp only [cond_true, cond_false, toD, toDs, dInt, dBool, dStr, dList, dFs, dFld, List.getD_cons_zero, List.getD_cons_succ, Nat.zero_add, eqA, eqAs, decide_true, decide_false, beq_self_eq_true, Bool.not_true, Bool.not_false, Bool.and_true, Bool.true_and, Bool.and_self, cmpI, ↓reduceIte, Bool.false_eq_true, reduceCtorEq, Int.reduceEq, Int.reduceLT, Int.reduceLE, l1] at hb) <;> first | (obtain rfl : c = true := hb) | (obtain rfl : c = false := hb) | skip)
        | ((with_reducible refine Br.cs (fun hq => ?_) (fun hq => ?_)) <;> (try simp only [cond_true, cond_false, toD, toDs, dInt, dBool, dStr, dList, dFs, dFld, List.getD_cons_zero, List.getD_cons_succ, Nat.zero_add, eqA, eqAs, decide_true, decide_false, beq_self_eq_true, Bool.not_true, Bool.not_false, Bool.and_true, Bool.true_and, Bool.and_self, cmpI, ↓reduceIte, Bool.false_eq_true, reduceCtorEq, Int.reduceEq, Int.reduceLT, Int.reduceLE, l1] at hq) <;> first | contradiction | subst hq | skip)
        | (with_reducible refine Nd.mk trivial ?_)
        | (with_reducible refine Nd.mk (by decide) ?_)
        | (with_reducible refine Nd.mk ?_ ?_)
        | (with_reducible refine Leaf.mk rfl ?_)
        | (with_reducible refine LeafS.fin rfl ?_)
        | (with_reducible refine Fin.mk ?_ rfl)
        | (with_reducible refine Fin.mk ?_ ?_)
        | ((with_reducible refine Nx.mk ?_ ?_ ?_ ?_) <;> first | rfl | skip)
        | (conv => whnf
           first
             | (with_reducible refine gn _ _ ?_; clear gn G)
             | (with_reducible refine gn _ _ _ _ ?_; clear gn G)
             | (with_reducible refine Wr.mk ?_)
             | (with_reducible refine hn _ _ ?_; clear hn he hr K')
             | (with_reducible refine he _ _ _ ?_; clear hn he hr K')
             | (with_reducible refine hr _ _ ?_; clear hn he hr K')
             | (with_reducible refine Nd.mk trivial ?_)
             | (with_reducible refine Nd.mk (by decide) ?_)
             | (with_reducible refine Nd.mk ?_ ?_)
             | (with_reducible refine Leaf.mk rfl ?_)
             | (with_reducible refine LeafS.fin rfl ?_)
             | (with_reducible refine Fin.mk ?_ rfl)
             | (with_reducible refine Fin.mk ?_ ?_)
             | ((with_reducible refine Nx.mk ?_ ?_ ?_ ?_) <;> first | rfl | skip)
             | (with_reducible show Bo _ _)
             | (with_reducible show Br _ _ _)
             | (with_reducible show Eqn _ _ _)))
      all_goals first | rfl | omega
    · have l1 : ¬ (xs.length : Int) < 36 := by omega
      have l2 : 1536 < (xs.length : Int) := by omega
      repeat' (first
        | (with_reducible first | refine st_seq (fun K' hn he hr => ?_) | refine st_block (fun K' hn he hr => ?_) | refine st_region ?_ | refine st_draw ?_ | refine st_cond ?_ | refine st_skip ?_ | refine st_exit ?_ | refine st_ret ?_ | refine st_loop ?_ | refine st_op (fun G gn => ?_) | refine st_nil ?_ | refine st_gop ?_ | refine st_dop (fun G gn => ?_) | refine st_dnil ?_ | refine st_gdop ?_ | refine st_tl ?_)
        | (with_reducible refine gn _ _ ?_; clear gn G)
        | (with_reducible refine gn _ _ _ _ ?_; clear gn G)
        | (with_reducible refine Wr.mk ?_)
        | (with_reducible refine hn _ _ ?_; clear hn he hr K')
        | (with_reducible refine he _ _ _ ?_; clear hn he hr K')
        | (with_reducible refine hr _ _ ?_; clear hn he hr K')
        | ((with_reducible refine Eqn.mk (fun hq => ?_) ?_) <;> first | contradiction | skip)
        | (with_reducible refine Bo.yes (by decide) ?_)
        | (with_reducible refine Bo.no (by decide) ?_)
        | ((with_reducible refine Bo.gen (fun c hb => ?_)) <;> (try simp only [Nat.reduceAdd, toD, toDs, dInt, dBool, dStr, dList, dFs, dFld, List.getD_cons_zero, List.getD_cons_succ, Nat.zero_add, Int.reduceToNat] at hb) <;> (try simp only [cond_true, cond_false, toD, toDs, dInt, dBool, dStr, dList, dFs, dFld, List.getD_cons_zero, List.getD_cons_succ, Nat.zero_add, eqA, eqAs, decide_true, decide_false, beq_self_eq_true, Bool.not_true, Bool.not_false, Bool.and_true, Bool.true_and, Bool.and_self, cmpI, ↓reduceIte, Bool.false_eq_true, reduceCtorEq, Int.reduceEq, Int.reduceLT, Int.reduceLE, l1, l2] at hb) <;> first | (obtain rfl : c = true := hb) | (obtain rfl : c = false := hb) | skip)
        | ((with_reducible refine Br.cs (fun hq => ?_) (fun hq => ?_)) <;> (try simp only [cond_true, cond_false, toD, toDs, dInt, dBool, dStr, dList, dFs, dFld, List.getD_cons_zero, List.getD_cons_succ, Nat.zero_add, eqA, eqAs, decide_true, decide_false, beq_self_eq_true, Bool.not_true, Bool.not_false, Bool.and_true, Bool.true_and, Bool.and_self, cmpI, ↓reduceIte, Bool.false_eq_true, reduceCtorEq, Int.reduceEq, Int.reduceLT, Int.reduceLE, l1, l2] at hq) <;> first | contradiction | subst hq | skip)
        | (with_reducible refine Nd.mk trivial ?_)
        | (with_reducible refine Nd.mk (by decide) ?_)
        | (with_reducible refine Nd.mk ?_ ?_)
        | (with_reducible refine Leaf.mk rfl ?_)
        | (with_reducible refine LeafS.fin rfl ?_)
        | (with_reducible refine Fin.mk ?_ rfl)
        | (with_reducible refine Fin.mk ?_ ?_)
        | ((with_reducible refine Nx.mk ?_ ?_ ?_ ?_) <;> first | rfl | skip)
        | (conv => whnf
           first
             | (with_reducible refine gn _ _ ?_; clear gn G)
             | (with_reducible refine gn _ _ _ _ ?_; clear gn G)
             | (with_reducible refine Wr.mk ?_)
             | (with_reducible refine hn _ _ ?_; clear hn he hr K')
             | (with_reducible refine he _ _ _ ?_; clear hn he hr K')
             | (with_reducible refine hr _ _ ?_; clear hn he hr K')
             | (with_reducible refine Nd.mk trivial ?_)
             | (with_reducible refine Nd.mk (by decide) ?_)
             | (with_reducible refine Nd.mk ?_ ?_)
             | (with_reducible refine Leaf.mk rfl ?_)
             | (with_reducible refine LeafS.fin rfl ?_)
             | (with_reducible refine Fin.mk ?_ rfl)
             | (with_reducible refine Fin.mk ?_ ?_)
             | ((with_reducible refine Nx.mk ?_ ?_ ?_ ?_) <;> first | rfl | skip)
             | (with_reducible show Bo _ _)
             | (with_reducible show Br _ _ _)
             | (with_reducible show Eqn _ _ _)))
      all_goals first | rfl | omega
    · have l1 : ¬ (xs.length : Int) < 36 := by omega
      have l2 : ¬ 1536 < (xs.length : Int) := by omega
      have k0 : decide (xs.length - 14 < 2) = false := by simp; omega
      have k1 : ato (List.drop 14 xs) 0 * 256 + ato (List.drop 14 xs) 1 = n2 (List.drop 14 xs) := rfl
      have k2 : decide (xs.length - 18 < 16) = false := by simp; omega
      have k3 : ato (List.drop 18 xs) 0 = ato xs 18 := ato_drop
      have k4 : ato (List.drop 18 xs) 1 = ato xs 19 := ato_drop
      have k5 : ato (List.drop 18 xs) 2 = ato xs 20 := ato_drop
      have k6 : ato (List.drop 18 xs) 3 = ato xs 21 := ato_drop
      rw [bdOK_eq] at h3
      simp only [Bool.and_eq_true] at h3
      obtain ⟨⟨⟨hty, tk⟩, i8⟩, hz⟩ := h3
      have hz := isZ_iff.1 hz
      have i8' : decide (ato xs 18 % 8 = 0) = true := i8
      have hbt := (W_bytes hok.1.2 (by omega) i8).2 hty
      have hb := (bfOK_iff.1 (bchk_0 hz).2)
      have hall : tagOK (n2 (xs.drop 14) / 8192) (n2 (xs.drop 14) % 4096) = true ∧ itagOK (ato xs 18 / 32) (ato xs 19 * 65536 + ato xs 20 * 256 + ato xs 21) = true ∧ (xs.drop 34).length ≤ 100000 := ⟨hb.2.2.1, hb.2.2.2.1, by rw [List.length_drop]; omega⟩
      clear hb
      repeat' (first
        | (with_reducible first | refine st_seq (fun K' hn he hr => ?_) | refine st_block (fun K' hn he hr => ?_) | refine st_region ?_ | refine st_draw ?_ | refine st_cond ?_ | refine st_skip ?_ | refine st_exit ?_ | refine st_ret ?_ | refine st_loop ?_ | refine st_op (fun G gn => ?_) | refine st_nil ?_ | refine st_gop ?_ | refine st_dop (fun G gn => ?_) | refine st_dnil ?_ | refine st_gdop ?_ | refine st_tl ?_)
        | (with_reducible refine gn _ _ ?_; clear gn G)
        | (with_reducible refine gn _ _ _ _ ?_; clear gn G)
        | (with_reducible refine Wr.mk ?_)
        | (with_reducible refine hn _ _ ?_; clear hn he hr K')
        | (with_reducible refine he _ _ _ ?_; clear hn he hr K')
        | (with_reducible refine hr _ _ ?_; clear hn he hr K')
        | ((with_reducible refine Eqn.mk (fun hq => ?_) ?_) <;> first | contradiction | skip)
        | (with_reducible refine Bo.yes (by decide) ?_)
        | (with_reducible refine Bo.no (by decide) ?_)
        | ((with_reducible refine Bo.gen (fun c hb => ?_)) <;> (try simp only [Nat.reduceAdd, toD, toDs, dInt, dBool, dStr, dList, dFs, dFld, List.getD_cons_zero, List.getD_cons_succ, Nat.zero_add, Int.reduceToNat] at hb) <;> (try simp only [cond_true, cond_false, toD, toDs, dInt, dBool, dStr, dList, dFs, dFld, List.getD_cons_zero, List.getD_cons_succ, Nat.zero_add, eqA, eqAs, decide_true, decide_false, beq_self_eq_true, Bool.not_true, Bool.not_false, Bool.and_true, Bool.true_and, Bool.and_self, cmpI, ↓reduceIte, Bool.false_eq_true, reduceCtorEq, Int.reduceEq, Int.reduceLT, Int.reduceLE, l1, l2] at hb) <;> first | (obtain rfl : c = true := hb) | (obtain rfl : c = false := hb) | skip)
        | ((with_reducible refine Br.cs (fun hq => ?_) (fun hq => ?_)) <;> (try simp only [cond_true, cond_false, toD, toDs, dInt, dBool, dStr, dList, dFs, dFld, List.getD_cons_zero, List.getD_cons_succ, Nat.zero_add, eqA, eqAs, decide_true, decide_false, beq_self_eq_true, Bool.not_true, Bool.not_false, Bool.and_true, Bool.true_and, Bool.and_self, cmpI, ↓reduceIte, Bool.false_eq_true, reduceCtorEq, Int.reduceEq, Int.reduceLT, Int.reduceLE, l1, l2] at hq) <;> first | contradiction | subst hq | skip)
        | (with_reducible refine Nd.mk trivial ?_)
        | (with_reducible refine Nd.mk (by decide) ?_)
        | (with_reducible refine Nd.mk ?_ ?_)
        | (with_reducible refine Leaf.mk rfl ?_)
        | (with_reducible refine LeafS.fin rfl ?_)
        | (with_reducible refine Fin.mk ?_ rfl)
        | (with_reducible refine Fin.mk ?_ ?_)
        | ((with_reducible refine Nx.mk ?_ ?_ ?_ ?_) <;> first | rfl | skip)
        | (conv => whnf
           first
             | (with_reducible refine gn _ _ ?_; clear gn G)
             | (with_reducible refine gn _ _ _ _ ?_; clear gn G)
             | (with_reducible refine Wr.mk ?_)
             | (with_reducible refine hn _ _ ?_; clear hn he hr K')
             | (with_reducible refine he _ _ _ ?_; clear hn he hr K')
             | (with_reducible refine hr _ _ ?_; clear hn he hr K')
             | (with_reducible refine Nd.mk trivial ?_)
             | (with_reducible refine Nd.mk (by decide) ?_)
             | (with_reducible refine Nd.mk ?_ ?_)
             | (with_reducible refine Leaf.mk rfl ?_)
             | (with_reducible refine LeafS.fin rfl ?_)
             | (with_reducible refine Fin.mk ?_ rfl)
             | (with_reducible refine Fin.mk ?_ ?_)
             | ((with_reducible refine Nx.mk ?_ ?_ ?_ ?_) <;> first | rfl | skip)
             | (with_reducible show Bo _ _)
             | (with_reducible show Br _ _ _)
             | (with_reducible show Eqn _ _ _)))
      have hn0 := hn
      have he0 := he
      have hr0 := hr
      clear hn he hr
      refine loop_of (fun i : Nat => [(0, .sl u8 xs .no), (2, .ptr 0 [] TBf), (4, .ptr 1 [] TBf), (5, .int .i64 i)])
        (fun i : Nat => [.var TBf bf0 false, .var TBf (bfA (xs.take i ++ List.replicate (6 - i) (.i 0)) ((xs.drop 6).take i ++ List.replicate (6 - i) (.i 0)) 0 false 0 0 false false 0 six0 six0 [] .no) false])
        (fun i => i ≤ 6) (fun i => 6 - i) 0 rfl rfl (by omega) (fun _ _ => rfl) ?_
      intro i hi J hJ K' hn he hr
      have hw6 : i < 6 → IntKind.i64.wrap (6 + (i : Int)) = 6 + i := fun _ => wi64_in (by omega) (by omega)
      have hw1 : i < 6 → IntKind.i64.wrap ((i : Int) + 1) = ((i + 1 : Nat) : Int) := fun _ => wi64_in (by omega) (by omega)
      repeat' (first
        | (with_reducible first | refine st_seq (fun K' hn he hr => ?_) | refine st_block (fun K' hn he hr => ?_) | refine st_region ?_ | refine st_draw ?_ | refine st_cond ?_ | refine st_skip ?_ | refine st_exit ?_ | refine st_ret ?_ | refine st_loop ?_ | refine st_op (fun G gn => ?_) | refine st_nil ?_ | refine st_gop ?_ | refine st_dop (fun G gn => ?_) | refine st_dnil ?_ | refine st_gdop ?_ | refine st_tl ?_)
        | (with_reducible refine gn _ _ ?_; clear gn G)
        | (with_reducible refine gn _ _ _ _ ?_; clear gn G)
        | (with_reducible refine Wr.mk ?_)
        | (with_reducible refine hn _ _ ?_; clear hn he hr K')
        | (with_reducible refine he _ _ _ ?_; clear hn he hr K')
        | (with_reducible refine hr _ _ ?_; clear hn he hr K')
        | ((with_reducible refine Eqn.mk (fun hq => ?_) ?_) <;> first | contradiction | skip)
        | (with_reducible refine Bo.yes (by decide) ?_)
        | (with_reducible refine Bo.no (by decide) ?_)
        | ((with_reducible refine Bo.gen (fun c hb => ?_)) <;> (try simp only [Nat.reduceAdd, toD, toDs, dInt, dBool, dStr, dList, dFs, dFld, List.getD_cons_zero, List.getD_cons_succ, Nat.zero_add, Int.reduceToNat] at hb) <;> (try simp only [cond_true, cond_false, toD, toDs, dInt, dBool, dStr, dList, dFs, dFld, List.getD_cons_zero, List.getD_cons_succ, Nat.zero_add, eqA, eqAs, decide_true, decide_false, beq_self_eq_true, Bool.not_true, Bool.not_false, Bool.and_true, Bool.true_and, Bool.and_self, cmpI, ↓reduceIte, Bool.false_eq_true, reduceCtorEq, Int.reduceEq, Int.reduceLT, Int.reduceLE] at hb) <;> first | (obtain rfl : c = true := hb) | (obtain rfl : c = false := hb) | skip)
        | ((with_reducible refine Br.cs (fun hq => ?_) (fun hq => ?_)) <;> (try simp only [cond_true, cond_false, toD, toDs, dInt, dBool, dStr, dList, dFs, dFld, List.getD_cons_zero, List.getD_cons_succ, Nat.zero_add, eqA, eqAs, decide_true, decide_false, beq_self_eq_true, Bool.not_true, Bool.not_false, Bool.and_true, Bool.true_and, Bool.and_self, cmpI, ↓reduceIte, Bool.false_eq_true, reduceCtorEq, Int.reduceEq, Int.reduceLT, Int.reduceLE] at hq) <;> first | contradiction | subst hq | skip)
        | (with_reducible refine Nd.mk trivial ?_)
        | (with_reducible refine Nd.mk (by decide) ?_)
        | (with_reducible refine Nd.mk ?_ ?_)
        | (with_reducible refine Leaf.mk rfl ?_)
        | (with_reducible refine LeafS.fin rfl ?_)
        | (with_reducible refine Fin.mk ?_ rfl)
        | (with_reducible refine Fin.mk ?_ ?_)
        | ((with_reducible refine Nx.mk ?_ ?_ ?_ ?_) <;> first | rfl | skip)
        | (conv => whnf
           first
             | (with_reducible refine gn _ _ ?_; clear gn G)
             | (with_reducible refine gn _ _ _ _ ?_; clear gn G)
             | (with_reducible refine Wr.mk ?_)
             | (with_reducible refine hn _ _ ?_; clear hn he hr K')
             | (with_reducible refine he _ _ _ ?_; clear hn he hr K')
             | (with_reducible refine hr _ _ ?_; clear hn he hr K')
             | (with_reducible refine Nd.mk trivial ?_)
             | (with_reducible refine Nd.mk (by decide) ?_)
             | (with_reducible refine Nd.mk ?_ ?_)
             | (with_reducible refine Leaf.mk rfl ?_)
             | (with_reducible refine LeafS.fin rfl ?_)
             | (with_reducible refine Fin.mk ?_ rfl)
             | (with_reducible refine Fin.mk ?_ ?_)
             | ((with_reducible refine Nx.mk ?_ ?_ ?_ ?_) <;> first | rfl | skip)
             | (with_reducible show Bo _ _)
             | (with_reducible show Br _ _ _)
             | (with_reducible show Eqn _ _ _)))
      all_goals simp only [ctd, cfd] at *
      all_goals try (first | omega | (rw [hw6 (by omega)]; omega))
      · have q4 := fill_set xs i (.i (xs.getD i (.i 0)).int) (by omega) (by omega) (by rw [canon hok.1.2])
        have q10 := fill_set (xs.drop 6) i (.i (xs.getD (6 + i) (.i 0)).int) (by omega) (by simp; omega) (by rw [canon hok.1.2, List.getD_eq_getElem?_getD, List.getD_eq_getElem?_getD, List.getElem?_drop])
        have t6 : (IntKind.i64.wrap (6 + (i : Int))).toNat = 6 + i := by rw [hw6 (by omega)]; omega
        refine J_of (hJ (i + 1) (by omega) (by omega)) ?_ ?_
        · rw [hw1 (by omega)]
          all_goals rfl
        · rw [t6, ← q4, ← q10]
          all_goals rfl
      · have : i = 6 := by omega
        subst this
        refine he0 _ _ _ ?_
        clear hn0 he0 hr0 hJ
        simp only [Nat.sub_self, List.replicate_zero, List.append_nil]
        repeat' (first
          | (with_reducible first | refine st_seq (fun K' hn he hr => ?_) | refine st_block (fun K' hn he hr => ?_) | refine st_region ?_ | refine st_draw ?_ | refine st_cond ?_ | refine st_skip ?_ | refine st_exit ?_ | refine st_ret ?_ | refine st_loop ?_ | refine st_op (fun G gn => ?_) | refine st_nil ?_ | refine st_gop ?_ | refine st_dop (fun G gn => ?_) | refine st_dnil ?_ | refine st_gdop ?_ | refine st_tl ?_)
          | (with_reducible refine gn _ _ ?_; clear gn G)
          | (with_reducible refine gn _ _ _ _ ?_; clear gn G)
          | (with_reducible refine Wr.mk ?_)
          | (with_reducible refine hn _ _ ?_; clear hn he hr K')
          | (with_reducible refine he _ _ _ ?_; clear hn he hr K')
          | (with_reducible refine hr _ _ ?_; clear hn he hr K')
          | ((with_reducible refine Eqn.mk (fun hq => ?_) ?_) <;> first | contradiction | skip)
          | (with_reducible refine Bo.yes (by decide) ?_)
          | (with_reducible refine Bo.no (by decide) ?_)
          | ((with_reducible refine Bo.gen (fun c hb => ?_)) <;> (try simp only [Nat.reduceAdd, toD, toDs, dInt, dBool, dStr, dList, dFs, dFld, List.getD_cons_zero, List.getD_cons_succ, Nat.zero_add, Int.reduceToNat] at hb) <;> (try simp only [cond_true, cond_false, toD, toDs, dInt, dBool, dStr, dList, dFs, dFld, List.getD_cons_zero, List.getD_cons_succ, Nat.zero_add, eqA, eqAs, decide_true, decide_false, beq_self_eq_true, Bool.not_true, Bool.not_false, Bool.and_true, Bool.true_and, Bool.and_self, cmpI, ↓reduceIte, Bool.false_eq_true, reduceCtorEq, Int.reduceEq, Int.reduceLT, Int.reduceLE, tk, i8', hz, hbt, k0, k1, k2, k3, k4, k5, k6, l1, l2, Int.reduceToNat, Int.toNat_natCast, Nat.sub_zero, Nat.reduceSub, List.drop_drop, Nat.reduceAdd, tda, List.length_drop, List.nil_append, decide_true, eq_self, Bool.not_true, Bool.or_false] at hb) <;> first | (obtain rfl : c = true := hb) | (obtain rfl : c = false := hb) | skip)
          | ((with_reducible refine Br.cs (fun hq => ?_) (fun hq => ?_)) <;> (try simp only [cond_true, cond_false, toD, toDs, dInt, dBool, dStr, dList, dFs, dFld, List.getD_cons_zero, List.getD_cons_succ, Nat.zero_add, eqA, eqAs, decide_true, decide_false, beq_self_eq_true, Bool.not_true, Bool.not_false, Bool.and_true, Bool.true_and, Bool.and_self, cmpI, ↓reduceIte, Bool.false_eq_true, reduceCtorEq, Int.reduceEq, Int.reduceLT, Int.reduceLE, tk, i8', hz, hbt, k0, k1, k2, k3, k4, k5, k6, l1, l2, Int.reduceToNat, Int.toNat_natCast, Nat.sub_zero, Nat.reduceSub, List.drop_drop, Nat.reduceAdd, tda, List.length_drop, List.nil_append, decide_true, eq_self, Bool.not_true, Bool.or_false] at hq) <;> first | contradiction | subst hq | skip)
          | (with_reducible refine Nd.mk trivial ?_)
          | (with_reducible refine Nd.mk (by decide) ?_)
          | (with_reducible refine Nd.mk ?_ ?_)
          | (with_reducible refine Leaf.mk rfl ?_)
          | (with_reducible refine LeafS.fin rfl ?_)
          | (with_reducible refine Fin.mk ?_ rfl)
          | (with_reducible refine Fin.mk ?_ ?_)
          | ((with_reducible refine Nx.mk ?_ ?_ ?_ ?_) <;> first | rfl | skip)
          | (conv => whnf
             first
               | (with_reducible refine gn _ _ ?_; clear gn G)
               | (with_reducible refine gn _ _ _ _ ?_; clear gn G)
               | (with_reducible refine Wr.mk ?_)
               | (with_reducible refine hn _ _ ?_; clear hn he hr K')
               | (with_reducible refine he _ _ _ ?_; clear hn he hr K')
               | (with_reducible refine hr _ _ ?_; clear hn he hr K')
               | (with_reducible refine Nd.mk trivial ?_)
               | (with_reducible refine Nd.mk (by decide) ?_)
               | (with_reducible refine Nd.mk ?_ ?_)
               | (with_reducible refine Leaf.mk rfl ?_)
               | (with_reducible refine LeafS.fin rfl ?_)
               | (with_reducible refine Fin.mk ?_ rfl)
               | (with_reducible refine Fin.mk ?_ ?_)
               | ((with_reducible refine Nx.mk ?_ ?_ ?_ ?_) <;> first | rfl | skip)
               | (with_reducible show Bo _ _)
               | (with_reducible show Br _ _ _)
               | (with_reducible show Eqn _ _ _)))
        all_goals (try rw [r14])
        all_goals (try rw [r18])
        all_goals (try rw [r34])
        all_goals (try simp only [Int.reduceToNat, List.drop_drop, Nat.reduceAdd, k3, k4, k5, k6])
        all_goals first
          | rfl
          | omega
          | exact hall
          | (unfold cutOK; omega)
          | (simp only [Int.reduceToNat, Nat.reduceSub, List.length_take, List.length_drop, Int.toNat_natCast]; omega)
          | (simp only [List.length_drop]; done)
          | (simp only [List.length_nil, Nat.zero_add, List.length_drop]; done)
          | (exact ⟨.inl rfl, by unfold roomy; simp only [List.length_drop, List.length_nil]; omega⟩)
          | (rw [List.nil_append]; rfl)
    · have l1 : ¬ (xs.length : Int) < 36 := by omega
      have l2 : ¬ 1536 < (xs.length : Int) := by omega
      have k0 : decide (xs.length - 14 < 2) = false := by simp; omega
      have k1 : ato (List.drop 14 xs) 0 * 256 + ato (List.drop 14 xs) 1 = n2 (List.drop 14 xs) := rfl
      have k2 : decide (xs.length - 18 < 16) = false := by simp; omega
      have k3 : ato (List.drop 18 xs) 0 = ato xs 18 := ato_drop
      have k4 : ato (List.drop 18 xs) 1 = ato xs 19 := ato_drop
      have k5 : ato (List.drop 18 xs) 2 = ato xs 20 := ato_drop
      have k6 : ato (List.drop 18 xs) 3 = ato xs 21 := ato_drop
      rw [bdOK_eq] at h3
      repeat' (first
        | (with_reducible first | refine st_seq (fun K' hn he hr => ?_) | refine st_block (fun K' hn he hr => ?_) | refine st_region ?_ | refine st_draw ?_ | refine st_cond ?_ | refine st_skip ?_ | refine st_exit ?_ | refine st_ret ?_ | refine st_loop ?_ | refine st_op (fun G gn => ?_) | refine st_nil ?_ | refine st_gop ?_ | refine st_dop (fun G gn => ?_) | refine st_dnil ?_ | refine st_gdop ?_ | refine st_tl ?_)
        | (with_reducible refine gn _ _ ?_; clear gn G)
        | (with_reducible refine gn _ _ _ _ ?_; clear gn G)
        | (with_reducible refine Wr.mk ?_)
        | (with_reducible refine hn _ _ ?_; clear hn he hr K')
        | (with_reducible refine he _ _ _ ?_; clear hn he hr K')
        | (with_reducible refine hr _ _ ?_; clear hn he hr K')
        | ((with_reducible refine Eqn.mk (fun hq => ?_) ?_) <;> first | contradiction | skip)
        | (with_reducible refine Bo.yes (by decide) ?_)
        | (with_reducible refine Bo.no (by decide) ?_)
        | ((with_reducible refine Bo.gen (fun c hb => ?_)) <;> (try simp only [Nat.reduceAdd, toD, toDs, dInt, dBool, dStr, dList, dFs, dFld, List.getD_cons_zero, List.getD_cons_succ, Nat.zero_add, Int.reduceToNat] at hb) <;> (try simp only [cond_true, cond_false, toD, toDs, dInt, dBool, dStr, dList, dFs, dFld, List.getD_cons_zero, List.getD_cons_succ, Nat.zero_add, eqA, eqAs, decide_true, decide_false, beq_self_eq_true, Bool.not_true, Bool.not_false, Bool.and_true, Bool.true_and, Bool.and_self, cmpI, ↓reduceIte, Bool.false_eq_true, reduceCtorEq, Int.reduceEq, Int.reduceLT, Int.reduceLE, l1, l2] at hb) <;> first | (obtain rfl : c = true := hb) | (obtain rfl : c = false := hb) | skip)
        | ((with_reducible refine Br.cs (fun hq => ?_) (fun hq => ?_)) <;> (try simp only [cond_true, cond_false, toD, toDs, dInt, dBool, dStr, dList, dFs, dFld, List.getD_cons_zero, List.getD_cons_succ, Nat.zero_add, eqA, eqAs, decide_true, decide_false, beq_self_eq_true, Bool.not_true, Bool.not_false, Bool.and_true, Bool.true_and, Bool.and_self, cmpI, ↓reduceIte, Bool.false_eq_true, reduceCtorEq, Int.reduceEq, Int.reduceLT, Int.reduceLE, l1, l2] at hq) <;> first | contradiction | subst hq | skip)
        | (with_reducible refine Nd.mk trivial ?_)
        | (with_reducible refine Nd.mk (by decide) ?_)
        | (with_reducible refine Nd.mk ?_ ?_)
        | (with_reducible refine Leaf.mk rfl ?_)
        | (with_reducible refine LeafS.fin rfl ?_)
        | (with_reducible refine Fin.mk ?_ rfl)
        | (with_reducible refine Fin.mk ?_ ?_)
        | ((with_reducible refine Nx.mk ?_ ?_ ?_ ?_) <;> first | rfl | skip)
        | (conv => whnf
           first
             | (with_reducible refine gn _ _ ?_; clear gn G)
             | (with_reducible refine gn _ _ _ _ ?_; clear gn G)
             | (with_reducible refine Wr.mk ?_)
             | (with_reducible refine hn _ _ ?_; clear hn he hr K')
             | (with_reducible refine he _ _ _ ?_; clear hn he hr K')
             | (with_reducible refine hr _ _ ?_; clear hn he hr K')
             | (with_reducible refine Nd.mk trivial ?_)
             | (with_reducible refine Nd.mk (by decide) ?_)
             | (with_reducible refine Nd.mk ?_ ?_)
             | (with_reducible refine Leaf.mk rfl ?_)
             | (with_reducible refine LeafS.fin rfl ?_)
             | (with_reducible refine Fin.mk ?_ rfl)
             | (with_reducible refine Fin.mk ?_ ?_)
             | ((with_reducible refine Nx.mk ?_ ?_ ?_ ?_) <;> first | rfl | skip)
             | (with_reducible show Bo _ _)
             | (with_reducible show Br _ _ _)
             | (with_reducible show Eqn _ _ _)))
      have hn0 := hn
      have he0 := he
      have hr0 := hr
      clear hn he hr
      refine loop_of (fun i : Nat => [(0, .sl u8 xs .no), (2, .ptr 0 [] TBf), (4, .ptr 1 [] TBf), (5, .int .i64 i)])
        (fun i : Nat => [.var TBf bf0 false, .var TBf (bfA (xs.take i ++ List.replicate (6 - i) (.i 0)) ((xs.drop 6).take i ++ List.replicate (6 - i) (.i 0)) 0 false 0 0 false false 0 six0 six0 [] .no) false])
        (fun i => i ≤ 6) (fun i => 6 - i) 0 rfl rfl (by omega) (fun _ _ => rfl) ?_
      intro i hi J hJ K' hn he hr
      have hw6 : i < 6 → IntKind.i64.wrap (6 + (i : Int)) = 6 + i := fun _ => wi64_in (by omega) (by omega)
      have hw1 : i < 6 → IntKind.i64.wrap ((i : Int) + 1) = ((i + 1 : Nat) : Int) := fun _ => wi64_in (by omega) (by omega)
      repeat' (first
        | (with_reducible first | refine st_seq (fun K' hn he hr => ?_) | refine st_block (fun K' hn he hr => ?_) | refine st_region ?_ | refine st_draw ?_ | refine st_cond ?_ | refine st_skip ?_ | refine st_exit ?_ | refine st_ret ?_ | refine st_loop ?_ | refine st_op (fun G gn => ?_) | refine st_nil ?_ | refine st_gop ?_ | refine st_dop (fun G gn => ?_) | refine st_dnil ?_ | refine st_gdop ?_ | refine st_tl ?_)
        | (with_reducible refine gn _ _ ?_; clear gn G)
        | (with_reducible refine gn _ _ _ _ ?_; clear gn G)
        | (with_reducible refine Wr.mk ?_)
        | (with_reducible refine hn _ _ ?_; clear hn he hr K')
        | (with_reducible refine he _ _ _ ?_; clear hn he hr K')
        | (with_reducible refine hr _ _ ?_; clear hn he hr K')
        | ((with_reducible refine Eqn.mk (fun hq => ?_) ?_) <;> first | contradiction | skip)
        | (with_reducible refine Bo.yes (by decide) ?_)
        | (with_reducible refine Bo.no (by decide) ?_)
        | ((with_reducible refine Bo.gen (fun c hb => ?_)) <;> (try simp only [Nat.reduceAdd, toD, toDs, dInt, dBool, dStr, dList, dFs, dFld, List.getD_cons_zero, List.getD_cons_succ, Nat.zero_add, Int.reduceToNat] at hb) <;> (try simp only [cond_true, cond_false, toD, toDs, dInt, dBool, dStr, dList, dFs, dFld, List.getD_cons_zero, List.getD_cons_succ, Nat.zero_add, eqA, eqAs, decide_true, decide_false, beq_self_eq_true, Bool.not_true, Bool.not_false, Bool.and_true, Bool.true_and, Bool.and_self, cmpI, ↓reduceIte, Bool.false_eq_true, reduceCtorEq, Int.reduceEq, Int.reduceLT, Int.reduceLE] at hb) <;> first | (obtain rfl : c = true := hb) | (obtain rfl : c = false := hb) | skip)
        | ((with_reducible refine Br.cs (fun hq => ?_) (fun hq => ?_)) <;> (try simp only [cond_true, cond_false, toD, toDs, dInt, dBool, dStr, dList, dFs, dFld, List.getD_cons_zero, List.getD_cons_succ, Nat.zero_add, eqA, eqAs, decide_true, decide_false, beq_self_eq_true, Bool.not_true, Bool.not_false, Bool.and_true, Bool.true_and, Bool.and_self, cmpI, ↓reduceIte, Bool.false_eq_true, reduceCtorEq, Int.reduceEq, Int.reduceLT, Int.reduceLE] at hq) <;> first | contradiction | subst hq | skip)
        | (with_reducible refine Nd.mk trivial ?_)
        | (with_reducible refine Nd.mk (by decide) ?_)
        | (with_reducible refine Nd.mk ?_ ?_)
        | (with_reducible refine Leaf.mk rfl ?_)
        | (with_reducible refine LeafS.fin rfl ?_)
        | (with_reducible refine Fin.mk ?_ rfl)
        | (with_reducible refine Fin.mk ?_ ?_)
        | ((with_reducible refine Nx.mk ?_ ?_ ?_ ?_) <;> first | rfl | skip)
        | (conv => whnf
           first
             | (with_reducible refine gn _ _ ?_; clear gn G)
             | (with_reducible refine gn _ _ _ _ ?_; clear gn G)
             | (with_reducible refine Wr.mk ?_)
             | (with_reducible refine hn _ _ ?_; clear hn he hr K')
             | (with_reducible refine he _ _ _ ?_; clear hn he hr K')
             | (with_reducible refine hr _ _ ?_; clear hn he hr K')
             | (with_reducible refine Nd.mk trivial ?_)
             | (with_reducible refine Nd.mk (by decide) ?_)
             | (with_reducible refine Nd.mk ?_ ?_)
             | (with_reducible refine Leaf.mk rfl ?_)
             | (with_reducible refine LeafS.fin rfl ?_)
             | (with_reducible refine Fin.mk ?_ rfl)
             | (with_reducible refine Fin.mk ?_ ?_)
             | ((with_reducible refine Nx.mk ?_ ?_ ?_ ?_) <;> first | rfl | skip)
             | (with_reducible show Bo _ _)
             | (with_reducible show Br _ _ _)
             | (with_reducible show Eqn _ _ _)))
      all_goals simp only [ctd, cfd] at *
      all_goals try (first | omega | (rw [hw6 (by omega)]; omega))
      · have q4 := fill_set xs i (.i (xs.getD i (.i 0)).int) (by omega) (by omega) (by rw [canon hok.1.2])
        have q10 := fill_set (xs.drop 6) i (.i (xs.getD (6 + i) (.i 0)).int) (by omega) (by simp; omega) (by rw [canon hok.1.2, List.getD_eq_getElem?_getD, List.getD_eq_getElem?_getD, List.getElem?_drop])
        have t6 : (IntKind.i64.wrap (6 + (i : Int))).toNat = 6 + i := by rw [hw6 (by omega)]; omega
        refine J_of (hJ (i + 1) (by omega) (by omega)) ?_ ?_
        · rw [hw1 (by omega)]
          all_goals rfl
        · rw [t6, ← q4, ← q10]
          all_goals rfl
      · have : i = 6 := by omega
        subst this
        refine he0 _ _ _ ?_
        clear hn0 he0 hr0 hJ
        simp only [Nat.sub_self, List.replicate_zero, List.append_nil]
        cases tk : tagOK (n2 (xs.drop 14) / 8192) (n2 (xs.drop 14) % 4096)
        · clear h3
          repeat' (first
            | (with_reducible first | refine st_seq (fun K' hn he hr => ?_) | refine st_block (fun K' hn he hr => ?_) | refine st_region ?_ | refine st_draw ?_ | refine st_cond ?_ | refine st_skip ?_ | refine st_exit ?_ | refine st_ret ?_ | refine st_loop ?_ | refine st_op (fun G gn => ?_) | refine st_nil ?_ | refine st_gop ?_ | refine st_dop (fun G gn => ?_) | refine st_dnil ?_ | refine st_gdop ?_ | refine st_tl ?_)
            | (with_reducible refine gn _ _ ?_; clear gn G)
            | (with_reducible refine gn _ _ _ _ ?_; clear gn G)
            | (with_reducible refine Wr.mk ?_)
            | (with_reducible refine hn _ _ ?_; clear hn he hr K')
            | (with_reducible refine he _ _ _ ?_; clear hn he hr K')
            | (with_reducible refine hr _ _ ?_; clear hn he hr K')
            | ((with_reducible refine Eqn.mk (fun hq => ?_) ?_) <;> first | contradiction | skip)
            | (with_reducible refine Bo.yes (by decide) ?_)
            | (with_reducible refine Bo.no (by decide) ?_)
            | ((with_reducible refine Bo.gen (fun c hb => ?_)) <;> (try simp only [Nat.reduceAdd, toD, toDs, dInt, dBool, dStr, dList, dFs, dFld, List.getD_cons_zero, List.getD_cons_succ, Nat.zero_add, Int.reduceToNat] at hb) <;> (try simp only [cond_true, cond_false, toD, toDs, dInt, dBool, dStr, dList, dFs, dFld, List.getD_cons_zero, List.getD_cons_succ, Nat.zero_add, eqA, eqAs, decide_true, decide_false, beq_self_eq_true, Bool.not_true, Bool.not_false, Bool.and_true, Bool.true_and, Bool.and_self, cmpI, ↓reduceIte, Bool.false_eq_true, reduceCtorEq, Int.reduceEq, Int.reduceLT, Int.reduceLE, tk, k0, k1, k2, k3, k4, k5, k6, l1, l2, Int.reduceToNat, Int.toNat_natCast, Nat.sub_zero, Nat.reduceSub, List.drop_drop, Nat.reduceAdd, tda, List.length_drop, List.nil_append, decide_true, eq_self, Bool.not_true, Bool.or_false] at hb) <;> first | (obtain rfl : c = true := hb) | (obtain rfl : c = false := hb) | skip)
            | ((with_reducible refine Br.cs (fun hq => ?_) (fun hq => ?_)) <;> (try simp only [cond_true, cond_false, toD, toDs, dInt, dBool, dStr, dList, dFs, dFld, List.getD_cons_zero, List.getD_cons_succ, Nat.zero_add, eqA, eqAs, decide_true, decide_false, beq_self_eq_true, Bool.not_true, Bool.not_false, Bool.and_true, Bool.true_and, Bool.and_self, cmpI, ↓reduceIte, Bool.false_eq_true, reduceCtorEq, Int.reduceEq, Int.reduceLT, Int.reduceLE, tk, k0, k1, k2, k3, k4, k5, k6, l1, l2, Int.reduceToNat, Int.toNat_natCast, Nat.sub_zero, Nat.reduceSub, List.drop_drop, Nat.reduceAdd, tda, List.length_drop, List.nil_append, decide_true, eq_self, Bool.not_true, Bool.or_false] at hq) <;> first | contradiction | subst hq | skip)
            | (with_reducible refine Nd.mk trivial ?_)
            | (with_reducible refine Nd.mk (by decide) ?_)
            | (with_reducible refine Nd.mk ?_ ?_)
            | (with_reducible refine Leaf.mk rfl ?_)
            | (with_reducible refine LeafS.fin rfl ?_)
            | (with_reducible refine Fin.mk ?_ rfl)
            | (with_reducible refine Fin.mk ?_ ?_)
            | ((with_reducible refine Nx.mk ?_ ?_ ?_ ?_) <;> first | rfl | skip)
            | (conv => whnf
               first
                 | (with_reducible refine gn _ _ ?_; clear gn G)
                 | (with_reducible refine gn _ _ _ _ ?_; clear gn G)
                 | (with_reducible refine Wr.mk ?_)
                 | (with_reducible refine hn _ _ ?_; clear hn he hr K')
                 | (with_reducible refine he _ _ _ ?_; clear hn he hr K')
                 | (with_reducible refine hr _ _ ?_; clear hn he hr K')
                 | (with_reducible refine Nd.mk trivial ?_)
                 | (with_reducible refine Nd.mk (by decide) ?_)
                 | (with_reducible refine Nd.mk ?_ ?_)
                 | (with_reducible refine Leaf.mk rfl ?_)
                 | (with_reducible refine LeafS.fin rfl ?_)
                 | (with_reducible refine Fin.mk ?_ rfl)
                 | (with_reducible refine Fin.mk ?_ ?_)
                 | ((with_reducible refine Nx.mk ?_ ?_ ?_ ?_) <;> first | rfl | skip)
                 | (with_reducible show Bo _ _)
                 | (with_reducible show Br _ _ _)
                 | (with_reducible show Eqn _ _ _)))
          all_goals (try rw [r14])
          all_goals (try rw [r18])
          all_goals (try rw [r34])
          all_goals (try simp only [Int.reduceToNat, List.drop_drop, Nat.reduceAdd, k3, k4, k5, k6])
          all_goals first
            | rfl
            | omega
            | exact hall
            | (unfold cutOK; omega)
            | (simp only [Int.reduceToNat, Nat.reduceSub, List.length_take, List.length_drop, Int.toNat_natCast]; omega)
            | (simp only [List.length_drop]; done)
            | (simp only [List.length_nil, Nat.zero_add, List.length_drop]; done)
            | (exact ⟨.inl rfl, by unfold roomy; simp only [List.length_drop, List.length_nil]; omega⟩)
            | (rw [List.nil_append]; rfl)
        · cases i8 : isZ (ato xs 18 % 8)
          · clear h3
            have i8' : decide (ato xs 18 % 8 = 0) = false := i8
            repeat' (first
              | (with_reducible first | refine st_seq (fun K' hn he hr => ?_) | refine st_block (fun K' hn he hr => ?_) | refine st_region ?_ | refine st_draw ?_ | refine st_cond ?_ | refine st_skip ?_ | refine st_exit ?_ | refine st_ret ?_ | refine st_loop ?_ | refine st_op (fun G gn => ?_) | refine st_nil ?_ | refine st_gop ?_ | refine st_dop (fun G gn => ?_) | refine st_dnil ?_ | refine st_gdop ?_ | refine st_tl ?_)
              | (with_reducible refine gn _ _ ?_; clear gn G)
              | (with_reducible refine gn _ _ _ _ ?_; clear gn G)
              | (with_reducible refine Wr.mk ?_)
              | (with_reducible refine hn _ _ ?_; clear hn he hr K')
              | (with_reducible refine he _ _ _ ?_; clear hn he hr K')
              | (with_reducible refine hr _ _ ?_; clear hn he hr K')
              | ((with_reducible refine Eqn.mk (fun hq => ?_) ?_) <;> first | contradiction | skip)
              | (with_reducible refine Bo.yes (by decide) ?_)
              | (with_reducible refine Bo.no (by decide) ?_)
              | ((with_reducible refine Bo.gen (fun c hb => ?_)) <;> (try simp only [Nat.reduceAdd, toD, toDs, dInt, dBool, dStr, dList, dFs, dFld, List.getD_cons_zero, List.getD_cons_succ, Nat.zero_add, Int.reduceToNat] at hb) <;> (try simp only [cond_true, cond_false, toD, toDs, dInt, dBool, dStr, dList, dFs, dFld, List.getD_cons_zero, List.getD_cons_succ, Nat.zero_add, eqA, eqAs, decide_true, decide_false, beq_self_eq_true, Bool.not_true, Bool.not_false, Bool.and_true, Bool.true_and, Bool.and_self, cmpI, ↓reduceIte, Bool.false_eq_true, reduceCtorEq, Int.reduceEq, Int.reduceLT, Int.reduceLE, tk, i8', k0, k1, k2, k3, k4, k5, k6, l1, l2, Int.reduceToNat, Int.toNat_natCast, Nat.sub_zero, Nat.reduceSub, List.drop_drop, Nat.reduceAdd, tda, List.length_drop, List.nil_append, decide_true, eq_self, Bool.not_true, Bool.or_false] at hb) <;> first | (obtain rfl : c = true := hb) | (obtain rfl : c = false := hb) | skip)
              | ((with_reducible refine Br.cs (fun hq => ?_) (fun hq => ?_)) <;> (try simp only [cond_true, cond_false, toD, toDs, dInt, dBool, dStr, dList, dFs, dFld, List.getD_cons_zero, List.getD_cons_succ, Nat.zero_add, eqA, eqAs, decide_true, decide_false, beq_self_eq_true, Bool.not_true, Bool.not_false, Bool.and_true, Bool.true_and, Bool.and_self, cmpI, ↓reduceIte, Bool.false_eq_true, reduceCtorEq, Int.reduceEq, Int.reduceLT, Int.reduceLE, tk, i8', k0, k1, k2, k3, k4, k5, k6, l1, l2, Int.reduceToNat, Int.toNat_natCast, Nat.sub_zero, Nat.reduceSub, List.drop_drop, Nat.reduceAdd, tda, List.length_drop, List.nil_append, decide_true, eq_self, Bool.not_true, Bool.or_false] at hq) <;> first | contradiction | subst hq | skip)
              | (with_reducible refine Nd.mk trivial ?_)
              | (with_reducible refine Nd.mk (by decide) ?_)
              | (with_reducible refine Nd.mk ?_ ?_)
              | (with_reducible refine Leaf.mk rfl ?_)
              | (with_reducible refine LeafS.fin rfl ?_)
              | (with_reducible refine Fin.mk ?_ rfl)
              | (with_reducible refine Fin.mk ?_ ?_)
              | ((with_reducible refine Nx.mk ?_ ?_ ?_ ?_) <;> first | rfl | skip)
              | (conv => whnf
                 first
                   | (with_reducible refine gn _ _ ?_; clear gn G)
                   | (with_reducible refine gn _ _ _ _ ?_; clear gn G)
                   | (with_reducible refine Wr.mk ?_)
                   | (with_reducible refine hn _ _ ?_; clear hn he hr K')
                   | (with_reducible refine he _ _ _ ?_; clear hn he hr K')
                   | (with_reducible refine hr _ _ ?_; clear hn he hr K')
                   | (with_reducible refine Nd.mk trivial ?_)
                   | (with_reducible refine Nd.mk (by decide) ?_)
                   | (with_reducible refine Nd.mk ?_ ?_)
                   | (with_reducible refine Leaf.mk rfl ?_)
                   | (with_reducible refine LeafS.fin rfl ?_)
                   | (with_reducible refine Fin.mk ?_ rfl)
                   | (with_reducible refine Fin.mk ?_ ?_)
                   | ((with_reducible refine Nx.mk ?_ ?_ ?_ ?_) <;> first | rfl | skip)
                   | (with_reducible show Bo _ _)
                   | (with_reducible show Br _ _ _)
                   | (with_reducible show Eqn _ _ _)))
            all_goals (try rw [r14])
            all_goals (try rw [r18])
            all_goals (try rw [r34])
            all_goals (try simp only [Int.reduceToNat, List.drop_drop, Nat.reduceAdd, k3, k4, k5, k6])
            all_goals first
              | rfl
              | omega
              | exact hall
              | (unfold cutOK; omega)
              | (simp only [Int.reduceToNat, Nat.reduceSub, List.length_take, List.length_drop, Int.toNat_natCast]; omega)
              | (simp only [List.length_drop]; done)
              | (simp only [List.length_nil, Nat.zero_add, List.length_drop]; done)
              | (exact ⟨.inl rfl, by unfold roomy; simp only [List.length_drop, List.length_nil]; omega⟩)
              | (rw [List.nil_append]; rfl)
          · have i8' : decide (ato xs 18 % 8 = 0) = true := i8
            cases hzz : isZ (bfChk (xs.take 6) ((xs.drop 6).take 6) (n2 (xs.drop 14) / 8192) (decide (n2 (xs.drop 14) / 4096 % 2 = 1)) (n2 (xs.drop 14) % 4096) (ato xs 18 / 32) (decide (ato xs 18 / 16 % 2 = 1)) (decide (ato xs 18 / 8 % 2 = 1)) (ato xs 19 * 65536 + ato xs 20 * 256 + ato xs 21) ((xs.drop 22).take 6) ((xs.drop 28).take 6) (xs.drop 34))
            · have hz : ¬ bfChk (xs.take 6) ((xs.drop 6).take 6) (n2 (xs.drop 14) / 8192) (decide (n2 (xs.drop 14) / 4096 % 2 = 1)) (n2 (xs.drop 14) % 4096) (ato xs 18 / 32) (decide (ato xs 18 / 16 % 2 = 1)) (decide (ato xs 18 / 8 % 2 = 1)) (ato xs 19 * 65536 + ato xs 20 * 256 + ato xs 21) ((xs.drop 22).take 6) ((xs.drop 28).take 6) (xs.drop 34) = 0 := fun h => by rw [isZ_iff.2 h] at hzz; cases hzz
              repeat' (first
                | (with_reducible first | refine st_seq (fun K' hn he hr => ?_) | refine st_block (fun K' hn he hr => ?_) | refine st_region ?_ | refine st_draw ?_ | refine st_cond ?_ | refine st_skip ?_ | refine st_exit ?_ | refine st_ret ?_ | refine st_loop ?_ | refine st_op (fun G gn => ?_) | refine st_nil ?_ | refine st_gop ?_ | refine st_dop (fun G gn => ?_) | refine st_dnil ?_ | refine st_gdop ?_ | refine st_tl ?_)
                | (with_reducible refine gn _ _ ?_; clear gn G)
                | (with_reducible refine gn _ _ _ _ ?_; clear gn G)
                | (with_reducible refine Wr.mk ?_)
                | (with_reducible refine hn _ _ ?_; clear hn he hr K')
                | (with_reducible refine he _ _ _ ?_; clear hn he hr K')
                | (with_reducible refine hr _ _ ?_; clear hn he hr K')
                | ((with_reducible refine Eqn.mk (fun hq => ?_) ?_) <;> first | contradiction | skip)
                | (with_reducible refine Bo.yes (by decide) ?_)
                | (with_reducible refine Bo.no (by decide) ?_)
                | ((with_reducible refine Bo.gen (fun c hb => ?_)) <;> (try simp only [Nat.reduceAdd, toD, toDs, dInt, dBool, dStr, dList, dFs, dFld, List.getD_cons_zero, List.getD_cons_succ, Nat.zero_add, Int.reduceToNat] at hb) <;> (try simp only [cond_true, cond_false, toD, toDs, dInt, dBool, dStr, dList, dFs, dFld, List.getD_cons_zero, List.getD_cons_succ, Nat.zero_add, eqA, eqAs, decide_true, decide_false, beq_self_eq_true, Bool.not_true, Bool.not_false, Bool.and_true, Bool.true_and, Bool.and_self, cmpI, ↓reduceIte, Bool.false_eq_true, reduceCtorEq, Int.reduceEq, Int.reduceLT, Int.reduceLE, tk, i8', hz, k0, k1, k2, k3, k4, k5, k6, l1, l2, Int.reduceToNat, Int.toNat_natCast, Nat.sub_zero, Nat.reduceSub, List.drop_drop, Nat.reduceAdd, tda, List.length_drop, List.nil_append, decide_true, eq_self, Bool.not_true, Bool.or_false] at hb) <;> first | (obtain rfl : c = true := hb) | (obtain rfl : c = false := hb) | skip)
                | ((with_reducible refine Br.cs (fun hq => ?_) (fun hq => ?_)) <;> (try simp only [cond_true, cond_false, toD, toDs, dInt, dBool, dStr, dList, dFs, dFld, List.getD_cons_zero, List.getD_cons_succ, Nat.zero_add, eqA, eqAs, decide_true, decide_false, beq_self_eq_true, Bool.not_true, Bool.not_false, Bool.and_true, Bool.true_and, Bool.and_self, cmpI, ↓reduceIte, Bool.false_eq_true, reduceCtorEq, Int.reduceEq, Int.reduceLT, Int.reduceLE, tk, i8', hz, k0, k1, k2, k3, k4, k5, k6, l1, l2, Int.reduceToNat, Int.toNat_natCast, Nat.sub_zero, Nat.reduceSub, List.drop_drop, Nat.reduceAdd, tda, List.length_drop, List.nil_append, decide_true, eq_self, Bool.not_true, Bool.or_false] at hq) <;> first | contradiction | subst hq | skip)
                | (with_reducible refine Nd.mk trivial ?_)
                | (with_reducible refine Nd.mk (by decide) ?_)
                | (with_reducible refine Nd.mk ?_ ?_)
                | (with_reducible refine Leaf.mk rfl ?_)
                | (with_reducible refine LeafS.fin rfl ?_)
                | (with_reducible refine Fin.mk ?_ rfl)
                | (with_reducible refine Fin.mk ?_ ?_)
                | ((with_reducible refine Nx.mk ?_ ?_ ?_ ?_) <;> first | rfl | skip)
                | (conv => whnf
                   first
                     | (with_reducible refine gn _ _ ?_; clear gn G)
                     | (with_reducible refine gn _ _ _ _ ?_; clear gn G)
                     | (with_reducible refine Wr.mk ?_)
                     | (with_reducible refine hn _ _ ?_; clear hn he hr K')
                     | (with_reducible refine he _ _ _ ?_; clear hn he hr K')
                     | (with_reducible refine hr _ _ ?_; clear hn he hr K')
                     | (with_reducible refine Nd.mk trivial ?_)
                     | (with_reducible refine Nd.mk (by decide) ?_)
                     | (with_reducible refine Nd.mk ?_ ?_)
                     | (with_reducible refine Leaf.mk rfl ?_)
                     | (with_reducible refine LeafS.fin rfl ?_)
                     | (with_reducible refine Fin.mk ?_ rfl)
                     | (with_reducible refine Fin.mk ?_ ?_)
                     | ((with_reducible refine Nx.mk ?_ ?_ ?_ ?_) <;> first | rfl | skip)
                     | (with_reducible show Bo _ _)
                     | (with_reducible show Br _ _ _)
                     | (with_reducible show Eqn _ _ _)))
              all_goals (try rw [r14])
              all_goals (try rw [r18])
              all_goals (try rw [r34])
              all_goals (try simp only [Int.reduceToNat, List.drop_drop, Nat.reduceAdd, k3, k4, k5, k6])
              all_goals first
                | rfl
                | omega
                | exact hall
                | (unfold cutOK; omega)
                | (simp only [Int.reduceToNat, Nat.reduceSub, List.length_take, List.length_drop, Int.toNat_natCast]; omega)
                | (simp only [List.length_drop]; done)
                | (simp only [List.length_nil, Nat.zero_add, List.length_drop]; done)
                | (exact ⟨.inl rfl, by unfold roomy; simp only [List.length_drop, List.length_nil]; omega⟩)
                | (rw [List.nil_append]; rfl)
            · have hz := isZ_iff.1 hzz
              have hb := (bfOK_iff.1 (bchk_0 hz).2)
              have hall : tagOK (n2 (xs.drop 14) / 8192) (n2 (xs.drop 14) % 4096) = true ∧ itagOK (ato xs 18 / 32) (ato xs 19 * 65536 + ato xs 20 * 256 + ato xs 21) = true ∧ (xs.drop 34).length ≤ 100000 := ⟨hb.2.2.1, hb.2.2.2.1, by rw [List.length_drop]; omega⟩
              clear hb
              have hty : ¬ ty16 xs = true := fun h => by rw [h, tk, i8, hzz] at h3; cases h3
              have hbt : ¬ bytesOf (bfB (xs.take 6) ((xs.drop 6).take 6) (n2 (xs.drop 14) / 8192) (decide (n2 (xs.drop 14) / 4096 % 2 = 1)) (n2 (xs.drop 14) % 4096) (ato xs 18 / 32) (decide (ato xs 18 / 16 % 2 = 1)) (decide (ato xs 18 / 8 % 2 = 1)) (ato xs 19 * 65536 + ato xs 20 * 256 + ato xs 21) ((xs.drop 22).take 6) ((xs.drop 28).take 6) (xs.drop 34)) = bytesOf xs := fun h => hty ((W_bytes hok.1.2 (by omega) i8).1 h)
              repeat' (first
                | (with_reducible first | refine st_seq (fun K' hn he hr => ?_) | refine st_block (fun K' hn he hr => ?_) | refine st_region ?_ | refine st_draw ?_ | refine st_cond ?_ | refine st_skip ?_ | refine st_exit ?_ | refine st_ret ?_ | refine st_loop ?_ | refine st_op (fun G gn => ?_) | refine st_nil ?_ | refine st_gop ?_ | refine st_dop (fun G gn => ?_) | refine st_dnil ?_ | refine st_gdop ?_ | refine st_tl ?_)
                | (with_reducible refine gn _ _ ?_; clear gn G)
                | (with_reducible refine gn _ _ _ _ ?_; clear gn G)
                | (with_reducible refine Wr.mk ?_)
                | (with_reducible refine hn _ _ ?_; clear hn he hr K')
                | (with_reducible refine he _ _ _ ?_; clear hn he hr K')
                | (with_reducible refine hr _ _ ?_; clear hn he hr K')
                | ((with_reducible refine Eqn.mk (fun hq => ?_) ?_) <;> first | contradiction | skip)
                | (with_reducible refine Bo.yes (by decide) ?_)
                | (with_reducible refine Bo.no (by decide) ?_)
                | ((with_reducible refine Bo.gen (fun c hb => ?_)) <;> (try simp only [Nat.reduceAdd, toD, toDs, dInt, dBool, dStr, dList, dFs, dFld, List.getD_cons_zero, List.getD_cons_succ, Nat.zero_add, Int.reduceToNat] at hb) <;> (try simp only [cond_true, cond_false, toD, toDs, dInt, dBool, dStr, dList, dFs, dFld, List.getD_cons_zero, List.getD_cons_succ, Nat.zero_add, eqA, eqAs, decide_true, decide_false, beq_self_eq_true, Bool.not_true, Bool.not_false, Bool.and_true, Bool.true_and, Bool.and_self, cmpI, ↓reduceIte, Bool.false_eq_true, reduceCtorEq, Int.reduceEq, Int.reduceLT, Int.reduceLE, tk, i8', hz, hbt, k0, k1, k2, k3, k4, k5, k6, l1, l2, Int.reduceToNat, Int.toNat_natCast, Nat.sub_zero, Nat.reduceSub, List.drop_drop, Nat.reduceAdd, tda, List.length_drop, List.nil_append, decide_true, eq_self, Bool.not_true, Bool.or_false] at hb) <;> first | (obtain rfl : c = true := hb) | (obtain rfl : c = false := hb) | skip)
                | ((with_reducible refine Br.cs (fun hq => ?_) (fun hq => ?_)) <;> (try simp only [cond_true, cond_false, toD, toDs, dInt, dBool, dStr, dList, dFs, dFld, List.getD_cons_zero, List.getD_cons_succ, Nat.zero_add, eqA, eqAs, decide_true, decide_false, beq_self_eq_true, Bool.not_true, Bool.not_false, Bool.and_true, Bool.true_and, Bool.and_self, cmpI, ↓reduceIte, Bool.false_eq_true, reduceCtorEq, Int.reduceEq, Int.reduceLT, Int.reduceLE, tk, i8', hz, hbt, k0, k1, k2, k3, k4, k5, k6, l1, l2, Int.reduceToNat, Int.toNat_natCast, Nat.sub_zero, Nat.reduceSub, List.drop_drop, Nat.reduceAdd, tda, List.length_drop, List.nil_append, decide_true, eq_self, Bool.not_true, Bool.or_false] at hq) <;> first | contradiction | subst hq | skip)
                | (with_reducible refine Nd.mk trivial ?_)
                | (with_reducible refine Nd.mk (by decide) ?_)
                | (with_reducible refine Nd.mk ?_ ?_)
                | (with_reducible refine Leaf.mk rfl ?_)
                | (with_reducible refine LeafS.fin rfl ?_)
                | (with_reducible refine Fin.mk ?_ rfl)
                | (with_reducible refine Fin.mk ?_ ?_)
                | ((with_reducible refine Nx.mk ?_ ?_ ?_ ?_) <;> first | rfl | skip)
                | (conv => whnf
                   first
                     | (with_reducible refine gn _ _ ?_; clear gn G)
                     | (with_reducible refine gn _ _ _ _ ?_; clear gn G)
                     | (with_reducible refine Wr.mk ?_)
                     | (with_reducible refine hn _ _ ?_; clear hn he hr K')
                     | (with_reducible refine he _ _ _ ?_; clear hn he hr K')
                     | (with_reducible refine hr _ _ ?_; clear hn he hr K')
                     | (with_reducible refine Nd.mk trivial ?_)
                     | (with_reducible refine Nd.mk (by decide) ?_)
                     | (with_reducible refine Nd.mk ?_ ?_)
                     | (with_reducible refine Leaf.mk rfl ?_)
                     | (with_reducible refine LeafS.fin rfl ?_)
                     | (with_reducible refine Fin.mk ?_ rfl)
                     | (with_reducible refine Fin.mk ?_ ?_)
                     | ((with_reducible refine Nx.mk ?_ ?_ ?_ ?_) <;> first | rfl | skip)
                     | (with_reducible show Bo _ _)
                     | (with_reducible show Br _ _ _)
                     | (with_reducible show Eqn _ _ _)))
              all_goals (try rw [r14])
              all_goals (try rw [r18])
              all_goals (try rw [r34])
              all_goals (try simp only [Int.reduceToNat, List.drop_drop, Nat.reduceAdd, k3, k4, k5, k6])
              all_goals first
                | rfl
                | omega
                | exact hall
                | (unfold cutOK; omega)
                | (simp only [Int.reduceToNat, Nat.reduceSub, List.length_take, List.length_drop, Int.toNat_natCast]; omega)
                | (simp only [List.length_drop]; done)
                | (simp only [List.length_nil, Nat.zero_add, List.length_drop]; done)
                | (exact ⟨.inl rfl, by unfold roomy; simp only [List.length_drop, List.length_nil]; omega⟩)
                | (rw [List.nil_append]; rfl)
  · trivial
end Go.Vc.Seat
