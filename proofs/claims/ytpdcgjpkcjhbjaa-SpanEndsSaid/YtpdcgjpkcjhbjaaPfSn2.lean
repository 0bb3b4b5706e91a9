/- A part of the proof of the seat's laws: PfSn2. It states no claim by itself. -/
import Derived.Test.YtpdcgjpkcjhbjaaPfSn1
set_option linter.unusedVariables false
set_option linter.unusedSimpArgs false
namespace Go.Vc.Seat
open Go.Vc Go.Proofs.Try

theorem spl : ∀ (ps : List (Nat × AV)) (vs : List D), (setPartsD vs ps).length = vs.length
  | [], _ => rfl
  | (i, v) :: ps, vs => by rw [setPartsD, spl ps]; simp
theorem sidesD_take (es : List D) (i : Nat) (h : i < es.length) : sidesD (es.take (i + 1)) = sidesD (es.take i) ++ [sideA (es.getD i (.i 0)), sideB (es.getD i (.i 0))] := by
  unfold sidesD
  rw [List.take_succ_eq_append_getElem h, List.flatMap_append]
  simp [h]
theorem sidesD_length : ∀ (es : List D), (sidesD es).length = 2 * es.length
  | [] => rfl
  | e :: r => by
    have := sidesD_length r
    unfold sidesD at this ⊢
    simp only [List.flatMap_cons, List.length_append, this, List.length_cons, List.length_nil]
    omega
theorem pok_r16_Sides : POK prog orc f_r16_Sides := by
  refine pok_of ok_r16_Sides mixed (by simp [ac_r16_Sides, acP, callsP]) (by simp [ac_r16_Sides, acS, callsS]) fun args hok => ?_
  show Fits orc nt_r16_Sides rs_r16_Sides ac_r16_Sides args (pSidesD args)
  unfold ac_r16_Sides
  unfold pSidesD
  split
  · rename_i es
    intro hc
    refine ⟨rfl, ?_⟩
    repeat' (first | (with_reducible first | refine st_seq (fun K' hn he hr => ?_) | refine st_block (fun K' hn he hr => ?_) | refine st_region ?_ | refine st_tregion ?_ | refine st_draw ?_ | refine st_cond ?_ | refine st_skip ?_ | refine st_exit ?_ | refine st_ret ?_ | refine st_loop ?_ | refine st_op (fun G gn => ?_) | refine st_nil ?_ | refine st_gop ?_ | refine st_dop (fun G gn => ?_) | refine st_dnil ?_ | refine st_gdop ?_ | refine st_tl ?_) | (with_reducible refine gn _ _ ?_; clear gn G) | (with_reducible refine gn _ _ _ _ ?_; clear gn G) | (with_reducible first | refine Wr.mk ?_) | (with_reducible refine hn _ _ ?_; clear hn he hr K') | (with_reducible refine he _ _ _ ?_; clear hn he hr K') | (with_reducible refine hr _ _ ?_; clear hn he hr K') | ((with_reducible refine Eqn.mk (fun hq => ?_) ?_) <;> first | contradiction | skip) | (with_reducible first | refine Bo.yes (by decide) ?_ | refine Bo.no (by decide) ?_) | ((with_reducible refine Bo.gen (fun c hb => ?_)) <;> (try simp only [Nat.reduceAdd, toD, toDs, dInt, dBool, dStr, dList, dFs, dFld, List.getD_cons_zero, List.getD_cons_succ, Nat.zero_add, Int.reduceToNat] at hb) <;> (try simp only [cond_true, cond_false, toD, toDs, dInt, dBool, dStr, dList, dFs, dFld, List.getD_cons_zero, List.getD_cons_succ, Nat.zero_add, eqA, eqAs, decide_true, decide_false, beq_self_eq_true, Bool.not_true, Bool.not_false, Bool.and_true, Bool.true_and, Bool.and_self, cmpI, ↓reduceIte, Bool.false_eq_true, reduceCtorEq, Int.reduceEq, Int.reduceLT, Int.reduceLE] at hb) <;> first | (obtain rfl : c = true := hb) | (obtain rfl : c = false := hb) | skip) | ((with_reducible refine Br.cs (fun hq => ?_) (fun hq => ?_)) <;> (try simp only [cond_true, cond_false, toD, toDs, dInt, dBool, dStr, dList, dFs, dFld, List.getD_cons_zero, List.getD_cons_succ, Nat.zero_add, eqA, eqAs, decide_true, decide_false, beq_self_eq_true, Bool.not_true, Bool.not_false, Bool.and_true, Bool.true_and, Bool.and_self, cmpI, ↓reduceIte, Bool.false_eq_true, reduceCtorEq, Int.reduceEq, Int.reduceLT, Int.reduceLE] at hq) <;> first | contradiction | subst hq | skip) | (with_reducible first | refine Nd.mk trivial ?_ | refine Nd.mk (by decide) ?_ | refine Nd.mk ?_ ?_ | refine Leaf.mk rfl ?_ | refine LeafS.fin rfl ?_ | refine Fin.mk ?_ rfl | refine Fin.mk ?_ ?_) | ((with_reducible refine Nx.mk ?_ ?_ ?_ ?_) <;> first | rfl | skip) | ((conv => whnf); first | (with_reducible refine gn _ _ ?_; clear gn G) | (with_reducible refine gn _ _ _ _ ?_; clear gn G) | (with_reducible first | refine Wr.mk ?_) | (with_reducible refine hn _ _ ?_; clear hn he hr K') | (with_reducible refine he _ _ _ ?_; clear hn he hr K') | (with_reducible refine hr _ _ ?_; clear hn he hr K') | (with_reducible first | refine Nd.mk trivial ?_ | refine Nd.mk (by decide) ?_ | refine Nd.mk ?_ ?_ | refine Leaf.mk rfl ?_ | refine LeafS.fin rfl ?_ | refine Fin.mk ?_ rfl | refine Fin.mk ?_ ?_) | ((with_reducible refine Nx.mk ?_ ?_ ?_ ?_) <;> first | rfl | skip) | (with_reducible first | show Bo _ _ | show Br _ _ _ | show Eqn _ _ _)))
    refine loop_of (fun i : Nat => [(0, .sl TyEdge es .no), (3, .sl TySide (sidesD (es.take i)) (.own 0)), (4, .int .i64 i)]) (fun i => [.ext TySide (2 * i)]) (fun i => i ≤ es.length) (fun i => es.length - i) 0 rfl rfl (Nat.zero_le _) (fun _ _ => rfl) ?_
    intro i hi J hJ K' hn he hr
    have hl : (sidesD (es.take i)).length = 2 * i := by rw [sidesD_length, List.length_take]; omega
    have hw : i < es.length → IntKind.i64.wrap ((i : Int) + 1) = ((i + 1 : Nat) : Int) := fun _ => wi64_in (by omega) (by omega)
    repeat' (first | (with_reducible first | refine st_seq (fun K' hn he hr => ?_) | refine st_block (fun K' hn he hr => ?_) | refine st_region ?_ | refine st_tregion ?_ | refine st_draw ?_ | refine st_cond ?_ | refine st_skip ?_ | refine st_exit ?_ | refine st_ret ?_ | refine st_loop ?_ | refine st_op (fun G gn => ?_) | refine st_nil ?_ | refine st_gop ?_ | refine st_dop (fun G gn => ?_) | refine st_dnil ?_ | refine st_gdop ?_ | refine st_tl ?_) | (with_reducible refine gn _ _ ?_; clear gn G) | (with_reducible refine gn _ _ _ _ ?_; clear gn G) | (with_reducible first | refine Wr.mk ?_) | (with_reducible refine hn _ _ ?_; clear hn he hr K') | (with_reducible refine he _ _ _ ?_; clear hn he hr K') | (with_reducible refine hr _ _ ?_; clear hn he hr K') | ((with_reducible refine Eqn.mk (fun hq => ?_) ?_) <;> first | contradiction | skip) | (with_reducible first | refine Bo.yes (by decide) ?_ | refine Bo.no (by decide) ?_) | ((with_reducible refine Bo.gen (fun c hb => ?_)) <;> (try simp only [Nat.reduceAdd, toD, toDs, dInt, dBool, dStr, dList, dFs, dFld, List.getD_cons_zero, List.getD_cons_succ, Nat.zero_add, Int.reduceToNat] at hb) <;> (try simp only [cond_true, cond_false, toD, toDs, dInt, dBool, dStr, dList, dFs, dFld, List.getD_cons_zero, List.getD_cons_succ, Nat.zero_add, eqA, eqAs, decide_true, decide_false, beq_self_eq_true, Bool.not_true, Bool.not_false, Bool.and_true, Bool.true_and, Bool.and_self, cmpI, ↓reduceIte, Bool.false_eq_true, reduceCtorEq, Int.reduceEq, Int.reduceLT, Int.reduceLE] at hb) <;> first | (obtain rfl : c = true := hb) | (obtain rfl : c = false := hb) | skip) | ((with_reducible refine Br.cs (fun hq => ?_) (fun hq => ?_)) <;> (try simp only [cond_true, cond_false, toD, toDs, dInt, dBool, dStr, dList, dFs, dFld, List.getD_cons_zero, List.getD_cons_succ, Nat.zero_add, eqA, eqAs, decide_true, decide_false, beq_self_eq_true, Bool.not_true, Bool.not_false, Bool.and_true, Bool.true_and, Bool.and_self, cmpI, ↓reduceIte, Bool.false_eq_true, reduceCtorEq, Int.reduceEq, Int.reduceLT, Int.reduceLE] at hq) <;> first | contradiction | subst hq | skip) | (with_reducible first | refine Nd.mk trivial ?_ | refine Nd.mk (by decide) ?_ | refine Nd.mk ?_ ?_ | refine Leaf.mk rfl ?_ | refine LeafS.fin rfl ?_ | refine Fin.mk ?_ rfl | refine Fin.mk ?_ ?_) | ((with_reducible refine Nx.mk ?_ ?_ ?_ ?_) <;> first | rfl | skip) | ((conv => whnf); first | (with_reducible refine gn _ _ ?_; clear gn G) | (with_reducible refine gn _ _ _ _ ?_; clear gn G) | (with_reducible first | refine Wr.mk ?_) | (with_reducible refine hn _ _ ?_; clear hn he hr K') | (with_reducible refine he _ _ _ ?_; clear hn he hr K') | (with_reducible refine hr _ _ ?_; clear hn he hr K') | (with_reducible first | refine Nd.mk trivial ?_ | refine Nd.mk (by decide) ?_ | refine Nd.mk ?_ ?_ | refine Leaf.mk rfl ?_ | refine LeafS.fin rfl ?_ | refine Fin.mk ?_ rfl | refine Fin.mk ?_ ?_) | ((with_reducible refine Nx.mk ?_ ?_ ?_ ?_) <;> first | rfl | skip) | (with_reducible first | show Bo _ _ | show Br _ _ _ | show Eqn _ _ _)))
    all_goals simp only [ctd, cfd] at *
    · omega
    · rw [hl, spl, List.length_replicate]
      exact ⟨rfl, by unfold roomy; omega⟩
    · refine J_of (hJ (i + 1) (by omega) (by omega)) ?_ ?_
      · rw [hw (by omega), sidesD_take es i (by omega)]
        rfl
      · rw [hl]
        rfl
    · have : i = es.length := by omega
      subst this
      rw [List.take_length]
    · have : i = es.length := by omega
      subst this
      rw [← hl, List.take_length]
  · trivial
theorem pok_vector_Address : POK prog orc f_vector_Address := by
  refine pok_of ok_vector_Address mixed (by simp [ac_vector_Address, acP, callsP]) (by simp [ac_vector_Address, acS, callsS]) fun args hok => ?_
  show Fits orc nt_vector_Address rs_vector_Address ac_vector_Address args (pAddr args)
  unfold ac_vector_Address
  unfold pAddr
  split
  · rename_i a
    simp only [okAs, okA] at hok
    have ha := has_u64 hok.1
    refine ⟨rfl, ?_⟩
    repeat' (first | (with_reducible first | refine st_seq (fun K' hn he hr => ?_) | refine st_block (fun K' hn he hr => ?_) | refine st_region ?_ | refine st_tregion ?_ | refine st_draw ?_ | refine st_cond ?_ | refine st_skip ?_ | refine st_exit ?_ | refine st_ret ?_ | refine st_loop ?_ | refine st_op (fun G gn => ?_) | refine st_nil ?_ | refine st_gop ?_ | refine st_dop (fun G gn => ?_) | refine st_dnil ?_ | refine st_gdop ?_ | refine st_tl ?_) | (with_reducible refine gn _ _ ?_; clear gn G) | (with_reducible refine gn _ _ _ _ ?_; clear gn G) | (with_reducible first | refine Wr.mk ?_) | (with_reducible refine hn _ _ ?_; clear hn he hr K') | (with_reducible refine he _ _ _ ?_; clear hn he hr K') | (with_reducible refine hr _ _ ?_; clear hn he hr K') | ((with_reducible refine Eqn.mk (fun hq => ?_) ?_) <;> first | contradiction | skip) | (with_reducible first | refine Bo.yes (by decide) ?_ | refine Bo.no (by decide) ?_) | ((with_reducible refine Bo.gen (fun c hb => ?_)) <;> (try simp only [Nat.reduceAdd, toD, toDs, dInt, dBool, dStr, dList, dFs, dFld, List.getD_cons_zero, List.getD_cons_succ, Nat.zero_add, Int.reduceToNat] at hb) <;> (try simp only [cond_true, cond_false, toD, toDs, dInt, dBool, dStr, dList, dFs, dFld, List.getD_cons_zero, List.getD_cons_succ, Nat.zero_add, eqA, eqAs, decide_true, decide_false, beq_self_eq_true, Bool.not_true, Bool.not_false, Bool.and_true, Bool.true_and, Bool.and_self, cmpI, ↓reduceIte, Bool.false_eq_true, reduceCtorEq, Int.reduceEq, Int.reduceLT, Int.reduceLE] at hb) <;> first | (obtain rfl : c = true := hb) | (obtain rfl : c = false := hb) | skip) | ((with_reducible refine Br.cs (fun hq => ?_) (fun hq => ?_)) <;> (try simp only [cond_true, cond_false, toD, toDs, dInt, dBool, dStr, dList, dFs, dFld, List.getD_cons_zero, List.getD_cons_succ, Nat.zero_add, eqA, eqAs, decide_true, decide_false, beq_self_eq_true, Bool.not_true, Bool.not_false, Bool.and_true, Bool.true_and, Bool.and_self, cmpI, ↓reduceIte, Bool.false_eq_true, reduceCtorEq, Int.reduceEq, Int.reduceLT, Int.reduceLE] at hq) <;> first | contradiction | subst hq | skip) | (with_reducible first | refine Nd.mk trivial ?_ | refine Nd.mk (by decide) ?_ | refine Nd.mk ?_ ?_ | refine Leaf.mk rfl ?_ | refine LeafS.fin rfl ?_ | refine Fin.mk ?_ rfl | refine Fin.mk ?_ ?_) | ((with_reducible refine Nx.mk ?_ ?_ ?_ ?_) <;> first | rfl | skip) | ((conv => whnf); first | (with_reducible refine gn _ _ ?_; clear gn G) | (with_reducible refine gn _ _ _ _ ?_; clear gn G) | (with_reducible first | refine Wr.mk ?_) | (with_reducible refine hn _ _ ?_; clear hn he hr K') | (with_reducible refine he _ _ _ ?_; clear hn he hr K') | (with_reducible refine hr _ _ ?_; clear hn he hr K') | (with_reducible first | refine Nd.mk trivial ?_ | refine Nd.mk (by decide) ?_ | refine Nd.mk ?_ ?_ | refine Leaf.mk rfl ?_ | refine LeafS.fin rfl ?_ | refine Fin.mk ?_ rfl | refine Fin.mk ?_ ?_) | ((with_reducible refine Nx.mk ?_ ?_ ?_ ?_) <;> first | rfl | skip) | (with_reducible first | show Bo _ _ | show Br _ _ _ | show Eqn _ _ _)))
    refine loop_of (fun i : Nat => [(0, .int .u64 a), (2, .ptr 0 [] T83), (3, .ptr 1 [] T83), (5, .int .i64 i)]) (fun i => [.var T83 (zeroA T83) false, .var T83 (.arr 6 u8 (List.replicate (6 - i) (.i 0) ++ be a i)) false]) (fun i => i ≤ 6) (fun i => 6 - i) 0 rfl rfl (Nat.zero_le _) (fun _ _ => rfl) ?_
    intro i hi J hJ K' hn he hr
    have hw : i < 6 → IntKind.i64.wrap ((i : Int) + 1) = ((i + 1 : Nat) : Int) := fun _ => wi64_in (by omega) (by omega)
    have hs : IntKind.u64.wrap (8 * IntKind.u64.wrap (i : Int)) = ((8 * i : Nat) : Int) := by simp only [w64]; omega
    repeat' (first | (with_reducible first | refine st_seq (fun K' hn he hr => ?_) | refine st_block (fun K' hn he hr => ?_) | refine st_region ?_ | refine st_tregion ?_ | refine st_draw ?_ | refine st_cond ?_ | refine st_skip ?_ | refine st_exit ?_ | refine st_ret ?_ | refine st_loop ?_ | refine st_op (fun G gn => ?_) | refine st_nil ?_ | refine st_gop ?_ | refine st_dop (fun G gn => ?_) | refine st_dnil ?_ | refine st_gdop ?_ | refine st_tl ?_) | (with_reducible refine gn _ _ ?_; clear gn G) | (with_reducible refine gn _ _ _ _ ?_; clear gn G) | (with_reducible first | refine Wr.mk ?_) | (with_reducible refine hn _ _ ?_; clear hn he hr K') | (with_reducible refine he _ _ _ ?_; clear hn he hr K') | (with_reducible refine hr _ _ ?_; clear hn he hr K') | ((with_reducible refine Eqn.mk (fun hq => ?_) ?_) <;> first | contradiction | skip) | (with_reducible first | refine Bo.yes (by decide) ?_ | refine Bo.no (by decide) ?_) | ((with_reducible refine Bo.gen (fun c hb => ?_)) <;> (try simp only [Nat.reduceAdd, toD, toDs, dInt, dBool, dStr, dList, dFs, dFld, List.getD_cons_zero, List.getD_cons_succ, Nat.zero_add, Int.reduceToNat] at hb) <;> (try simp only [cond_true, cond_false, toD, toDs, dInt, dBool, dStr, dList, dFs, dFld, List.getD_cons_zero, List.getD_cons_succ, Nat.zero_add, eqA, eqAs, decide_true, decide_false, beq_self_eq_true, Bool.not_true, Bool.not_false, Bool.and_true, Bool.true_and, Bool.and_self, cmpI, ↓reduceIte, Bool.false_eq_true, reduceCtorEq, Int.reduceEq, Int.reduceLT, Int.reduceLE] at hb) <;> first | (obtain rfl : c = true := hb) | (obtain rfl : c = false := hb) | skip) | ((with_reducible refine Br.cs (fun hq => ?_) (fun hq => ?_)) <;> (try simp only [cond_true, cond_false, toD, toDs, dInt, dBool, dStr, dList, dFs, dFld, List.getD_cons_zero, List.getD_cons_succ, Nat.zero_add, eqA, eqAs, decide_true, decide_false, beq_self_eq_true, Bool.not_true, Bool.not_false, Bool.and_true, Bool.true_and, Bool.and_self, cmpI, ↓reduceIte, Bool.false_eq_true, reduceCtorEq, Int.reduceEq, Int.reduceLT, Int.reduceLE] at hq) <;> first | contradiction | subst hq | skip) | (with_reducible first | refine Nd.mk trivial ?_ | refine Nd.mk (by decide) ?_ | refine Nd.mk ?_ ?_ | refine Leaf.mk rfl ?_ | refine LeafS.fin rfl ?_ | refine Fin.mk ?_ rfl | refine Fin.mk ?_ ?_) | ((with_reducible refine Nx.mk ?_ ?_ ?_ ?_) <;> first | rfl | skip) | ((conv => whnf); first | (with_reducible refine gn _ _ ?_; clear gn G) | (with_reducible refine gn _ _ _ _ ?_; clear gn G) | (with_reducible first | refine Wr.mk ?_) | (with_reducible refine hn _ _ ?_; clear hn he hr K') | (with_reducible refine he _ _ _ ?_; clear hn he hr K') | (with_reducible refine hr _ _ ?_; clear hn he hr K') | (with_reducible first | refine Nd.mk trivial ?_ | refine Nd.mk (by decide) ?_ | refine Nd.mk ?_ ?_ | refine Leaf.mk rfl ?_ | refine LeafS.fin rfl ?_ | refine Fin.mk ?_ rfl | refine Fin.mk ?_ ?_) | ((with_reducible refine Nx.mk ?_ ?_ ?_ ?_) <;> first | rfl | skip) | (with_reducible first | show Bo _ _ | show Br _ _ _ | show Eqn _ _ _)))
    all_goals simp only [ctd, cfd] at *
    · rw [hs]; omega
    · rw [wi64_in (by omega) (by omega)]; omega
    · have e1 : ((8 * i : Nat) : Int).toNat.min IntKind.u64.bits = 8 * i := Nat.min_eq_left (by simp [IntKind.bits]; omega)
      have e2 : IntKind.i64.wrap (5 - (i : Int)) = ((5 - i : Nat) : Int) := by rw [wi64_in (by omega) (by omega)]; omega
      refine J_of (hJ (i + 1) (by omega) (by omega)) ?_ ?_
      · rw [hw (by omega)]
        try rfl
      · rw [hs, e1, e2, fdiv_pow, pow256, w8]
        have e4 : 6 - i = (5 - i) + 1 := by omega
        have e5 : 6 - (i + 1) = 5 - i := by omega
        rw [e4, e5, List.replicate_succ']
        simp [be, setD', toD]
        rfl
    · have : i = 6 := by omega
      subst this
      rfl
  · trivial
set_option maxHeartbeats 4000000 in
theorem pok_vector_Compare : POK prog orc f_vector_Compare := by
  refine pok_of ok_vector_Compare mixed (by simp [ac_vector_Compare, acP, callsP]) (by simp [ac_vector_Compare, acS, callsS]) fun args hok => ?_
  show Fits orc nt_vector_Compare rs_vector_Compare ac_vector_Compare args (pCompare args)
  unfold ac_vector_Compare
  unfold pCompare
  split
  · rename_i r c b p r' c' b' p'
    simp only [okAs, okA] at hok
    refine ⟨rfl, ?_⟩
    repeat' (first | (with_reducible first | refine st_seq (fun K' hn he hr => ?_) | refine st_block (fun K' hn he hr => ?_) | refine st_region ?_ | refine st_tregion ?_ | refine st_draw ?_ | refine st_cond ?_ | refine st_skip ?_ | refine st_exit ?_ | refine st_ret ?_ | refine st_loop ?_ | refine st_op (fun G gn => ?_) | refine st_nil ?_ | refine st_gop ?_ | refine st_dop (fun G gn => ?_) | refine st_dnil ?_ | refine st_gdop ?_ | refine st_tl ?_) | (with_reducible refine gn _ _ ?_; clear gn G) | (with_reducible refine gn _ _ _ _ ?_; clear gn G) | (with_reducible first | refine Wr.mk ?_) | (with_reducible refine hn _ _ ?_; clear hn he hr K') | (with_reducible refine he _ _ _ ?_; clear hn he hr K') | (with_reducible refine hr _ _ ?_; clear hn he hr K') | ((with_reducible refine Eqn.mk (fun hq => ?_) ?_) <;> first | contradiction | skip) | (with_reducible first | refine Bo.yes (by decide) ?_ | refine Bo.no (by decide) ?_) | ((with_reducible refine Bo.gen (fun c hb => ?_)) <;> (try simp only [Nat.reduceAdd, toD, toDs, dInt, dBool, dStr, dList, dFs, dFld, List.getD_cons_zero, List.getD_cons_succ, Nat.zero_add, Int.reduceToNat] at hb) <;> (try simp only [cond_true, cond_false, toD, toDs, dInt, dBool, dStr, dList, dFs, dFld, List.getD_cons_zero, List.getD_cons_succ, Nat.zero_add, eqA, eqAs, decide_true, decide_false, beq_self_eq_true, Bool.not_true, Bool.not_false, Bool.and_true, Bool.true_and, Bool.and_self, cmpI, ↓reduceIte, Bool.false_eq_true, reduceCtorEq, Int.reduceEq, Int.reduceLT, Int.reduceLE] at hb) <;> first | (obtain rfl : c = true := hb) | (obtain rfl : c = false := hb) | skip) | ((with_reducible refine Br.cs (fun hq => ?_) (fun hq => ?_)) <;> (try simp only [cond_true, cond_false, toD, toDs, dInt, dBool, dStr, dList, dFs, dFld, List.getD_cons_zero, List.getD_cons_succ, Nat.zero_add, eqA, eqAs, decide_true, decide_false, beq_self_eq_true, Bool.not_true, Bool.not_false, Bool.and_true, Bool.true_and, Bool.and_self, cmpI, ↓reduceIte, Bool.false_eq_true, reduceCtorEq, Int.reduceEq, Int.reduceLT, Int.reduceLE] at hq) <;> first | contradiction | subst hq | skip) | (with_reducible first | refine Nd.mk trivial ?_ | refine Nd.mk (by decide) ?_ | refine Nd.mk ?_ ?_ | refine Leaf.mk rfl ?_ | refine LeafS.fin rfl ?_ | refine Fin.mk ?_ rfl | refine Fin.mk ?_ ?_) | ((with_reducible refine Nx.mk ?_ ?_ ?_ ?_) <;> first | rfl | skip) | ((conv => whnf); first | (with_reducible refine gn _ _ ?_; clear gn G) | (with_reducible refine gn _ _ _ _ ?_; clear gn G) | (with_reducible first | refine Wr.mk ?_) | (with_reducible refine hn _ _ ?_; clear hn he hr K') | (with_reducible refine he _ _ _ ?_; clear hn he hr K') | (with_reducible refine hr _ _ ?_; clear hn he hr K') | (with_reducible first | refine Nd.mk trivial ?_ | refine Nd.mk (by decide) ?_ | refine Nd.mk ?_ ?_ | refine Leaf.mk rfl ?_ | refine LeafS.fin rfl ?_ | refine Fin.mk ?_ rfl | refine Fin.mk ?_ ?_) | ((with_reducible refine Nx.mk ?_ ?_ ?_ ?_) <;> first | rfl | skip) | (with_reducible first | show Bo _ _ | show Br _ _ _ | show Eqn _ _ _)))
    have wc : IntKind.u64.wrap c = c := by have := has_u32 hok.1.2.1; rw [w64]; omega
    have wc' : IntKind.u64.wrap c' = c' := by have := has_u32 hok.2.1.2.1; rw [w64]; omega
    have wp : IntKind.u64.wrap p = p := by have := has_u16 hok.1.2.2.2.1; rw [w64]; omega
    have wp' : IntKind.u64.wrap p' = p' := by have := has_u16 hok.2.1.2.2.2.1; rw [w64]; omega
    refine loop_of (fun i : Nat => [(5, .int .i64 0), (32, .arr 4 T92 [.a [.i r, .i r'], .a [.i c, .i c'], .a [.i b, .i b'], .a [.i p, .i p']]), (33, .int .i64 i)]) (fun i => [])
      (fun i => i ≤ 4 ∧ (0 < i → r = r') ∧ (1 < i → c = c') ∧ (2 < i → b = b') ∧ (3 < i → p = p')) (fun i => 4 - i) 0 ?_ rfl ⟨by omega, by omega, by omega, by omega, by omega⟩ (fun _ _ => rfl) ?_
    · have e : restr [5, 32, 33] [(5, .int .i64 0), (32, .arr 4 T92 [.a [.i r, .i r'], .a [.i c, .i c'], .a [.i b, .i b'], .a [.i p, .i p']]), (33, .int .i64 0)] = [(5, .int .i64 0), (32, .arr 4 T92 [.a [.i r, .i r'], .a [.i c, .i c'], .a [.i b, .i b'], .a [.i p, .i p']]), (33, .int .i64 ((0 : Nat) : Int))] := rfl
      refine Eq.trans (b := [(5, .int .i64 0), (32, .arr 4 T92 [.a [.i r, .i r'], .a [.i (IntKind.u64.wrap c), .i (IntKind.u64.wrap c')], .a [.i b, .i b'], .a [.i (IntKind.u64.wrap p), .i (IntKind.u64.wrap p')]]), (33, .int .i64 0)]) rfl ?_
      rw [wc, wc', wp, wp']
      rfl
    intro i hi J hJ K' hn he hr
    obtain ⟨h0, h1, h2, h3, h4⟩ := hi
    have hw : i < 4 → IntKind.i64.wrap ((i : Int) + 1) = ((i + 1 : Nat) : Int) := fun _ => wi64_in (by omega) (by omega)
    repeat' (first | (with_reducible first | refine st_seq (fun K' hn he hr => ?_) | refine st_block (fun K' hn he hr => ?_) | refine st_region ?_ | refine st_tregion ?_ | refine st_draw ?_ | refine st_cond ?_ | refine st_skip ?_ | refine st_exit ?_ | refine st_ret ?_ | refine st_loop ?_ | refine st_op (fun G gn => ?_) | refine st_nil ?_ | refine st_gop ?_ | refine st_dop (fun G gn => ?_) | refine st_dnil ?_ | refine st_gdop ?_ | refine st_tl ?_) | (with_reducible refine gn _ _ ?_; clear gn G) | (with_reducible refine gn _ _ _ _ ?_; clear gn G) | (with_reducible first | refine Wr.mk ?_) | (with_reducible refine hn _ _ ?_; clear hn he hr K') | (with_reducible refine he _ _ _ ?_; clear hn he hr K') | (with_reducible refine hr _ _ ?_; clear hn he hr K') | ((with_reducible refine Eqn.mk (fun hq => ?_) ?_) <;> first | contradiction | skip) | (with_reducible first | refine Bo.yes (by decide) ?_ | refine Bo.no (by decide) ?_) | ((with_reducible refine Bo.gen (fun c hb => ?_)) <;> (try simp only [Nat.reduceAdd, toD, toDs, dInt, dBool, dStr, dList, dFs, dFld, List.getD_cons_zero, List.getD_cons_succ, Nat.zero_add, Int.reduceToNat] at hb) <;> (try simp only [cond_true, cond_false, toD, toDs, dInt, dBool, dStr, dList, dFs, dFld, List.getD_cons_zero, List.getD_cons_succ, Nat.zero_add, eqA, eqAs, decide_true, decide_false, beq_self_eq_true, Bool.not_true, Bool.not_false, Bool.and_true, Bool.true_and, Bool.and_self, cmpI, ↓reduceIte, Bool.false_eq_true, reduceCtorEq, Int.reduceEq, Int.reduceLT, Int.reduceLE] at hb) <;> first | (obtain rfl : c = true := hb) | (obtain rfl : c = false := hb) | skip) | ((with_reducible refine Br.cs (fun hq => ?_) (fun hq => ?_)) <;> (try simp only [cond_true, cond_false, toD, toDs, dInt, dBool, dStr, dList, dFs, dFld, List.getD_cons_zero, List.getD_cons_succ, Nat.zero_add, eqA, eqAs, decide_true, decide_false, beq_self_eq_true, Bool.not_true, Bool.not_false, Bool.and_true, Bool.true_and, Bool.and_self, cmpI, ↓reduceIte, Bool.false_eq_true, reduceCtorEq, Int.reduceEq, Int.reduceLT, Int.reduceLE] at hq) <;> first | contradiction | subst hq | skip) | (with_reducible first | refine Nd.mk trivial ?_ | refine Nd.mk (by decide) ?_ | refine Nd.mk ?_ ?_ | refine Leaf.mk rfl ?_ | refine LeafS.fin rfl ?_ | refine Fin.mk ?_ rfl | refine Fin.mk ?_ ?_) | ((with_reducible refine Nx.mk ?_ ?_ ?_ ?_) <;> first | rfl | skip) | ((conv => whnf); first | (with_reducible refine gn _ _ ?_; clear gn G) | (with_reducible refine gn _ _ _ _ ?_; clear gn G) | (with_reducible first | refine Wr.mk ?_) | (with_reducible refine hn _ _ ?_; clear hn he hr K') | (with_reducible refine he _ _ _ ?_; clear hn he hr K') | (with_reducible refine hr _ _ ?_; clear hn he hr K') | (with_reducible first | refine Nd.mk trivial ?_ | refine Nd.mk (by decide) ?_ | refine Nd.mk ?_ ?_ | refine Leaf.mk rfl ?_ | refine LeafS.fin rfl ?_ | refine Fin.mk ?_ rfl | refine Fin.mk ?_ ?_) | ((with_reducible refine Nx.mk ?_ ?_ ?_ ?_) <;> first | rfl | skip) | (with_reducible first | show Bo _ _ | show Br _ _ _ | show Eqn _ _ _)))
    all_goals simp only [ctd, cfd, Int.toNat_natCast, Int.reduceToNat] at *
    · omega
    · rcases (by omega : i = 0 ∨ i = 1 ∨ i = 2 ∨ i = 3) with rfl | rfl | rfl | rfl
      · have q : r < r' := hb
        simp [cmpV, betterV, q, Int.ne_of_lt q]
      · have q : c < c' := hb
        simp [cmpV, betterV, q, Int.ne_of_lt q, h1]
      · have q : b < b' := hb
        simp [cmpV, betterV, q, Int.ne_of_lt q, h1, h2]
      · have q : p < p' := hb
        simp [cmpV, betterV, q, h1, h2, h3]
    · rcases (by omega : i = 0 ∨ i = 1 ∨ i = 2 ∨ i = 3) with rfl | rfl | rfl | rfl
      · have q : r' < r := hb
        have q2 : ¬ r < r' := by omega
        simp [cmpV, betterV, q, q2, Int.ne_of_lt q, (Int.ne_of_lt q).symm]
      · have q : c' < c := hb
        have q2 : ¬ c < c' := by omega
        simp [cmpV, betterV, q, q2, Int.ne_of_lt q, (Int.ne_of_lt q).symm, h1]
      · have q : b' < b := hb
        have q2 : ¬ b < b' := by omega
        simp [cmpV, betterV, q, q2, Int.ne_of_lt q, (Int.ne_of_lt q).symm, h1, h2]
      · have q : p' < p := hb
        have q2 : ¬ p < p' := by omega
        simp [cmpV, betterV, q, q2, h1, h2, h3]
    · rename_i g1
      refine J_of (hJ (i + 1) ?_ (by omega)) ?_ rfl
      · rcases (by omega : i = 0 ∨ i = 1 ∨ i = 2 ∨ i = 3) with rfl | rfl | rfl | rfl
        · have q1 : ¬ r < r' := g1
          have q2 : ¬ r' < r := hb
          exact ⟨by omega, fun _ => by omega, by omega, by omega, by omega⟩
        · have q1 : ¬ c < c' := g1
          have q2 : ¬ c' < c := hb
          exact ⟨by omega, fun _ => h1 (by omega), fun _ => by omega, by omega, by omega⟩
        · have q1 : ¬ b < b' := g1
          have q2 : ¬ b' < b := hb
          exact ⟨by omega, fun _ => h1 (by omega), fun _ => h2 (by omega), fun _ => by omega, by omega⟩
        · have q1 : ¬ p < p' := g1
          have q2 : ¬ p' < p := hb
          exact ⟨by omega, fun _ => h1 (by omega), fun _ => h2 (by omega), fun _ => h3 (by omega), fun _ => by omega⟩
      · rw [hw (by omega)]
        try rfl
    · have : i = 4 := by omega
      subst this
      simp [cmpV, betterV, h1, h2, h3, h4]
  · trivial
theorem cmpV_lt (r c b p r' c' b' p' : Int) : decide (cmpV r c b p r' c' b' p' < 0) = betterV r c b p r' c' b' p' := by
  unfold cmpV
  cases betterV r c b p r' c' b' p'
  · cases betterV r' c' b' p' r c b p <;> rfl
  · rfl
theorem pok_vector_Better : POK prog orc f_vector_Better := by
  refine pok_of ok_vector_Better mixed (by simp [ac_vector_Better, acP, callsP, pok_vector_Compare]) (by simp [ac_vector_Better, acS, callsS]) fun args hok => ?_
  show Fits orc nt_vector_Better rs_vector_Better ac_vector_Better args (pBetter args)
  unfold ac_vector_Better
  unfold pBetter
  split
  · rename_i r c b p r' c' b' p'
    refine ⟨rfl, ?_⟩
    repeat' (first | (with_reducible first | refine st_seq (fun K' hn he hr => ?_) | refine st_block (fun K' hn he hr => ?_) | refine st_region ?_ | refine st_tregion ?_ | refine st_draw ?_ | refine st_cond ?_ | refine st_skip ?_ | refine st_exit ?_ | refine st_ret ?_ | refine st_loop ?_ | refine st_op (fun G gn => ?_) | refine st_nil ?_ | refine st_gop ?_ | refine st_dop (fun G gn => ?_) | refine st_dnil ?_ | refine st_gdop ?_ | refine st_tl ?_) | (with_reducible refine gn _ _ ?_; clear gn G) | (with_reducible refine gn _ _ _ _ ?_; clear gn G) | (with_reducible first | refine Wr.mk ?_) | (with_reducible refine hn _ _ ?_; clear hn he hr K') | (with_reducible refine he _ _ _ ?_; clear hn he hr K') | (with_reducible refine hr _ _ ?_; clear hn he hr K') | ((with_reducible refine Eqn.mk (fun hq => ?_) ?_) <;> first | contradiction | skip) | (with_reducible first | refine Bo.yes (by decide) ?_ | refine Bo.no (by decide) ?_) | ((with_reducible refine Bo.gen (fun c hb => ?_)) <;> (try simp only [Nat.reduceAdd, toD, toDs, dInt, dBool, dStr, dList, dFs, dFld, List.getD_cons_zero, List.getD_cons_succ, Nat.zero_add, Int.reduceToNat] at hb) <;> (try simp only [cond_true, cond_false, toD, toDs, dInt, dBool, dStr, dList, dFs, dFld, List.getD_cons_zero, List.getD_cons_succ, Nat.zero_add, eqA, eqAs, decide_true, decide_false, beq_self_eq_true, Bool.not_true, Bool.not_false, Bool.and_true, Bool.true_and, Bool.and_self, cmpI, ↓reduceIte, Bool.false_eq_true, reduceCtorEq, Int.reduceEq, Int.reduceLT, Int.reduceLE] at hb) <;> first | (obtain rfl : c = true := hb) | (obtain rfl : c = false := hb) | skip) | ((with_reducible refine Br.cs (fun hq => ?_) (fun hq => ?_)) <;> (try simp only [cond_true, cond_false, toD, toDs, dInt, dBool, dStr, dList, dFs, dFld, List.getD_cons_zero, List.getD_cons_succ, Nat.zero_add, eqA, eqAs, decide_true, decide_false, beq_self_eq_true, Bool.not_true, Bool.not_false, Bool.and_true, Bool.true_and, Bool.and_self, cmpI, ↓reduceIte, Bool.false_eq_true, reduceCtorEq, Int.reduceEq, Int.reduceLT, Int.reduceLE] at hq) <;> first | contradiction | subst hq | skip) | (with_reducible first | refine Nd.mk trivial ?_ | refine Nd.mk (by decide) ?_ | refine Nd.mk ?_ ?_ | refine Leaf.mk rfl ?_ | refine LeafS.fin rfl ?_ | refine Fin.mk ?_ rfl | refine Fin.mk ?_ ?_) | ((with_reducible refine Nx.mk ?_ ?_ ?_ ?_) <;> first | rfl | skip) | ((conv => whnf); first | (with_reducible refine gn _ _ ?_; clear gn G) | (with_reducible refine gn _ _ _ _ ?_; clear gn G) | (with_reducible first | refine Wr.mk ?_) | (with_reducible refine hn _ _ ?_; clear hn he hr K') | (with_reducible refine he _ _ _ ?_; clear hn he hr K') | (with_reducible refine hr _ _ ?_; clear hn he hr K') | (with_reducible first | refine Nd.mk trivial ?_ | refine Nd.mk (by decide) ?_ | refine Nd.mk ?_ ?_ | refine Leaf.mk rfl ?_ | refine LeafS.fin rfl ?_ | refine Fin.mk ?_ rfl | refine Fin.mk ?_ ?_) | ((with_reducible refine Nx.mk ?_ ?_ ?_ ?_) <;> first | rfl | skip) | (with_reducible first | show Bo _ _ | show Br _ _ _ | show Eqn _ _ _)))
    refine congrArg AV.bool ?_
    rw [← cmpV_lt]
    assumption
  · trivial
end Go.Vc.Seat
