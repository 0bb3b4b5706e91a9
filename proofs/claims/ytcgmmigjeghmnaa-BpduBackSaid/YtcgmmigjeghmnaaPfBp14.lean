/- A part of the proof of the seat's laws: PfBp13, PfBp14. It states no claim by itself. -/
import Derived.Test.YtcgmmigjeghmnaaPfBp11
import Derived.Test.YtcgmmigjeghmnaaPfBp12
set_option linter.unusedVariables false
set_option linter.unusedSimpArgs false
namespace Go.Vc.Seat
open Go.Vc Go.Proofs.Try
def g6 (xs : List D) : Bool := decide (ato xs 0 = 1 ∧ ato xs 1 = 128 ∧ ato xs 2 = 194 ∧ ato xs 3 = 0 ∧ ato xs 4 = 0 ∧ ato xs 5 = 0)
def l3 (xs : List D) : Bool := decide (ato xs 14 = 66 ∧ ato xs 15 = 66 ∧ ato xs 16 = 3)
theorem isB_eq (xs : List D) : isB xs = (decide (17 ≤ xs.length) && (g6 xs && l3 xs)) := by
  unfold isB g6 l3
  rw [Bool.eq_iff_iff]
  simp only [decide_eq_true_eq, Bool.and_eq_true]
  constructor <;> intro h <;> simp only [h, and_self]
theorem ato_take {xs : List D} {n i : Nat} (h : i < n) : ato (xs.take n) i = ato xs i := by
  unfold ato
  simp only [List.getD_eq_getElem?_getD, List.getElem?_take, h, ↓reduceIte]
theorem ato_drop {xs : List D} {n i : Nat} : ato (xs.drop n) i = ato xs (n + i) := by
  unfold ato
  simp only [List.getD_eq_getElem?_getD, List.getElem?_drop]
theorem is_g1 (xs : List D) : eqDn (eqD (.int .u8)) 6 (xs.take 6) bGrp = g6 xs := bt (by
  rw [eq6t, g6, ctd]
  simp only [ato_take (show 0 < 6 by decide), ato_take (show 1 < 6 by decide), ato_take (show 2 < 6 by decide), ato_take (show 3 < 6 by decide), ato_take (show 4 < 6 by decide), ato_take (show 5 < 6 by decide)]
  rfl)
theorem ext_ato {xs ys : List D} (hx : ∀ x ∈ xs, okD (.int .u8) x) (hy : ∀ x ∈ ys, okD (.int .u8) x) (hl : xs.length = ys.length) (h : ∀ i, i < xs.length → ato xs i = ato ys i) : xs = ys := by
  apply List.ext_getElem hl
  intro i h1 h2
  have e := h i h1
  have c1 := canon hx i
  have c2 := canon hy i
  unfold ato at e
  rw [e, c2] at c1
  rw [List.getD_eq_getElem?_getD, List.getD_eq_getElem?_getD, List.getElem?_eq_getElem h1, List.getElem?_eq_getElem h2] at c1
  exact c1.symm
theorem okB_of {ys : List D} (h : ys.all (fun d => match d with | .i n => decide (0 ≤ n) && decide (n ≤ 255) | _ => false) = true) : ∀ x ∈ ys, okD (.int .u8) x := by
  intro x hx
  have := List.all_eq_true.1 h x hx
  cases x with
  | i n =>
    simp only [Bool.and_eq_true, decide_eq_true_eq] at this
    refine ⟨?_, rfl⟩
    show IntKind.u8.has n
    simpa [IntKind.has, IntKind.min, IntKind.max, IntKind.signed, IntKind.bits] using this
  | _ => simp at this
theorem is_g2 {xs : List D} (hx : ∀ x ∈ xs, okD (.int .u8) x) (hl : 17 ≤ xs.length) : sameB (xs.take 6) bGrp = g6 xs := by
  have h6 : (xs.take 6).length = 6 := by simp; omega
  rw [Bool.eq_iff_iff, sameB_iff (fun x h => hx x (List.mem_of_mem_take h)) (okB_of (by decide)), ← is_g1, eqDn_ato]
  constructor
  · intro h i hi
    rw [h]
  · intro h
    exact ext_ato (fun x h => hx x (List.mem_of_mem_take h)) (okB_of (by decide)) h6 (fun i hi => h i (by omega))
theorem is_g3 {xs : List D} (hx : ∀ x ∈ xs, okD (.int .u8) x) (hl : 17 ≤ xs.length) : sameB ((xs.drop 14).take 3) [.i 66, .i 66, .i 3] = l3 xs := by
  have h6 : ((xs.drop 14).take 3).length = 3 := by simp; omega
  rw [Bool.eq_iff_iff, sameB_iff (okB_take hx 14 3) (okB_of (by decide)), l3, decide_eq_true_eq]
  have q : ∀ i, i < 3 → ato ((xs.drop 14).take 3) i = ato xs (14 + i) := fun i hi => by rw [ato_take hi, ato_drop]
  constructor
  · intro h
    have q0 := q 0 (by omega)
    have q1 := q 1 (by omega)
    have q2 := q 2 (by omega)
    rw [h] at q0 q1 q2
    exact ⟨q0.symm, q1.symm, q2.symm⟩
  · intro h
    refine ext_ato (okB_take hx 14 3) (okB_of (by decide)) h6 (fun i hi => ?_)
    rw [h6] at hi
    rw [q i hi]
    match i, hi with
    | 0, _ => exact h.1
    | 1, _ => exact h.2.1
    | 2, _ => exact h.2.2
set_option maxRecDepth 20000 in
set_option maxHeartbeats 8000000 in
theorem pok_bpdu_Is : POK prog orc f_bpdu_Is := by
  refine pok_of ok_bpdu_Is mixed (by simp [ac_bpdu_Is, acP, callsP, pok_bpdu_bridges, pok_bpdu_llc, pok_slices_Equal_u8]) (by simp [ac_bpdu_Is, acS, callsS]) fun args hok => ?_
  show Fits orc nt_bpdu_Is rs_bpdu_Is ac_bpdu_Is args (pIsB args)
  unfold ac_bpdu_Is
  unfold pIsB
  split
  · rename_i xs
    simp only [okAs, okA, maxLen] at hok
    have hx := hok.1.2
    refine ⟨rfl, ?_⟩
    by_cases hl : 17 ≤ xs.length
    · have h1 : (17 : Int) ≤ xs.length := by omega
      have k1 := is_g1 xs
      have k3 := is_g3 hx hl
      have e : isB xs = (g6 xs && l3 xs) := by rw [isB_eq, decide_eq_true hl, Bool.true_and]
      rw [e]
      repeat' (first
        | (with_reducible first | refine st_seq (fun K' hn he hr => ?_) | refine st_block (fun K' hn he hr => ?_) | refine st_region ?_ | refine st_draw ?_ | refine st_cond ?_ | refine st_skip ?_ | refine st_exit ?_ | refine st_ret ?_ | refine st_loop ?_ | refine st_op (fun G gn => ?_) | refine st_nil ?_ | refine st_gop ?_ | refine st_dop (fun G gn => ?_) | refine st_dnil ?_ | refine st_gdop ?_ | refine st_tl ?_)
        | (with_reducible refine gn _ _ ?_; clear gn G)
        | (with_reducible refine gn _ _ _ _ ?_; clear gn G)
        | (with_reducible refine Wr.mk ?_)
        | (with_reducible refine hn _ _ ?_; clear hn he hr K')
        | (with_reducible refine he _ _ _ ?_; clear hn he hr K')
        | (with_reducible refine hr _ _ ?_; clear hn he hr K')
        | ((with_reducible refine Eqn.mk (fun hq => ?_) ?_) <;> first | contradiction | skip)
        | (with_reducible refine Bo.yes (by decide) ?_)
        | (with_reducible refine Bo.no (by decide) ?_)
        | ((with_reducible refine Bo.gen (fun c hb => ?_)) <;> (try simp only [Nat.reduceAdd, toD, toDs, dInt, dBool, dStr, dList, dFs, dFld, List.getD_cons_zero, List.getD_cons_succ, Nat.zero_add, Int.reduceToNat] at hb) <;> (try simp only [cond_true, cond_false, toD, toDs, dInt, dBool, dStr, dList, dFs, dFld, List.getD_cons_zero, List.getD_cons_succ, Nat.zero_add, eqA, eqAs, decide_true, decide_false, beq_self_eq_true, Bool.not_true, Bool.not_false, Bool.and_true, Bool.true_and, Bool.and_self, cmpI, ↓reduceIte, Bool.false_eq_true, reduceCtorEq, Int.reduceEq, Int.reduceLT, Int.reduceLE, h1, k1, k3, Int.reduceToNat, Nat.sub_zero, List.drop_zero, Nat.reduceSub, List.take_take, Nat.min_self] at hb) <;> first | (obtain rfl : c = true := hb) | (obtain rfl : c = false := hb) | skip)
        | ((with_reducible refine Br.cs (fun hq => ?_) (fun hq => ?_)) <;> (try simp only [cond_true, cond_false, toD, toDs, dInt, dBool, dStr, dList, dFs, dFld, List.getD_cons_zero, List.getD_cons_succ, Nat.zero_add, eqA, eqAs, decide_true, decide_false, beq_self_eq_true, Bool.not_true, Bool.not_false, Bool.and_true, Bool.true_and, Bool.and_self, cmpI, ↓reduceIte, Bool.false_eq_true, reduceCtorEq, Int.reduceEq, Int.reduceLT, Int.reduceLE, h1, k1, k3, Int.reduceToNat, Nat.sub_zero, List.drop_zero, Nat.reduceSub, List.take_take, Nat.min_self] at hq) <;> first | contradiction | subst hq | skip)
        | (with_reducible refine Nd.mk trivial ?_)
        | (with_reducible refine Nd.mk (by decide) ?_)
        | (with_reducible refine Nd.mk ?_ ?_)
        | (with_reducible refine Leaf.mk rfl ?_)
        | (with_reducible refine LeafS.fin rfl ?_)
        | (with_reducible refine Fin.mk ?_ rfl)
        | (with_reducible refine Fin.mk ?_ ?_)
        | ((with_reducible refine Nx.mk ?_ ?_ ?_ ?_) <;> first | rfl | skip)
        | (conv => whnf
           first
             | (with_reducible refine gn _ _ ?_; clear gn G)
             | (with_reducible refine gn _ _ _ _ ?_; clear gn G)
             | (with_reducible refine Wr.mk ?_)
             | (with_reducible refine hn _ _ ?_; clear hn he hr K')
             | (with_reducible refine he _ _ _ ?_; clear hn he hr K')
             | (with_reducible refine hr _ _ ?_; clear hn he hr K')
             | (with_reducible refine Nd.mk trivial ?_)
             | (with_reducible refine Nd.mk (by decide) ?_)
             | (with_reducible refine Nd.mk ?_ ?_)
             | (with_reducible refine Leaf.mk rfl ?_)
             | (with_reducible refine LeafS.fin rfl ?_)
             | (with_reducible refine Fin.mk ?_ rfl)
             | (with_reducible refine Fin.mk ?_ ?_)
             | ((with_reducible refine Nx.mk ?_ ?_ ?_ ?_) <;> first | rfl | skip)
             | (with_reducible show Bo _ _)
             | (with_reducible show Br _ _ _)
             | (with_reducible show Eqn _ _ _)))
      all_goals first | omega | (unfold cutOK; omega) | (simp only [List.length_take, List.length_drop, Int.reduceToNat]; omega) | skip
      all_goals (refine congrArg AV.bool ?_; clear hok hx k3 k1 e; simp_all)
    · have h1 : ¬ (17 : Int) ≤ xs.length := by omega
      have e : isB xs = false := by rw [isB_eq, decide_eq_false hl, Bool.false_and]
      rw [e]
      repeat' (first
        | (with_reducible first | refine st_seq (fun K' hn he hr => ?_) | refine st_block (fun K' hn he hr => ?_) | refine st_region ?_ | refine st_draw ?_ | refine st_cond ?_ | refine st_skip ?_ | refine st_exit ?_ | refine st_ret ?_ | refine st_loop ?_ | refine st_op (fun G gn => ?_) | refine st_nil ?_ | refine st_gop ?_ | refine st_dop (fun G gn => ?_) | refine st_dnil ?_ | refine st_gdop ?_ | refine st_tl ?_)
        | (with_reducible refine gn _ _ ?_; clear gn G)
        | (with_reducible refine gn _ _ _ _ ?_; clear gn G)
        | (with_reducible refine Wr.mk ?_)
        | (with_reducible refine hn _ _ ?_; clear hn he hr K')
        | (with_reducible refine he _ _ _ ?_; clear hn he hr K')
        | (with_reducible refine hr _ _ ?_; clear hn he hr K')
        | ((with_reducible refine Eqn.mk (fun hq => ?_) ?_) <;> first | contradiction | skip)
        | (with_reducible refine Bo.yes (by decide) ?_)
        | (with_reducible refine Bo.no (by decide) ?_)
        | ((with_reducible refine Bo.gen (fun c hb => ?_)) <;> (try simp only [Nat.reduceAdd, toD, toDs, dInt, dBool, dStr, dList, dFs, dFld, List.getD_cons_zero, List.getD_cons_succ, Nat.zero_add, Int.reduceToNat] at hb) <;> (try simp only [cond_true, cond_false, toD, toDs, dInt, dBool, dStr, dList, dFs, dFld, List.getD_cons_zero, List.getD_cons_succ, Nat.zero_add, eqA, eqAs, decide_true, decide_false, beq_self_eq_true, Bool.not_true, Bool.not_false, Bool.and_true, Bool.true_and, Bool.and_self, cmpI, ↓reduceIte, Bool.false_eq_true, reduceCtorEq, Int.reduceEq, Int.reduceLT, Int.reduceLE, h1] at hb) <;> first | (obtain rfl : c = true := hb) | (obtain rfl : c = false := hb) | skip)
        | ((with_reducible refine Br.cs (fun hq => ?_) (fun hq => ?_)) <;> (try simp only [cond_true, cond_false, toD, toDs, dInt, dBool, dStr, dList, dFs, dFld, List.getD_cons_zero, List.getD_cons_succ, Nat.zero_add, eqA, eqAs, decide_true, decide_false, beq_self_eq_true, Bool.not_true, Bool.not_false, Bool.and_true, Bool.true_and, Bool.and_self, cmpI, ↓reduceIte, Bool.false_eq_true, reduceCtorEq, Int.reduceEq, Int.reduceLT, Int.reduceLE, h1] at hq) <;> first | contradiction | subst hq | skip)
        | (with_reducible refine Nd.mk trivial ?_)
        | (with_reducible refine Nd.mk (by decide) ?_)
        | (with_reducible refine Nd.mk ?_ ?_)
        | (with_reducible refine Leaf.mk rfl ?_)
        | (with_reducible refine LeafS.fin rfl ?_)
        | (with_reducible refine Fin.mk ?_ rfl)
        | (with_reducible refine Fin.mk ?_ ?_)
        | ((with_reducible refine Nx.mk ?_ ?_ ?_ ?_) <;> first | rfl | skip)
        | (conv => whnf
           first
             | (with_reducible refine gn _ _ ?_; clear gn G)
             | (with_reducible refine gn _ _ _ _ ?_; clear gn G)
             | (with_reducible refine Wr.mk ?_)
             | (with_reducible refine hn _ _ ?_; clear hn he hr K')
             | (with_reducible refine he _ _ _ ?_; clear hn he hr K')
             | (with_reducible refine hr _ _ ?_; clear hn he hr K')
             | (with_reducible refine Nd.mk trivial ?_)
             | (with_reducible refine Nd.mk (by decide) ?_)
             | (with_reducible refine Nd.mk ?_ ?_)
             | (with_reducible refine Leaf.mk rfl ?_)
             | (with_reducible refine LeafS.fin rfl ?_)
             | (with_reducible refine Fin.mk ?_ rfl)
             | (with_reducible refine Fin.mk ?_ ?_)
             | ((with_reducible refine Nx.mk ?_ ?_ ?_ ?_) <;> first | rfl | skip)
             | (with_reducible show Bo _ _)
             | (with_reducible show Br _ _ _)
             | (with_reducible show Eqn _ _ _)))
      rfl
  · trivial
set_option maxRecDepth 20000 in
set_option maxHeartbeats 8000000 in
theorem pok_r05_Is : POK prog orc f_r05_Is := by
  refine pok_of ok_r05_Is mixed (by simp [ac_r05_Is, acP, callsP, pok_r05_group]) (by simp [ac_r05_Is, acS, callsS]) fun args hok => ?_
  show Fits orc nt_r05_Is rs_r05_Is ac_r05_Is args (pIsB args)
  unfold ac_r05_Is
  unfold pIsB
  split
  · rename_i xs
    simp only [okAs, okA, maxLen] at hok
    have hx := hok.1.2
    refine ⟨rfl, ?_⟩
    by_cases hl : 17 ≤ xs.length
    · have h1 : (17 : Int) ≤ xs.length := by omega
      have k2 := is_g2 hx hl
      have e : isB xs = (g6 xs && l3 xs) := by rw [isB_eq, decide_eq_true hl, Bool.true_and]
      rw [e]
      repeat' (first
        | (with_reducible first | refine st_seq (fun K' hn he hr => ?_) | refine st_block (fun K' hn he hr => ?_) | refine st_region ?_ | refine st_draw ?_ | refine st_cond ?_ | refine st_skip ?_ | refine st_exit ?_ | refine st_ret ?_ | refine st_loop ?_ | refine st_op (fun G gn => ?_) | refine st_nil ?_ | refine st_gop ?_ | refine st_dop (fun G gn => ?_) | refine st_dnil ?_ | refine st_gdop ?_ | refine st_tl ?_)
        | (with_reducible refine gn _ _ ?_; clear gn G)
        | (with_reducible refine gn _ _ _ _ ?_; clear gn G)
        | (with_reducible refine Wr.mk ?_)
        | (with_reducible refine hn _ _ ?_; clear hn he hr K')
        | (with_reducible refine he _ _ _ ?_; clear hn he hr K')
        | (with_reducible refine hr _ _ ?_; clear hn he hr K')
        | ((with_reducible refine Eqn.mk (fun hq => ?_) ?_) <;> first | contradiction | skip)
        | (with_reducible refine Bo.yes (by decide) ?_)
        | (with_reducible refine Bo.no (by decide) ?_)
        | ((with_reducible refine Bo.gen (fun c hb => ?_)) <;> (try simp only [Nat.reduceAdd, toD, toDs, dInt, dBool, dStr, dList, dFs, dFld, List.getD_cons_zero, List.getD_cons_succ, Nat.zero_add, Int.reduceToNat] at hb) <;> (try simp only [cond_true, cond_false, toD, toDs, dInt, dBool, dStr, dList, dFs, dFld, List.getD_cons_zero, List.getD_cons_succ, Nat.zero_add, eqA, eqAs, decide_true, decide_false, beq_self_eq_true, Bool.not_true, Bool.not_false, Bool.and_true, Bool.true_and, Bool.and_self, cmpI, ↓reduceIte, Bool.false_eq_true, reduceCtorEq, Int.reduceEq, Int.reduceLT, Int.reduceLE, h1, Int.reduceToNat, Nat.sub_zero, List.drop_zero, Nat.reduceSub] at hb) <;> first | (obtain rfl : c = true := hb) | (obtain rfl : c = false := hb) | skip)
        | ((with_reducible refine Br.cs (fun hq => ?_) (fun hq => ?_)) <;> (try simp only [cond_true, cond_false, toD, toDs, dInt, dBool, dStr, dList, dFs, dFld, List.getD_cons_zero, List.getD_cons_succ, Nat.zero_add, eqA, eqAs, decide_true, decide_false, beq_self_eq_true, Bool.not_true, Bool.not_false, Bool.and_true, Bool.true_and, Bool.and_self, cmpI, ↓reduceIte, Bool.false_eq_true, reduceCtorEq, Int.reduceEq, Int.reduceLT, Int.reduceLE, h1, Int.reduceToNat, Nat.sub_zero, List.drop_zero, Nat.reduceSub] at hq) <;> first | contradiction | subst hq | skip)
        | (with_reducible refine Nd.mk trivial ?_)
        | (with_reducible refine Nd.mk (by decide) ?_)
        | (with_reducible refine Nd.mk ?_ ?_)
        | (with_reducible refine Leaf.mk rfl ?_)
        | (with_reducible refine LeafS.fin rfl ?_)
        | (with_reducible refine Fin.mk ?_ rfl)
        | (with_reducible refine Fin.mk ?_ ?_)
        | ((with_reducible refine Nx.mk ?_ ?_ ?_ ?_) <;> first | rfl | skip)
        | (conv => whnf
           first
             | (with_reducible refine gn _ _ ?_; clear gn G)
             | (with_reducible refine gn _ _ _ _ ?_; clear gn G)
             | (with_reducible refine Wr.mk ?_)
             | (with_reducible refine hn _ _ ?_; clear hn he hr K')
             | (with_reducible refine he _ _ _ ?_; clear hn he hr K')
             | (with_reducible refine hr _ _ ?_; clear hn he hr K')
             | (with_reducible refine Nd.mk trivial ?_)
             | (with_reducible refine Nd.mk (by decide) ?_)
             | (with_reducible refine Nd.mk ?_ ?_)
             | (with_reducible refine Leaf.mk rfl ?_)
             | (with_reducible refine LeafS.fin rfl ?_)
             | (with_reducible refine Fin.mk ?_ rfl)
             | (with_reducible refine Fin.mk ?_ ?_)
             | ((with_reducible refine Nx.mk ?_ ?_ ?_ ?_) <;> first | rfl | skip)
             | (with_reducible show Bo _ _)
             | (with_reducible show Br _ _ _)
             | (with_reducible show Eqn _ _ _)))
      all_goals first | omega | (unfold cutOK; omega) | skip
      all_goals (have k2' : decide (bytesOf (List.take 6 xs) = bytesOf bGrp) = g6 xs := k2)
      all_goals (have e3 : l3 xs = decide ((xs.getD 14 (.i 0)).int = 66 ∧ (xs.getD 15 (.i 0)).int = 66 ∧ (xs.getD 16 (.i 0)).int = 3) := rfl)
      all_goals (refine congrArg AV.bool ?_; clear hok hx k2 e; rw [e3, ← k2']; clear k2' e3; simp_all)
    · have h1 : ¬ (17 : Int) ≤ xs.length := by omega
      have e : isB xs = false := by rw [isB_eq, decide_eq_false hl, Bool.false_and]
      rw [e]
      repeat' (first
        | (with_reducible first | refine st_seq (fun K' hn he hr => ?_) | refine st_block (fun K' hn he hr => ?_) | refine st_region ?_ | refine st_draw ?_ | refine st_cond ?_ | refine st_skip ?_ | refine st_exit ?_ | refine st_ret ?_ | refine st_loop ?_ | refine st_op (fun G gn => ?_) | refine st_nil ?_ | refine st_gop ?_ | refine st_dop (fun G gn => ?_) | refine st_dnil ?_ | refine st_gdop ?_ | refine st_tl ?_)
        | (with_reducible refine gn _ _ ?_; clear gn G)
        | (with_reducible refine gn _ _ _ _ ?_; clear gn G)
        | (with_reducible refine Wr.mk ?_)
        | (with_reducible refine hn _ _ ?_; clear hn he hr K')
        | (with_reducible refine he _ _ _ ?_; clear hn he hr K')
        | (with_reducible refine hr _ _ ?_; clear hn he hr K')
        | ((with_reducible refine Eqn.mk (fun hq => ?_) ?_) <;> first | contradiction | skip)
        | (with_reducible refine Bo.yes (by decide) ?_)
        | (with_reducible refine Bo.no (by decide) ?_)
        | ((with_reducible refine Bo.gen (fun c hb => ?_)) <;> (try simp only [Nat.reduceAdd, toD, toDs, dInt, dBool, dStr, dList, dFs, dFld, List.getD_cons_zero, List.getD_cons_succ, Nat.zero_add, Int.reduceToNat] at hb) <;> (try simp only [cond_true, cond_false, toD, toDs, dInt, dBool, dStr, dList, dFs, dFld, List.getD_cons_zero, List.getD_cons_succ, Nat.zero_add, eqA, eqAs, decide_true, decide_false, beq_self_eq_true, Bool.not_true, Bool.not_false, Bool.and_true, Bool.true_and, Bool.and_self, cmpI, ↓reduceIte, Bool.false_eq_true, reduceCtorEq, Int.reduceEq, Int.reduceLT, Int.reduceLE, h1] at hb) <;> first | (obtain rfl : c = true := hb) | (obtain rfl : c = false := hb) | skip)
        | ((with_reducible refine Br.cs (fun hq => ?_) (fun hq => ?_)) <;> (try simp only [cond_true, cond_false, toD, toDs, dInt, dBool, dStr, dList, dFs, dFld, List.getD_cons_zero, List.getD_cons_succ, Nat.zero_add, eqA, eqAs, decide_true, decide_false, beq_self_eq_true, Bool.not_true, Bool.not_false, Bool.and_true, Bool.true_and, Bool.and_self, cmpI, ↓reduceIte, Bool.false_eq_true, reduceCtorEq, Int.reduceEq, Int.reduceLT, Int.reduceLE, h1] at hq) <;> first | contradiction | subst hq | skip)
        | (with_reducible refine Nd.mk trivial ?_)
        | (with_reducible refine Nd.mk (by decide) ?_)
        | (with_reducible refine Nd.mk ?_ ?_)
        | (with_reducible refine Leaf.mk rfl ?_)
        | (with_reducible refine LeafS.fin rfl ?_)
        | (with_reducible refine Fin.mk ?_ rfl)
        | (with_reducible refine Fin.mk ?_ ?_)
        | ((with_reducible refine Nx.mk ?_ ?_ ?_ ?_) <;> first | rfl | skip)
        | (conv => whnf
           first
             | (with_reducible refine gn _ _ ?_; clear gn G)
             | (with_reducible refine gn _ _ _ _ ?_; clear gn G)
             | (with_reducible refine Wr.mk ?_)
             | (with_reducible refine hn _ _ ?_; clear hn he hr K')
             | (with_reducible refine he _ _ _ ?_; clear hn he hr K')
             | (with_reducible refine hr _ _ ?_; clear hn he hr K')
             | (with_reducible refine Nd.mk trivial ?_)
             | (with_reducible refine Nd.mk (by decide) ?_)
             | (with_reducible refine Nd.mk ?_ ?_)
             | (with_reducible refine Leaf.mk rfl ?_)
             | (with_reducible refine LeafS.fin rfl ?_)
             | (with_reducible refine Fin.mk ?_ rfl)
             | (with_reducible refine Fin.mk ?_ ?_)
             | ((with_reducible refine Nx.mk ?_ ?_ ?_ ?_) <;> first | rfl | skip)
             | (with_reducible show Bo _ _)
             | (with_reducible show Br _ _ _)
             | (with_reducible show Eqn _ _ _)))
      rfl
  · trivial
end Go.Vc.Seat
set_option linter.unusedVariables false
set_option linter.unusedSimpArgs false
namespace Go.Vc.Seat
open Go.Vc Go.Proofs.Try
theorem fine_rd (xs : List D) : fineB (rdM xs) = true := by
  unfold rdM
  split
  · decide
  · split
    · exact fine_cfg xs
    · exact fine_rst false xs
theorem decS_length {xs : List D} (h : ¬ xs.length < 21) : (decS xs).length = 6 := by simp [decS]; omega
set_option maxRecDepth 20000 in
set_option maxHeartbeats 16000000 in
theorem pok_bpdu_Decode : POK prog orc f_bpdu_Decode := by
  refine pok_of ok_bpdu_Decode mixed (by simp [ac_bpdu_Decode, acP, callsP, pok_bpdu_Read, pok_bpdu_Encode, pok_slices_Equal_u8]) (by simp [ac_bpdu_Decode, acS, callsS]) fun args hok => ?_
  show Fits orc nt_bpdu_Decode rs_bpdu_Decode ac_bpdu_Decode args (pBpDec args)
  unfold ac_bpdu_Decode
  unfold pBpDec
  split
  · rename_i xs
    simp only [okAs, okA, maxLen] at hok
    refine ⟨fun h => ⟨rfl, ?_⟩, fun h => ?_⟩
    · have h1 := short_iff.1 h
      have h2 : (xs.length : Int) < 21 := by omega
      repeat' (first
        | (with_reducible first | refine st_seq (fun K' hn he hr => ?_) | refine st_block (fun K' hn he hr => ?_) | refine st_region ?_ | refine st_draw ?_ | refine st_cond ?_ | refine st_skip ?_ | refine st_exit ?_ | refine st_ret ?_ | refine st_loop ?_ | refine st_op (fun G gn => ?_) | refine st_nil ?_ | refine st_gop ?_ | refine st_dop (fun G gn => ?_) | refine st_dnil ?_ | refine st_gdop ?_ | refine st_tl ?_)
        | (with_reducible refine gn _ _ ?_; clear gn G)
        | (with_reducible refine gn _ _ _ _ ?_; clear gn G)
        | (with_reducible refine Wr.mk ?_)
        | (with_reducible refine hn _ _ ?_; clear hn he hr K')
        | (with_reducible refine he _ _ _ ?_; clear hn he hr K')
        | (with_reducible refine hr _ _ ?_; clear hn he hr K')
        | ((with_reducible refine Eqn.mk (fun hq => ?_) ?_) <;> first | contradiction | skip)
        | (with_reducible refine Bo.yes (by decide) ?_)
        | (with_reducible refine Bo.no (by decide) ?_)
        | ((with_reducible refine Bo.gen (fun c hb => ?_)) <;> (try simp only [Nat.reduceAdd, toD, toDs, dInt, dBool, dStr, dList, dFs, dFld, List.getD_cons_zero, List.getD_cons_succ, Nat.zero_add, Int.reduceToNat] at hb) <;> (try simp only [cond_true, cond_false, toD, toDs, dInt, dBool, dStr, dList, dFs, dFld, List.getD_cons_zero, List.getD_cons_succ, Nat.zero_add, eqA, eqAs, decide_true, decide_false, beq_self_eq_true, Bool.not_true, Bool.not_false, Bool.and_true, Bool.true_and, Bool.and_self, cmpI, ↓reduceIte, Bool.false_eq_true, reduceCtorEq, Int.reduceEq, Int.reduceLT, Int.reduceLE, h2] at hb) <;> first | (obtain rfl : c = true := hb) | (obtain rfl : c = false := hb) | skip)
        | ((with_reducible refine Br.cs (fun hq => ?_) (fun hq => ?_)) <;> (try simp only [cond_true, cond_false, toD, toDs, dInt, dBool, dStr, dList, dFs, dFld, List.getD_cons_zero, List.getD_cons_succ, Nat.zero_add, eqA, eqAs, decide_true, decide_false, beq_self_eq_true, Bool.not_true, Bool.not_false, Bool.and_true, Bool.true_and, Bool.and_self, cmpI, ↓reduceIte, Bool.false_eq_true, reduceCtorEq, Int.reduceEq, Int.reduceLT, Int.reduceLE, h2] at hq) <;> first | contradiction | subst hq | skip)
        | (with_reducible refine Nd.mk trivial ?_)
        | (with_reducible refine Nd.mk (by decide) ?_)
        | (with_reducible refine Nd.mk ?_ ?_)
        | (with_reducible refine Leaf.mk rfl ?_)
        | (with_reducible refine LeafS.fin rfl ?_)
        | (with_reducible refine Fin.mk ?_ rfl)
        | (with_reducible refine Fin.mk ?_ ?_)
        | ((with_reducible refine Nx.mk ?_ ?_ ?_ ?_) <;> first | rfl | skip)
        | (conv => whnf
           first
             | (with_reducible refine gn _ _ ?_; clear gn G)
             | (with_reducible refine gn _ _ _ _ ?_; clear gn G)
             | (with_reducible refine Wr.mk ?_)
             | (with_reducible refine hn _ _ ?_; clear hn he hr K')
             | (with_reducible refine he _ _ _ ?_; clear hn he hr K')
             | (with_reducible refine hr _ _ ?_; clear hn he hr K')
             | (with_reducible refine Nd.mk trivial ?_)
             | (with_reducible refine Nd.mk (by decide) ?_)
             | (with_reducible refine Nd.mk ?_ ?_)
             | (with_reducible refine Leaf.mk rfl ?_)
             | (with_reducible refine LeafS.fin rfl ?_)
             | (with_reducible refine Fin.mk ?_ rfl)
             | (with_reducible refine Fin.mk ?_ ?_)
             | ((with_reducible refine Nx.mk ?_ ?_ ?_ ?_) <;> first | rfl | skip)
             | (with_reducible show Bo _ _)
             | (with_reducible show Br _ _ _)
             | (with_reducible show Eqn _ _ _)))
      all_goals first | rfl
    · have h1 := short_f.1 h
      have h2 : ¬ (xs.length : Int) < 21 := by omega
      have h4 : short (xs.drop 17) 4 = false := short_f.2 (by rw [List.length_drop]; omega)
      have h5 : List.take (xs.length - 17) (List.drop 17 xs) = List.drop 17 xs := take_drop_all xs 17
      have hm : fineB ⟨(rdM (xs.drop 17)).k, (rdM (xs.drop 17)).tc, (rdM (xs.drop 17)).ack, (rdM (xs.drop 17)).pr, (rdM (xs.drop 17)).le, (rdM (xs.drop 17)).fo, (rdM (xs.drop 17)).ag, (rdM (xs.drop 17)).ro, (rdM (xs.drop 17)).R, (rdM (xs.drop 17)).C, (rdM (xs.drop 17)).B, (rdM (xs.drop 17)).P, (rdM (xs.drop 17)).ta, (rdM (xs.drop 17)).tm, (rdM (xs.drop 17)).th, (rdM (xs.drop 17)).td⟩ = true := fine_rd _
      cases ha : rdOK (xs.drop 17)
      · have hd : decOK xs = false := by rw [decOK, ha]; rfl
        refine ⟨fun hr => absurd (hr.symm.trans hd) (by decide), fun hr => ⟨rfl, ?_⟩⟩
        repeat' (first
          | (with_reducible first | refine st_seq (fun K' hn he hr => ?_) | refine st_block (fun K' hn he hr => ?_) | refine st_region ?_ | refine st_draw ?_ | refine st_cond ?_ | refine st_skip ?_ | refine st_exit ?_ | refine st_ret ?_ | refine st_loop ?_ | refine st_op (fun G gn => ?_) | refine st_nil ?_ | refine st_gop ?_ | refine st_dop (fun G gn => ?_) | refine st_dnil ?_ | refine st_gdop ?_ | refine st_tl ?_)
          | (with_reducible refine gn _ _ ?_; clear gn G)
          | (with_reducible refine gn _ _ _ _ ?_; clear gn G)
          | (with_reducible refine Wr.mk ?_)
          | (with_reducible refine hn _ _ ?_; clear hn he hr K')
          | (with_reducible refine he _ _ _ ?_; clear hn he hr K')
          | (with_reducible refine hr _ _ ?_; clear hn he hr K')
          | ((with_reducible refine Eqn.mk (fun hq => ?_) ?_) <;> first | contradiction | skip)
          | (with_reducible refine Bo.yes (by decide) ?_)
          | (with_reducible refine Bo.no (by decide) ?_)
          | ((with_reducible refine Bo.gen (fun c hb => ?_)) <;> (try simp only [Nat.reduceAdd, toD, toDs, dInt, dBool, dStr, dList, dFs, dFld, List.getD_cons_zero, List.getD_cons_succ, Nat.zero_add, Int.reduceToNat] at hb) <;> (try simp only [cond_true, cond_false, toD, toDs, dInt, dBool, dStr, dList, dFs, dFld, List.getD_cons_zero, List.getD_cons_succ, Nat.zero_add, eqA, eqAs, decide_true, decide_false, beq_self_eq_true, Bool.not_true, Bool.not_false, Bool.and_true, Bool.true_and, Bool.and_self, cmpI, ↓reduceIte, Bool.false_eq_true, reduceCtorEq, Int.reduceEq, Int.reduceLT, Int.reduceLE, h2, h5, h4, ha, Int.toNat_natCast, Int.reduceToNat] at hb) <;> first | (obtain rfl : c = true := hb) | (obtain rfl : c = false := hb) | skip)
          | ((with_reducible refine Br.cs (fun hq => ?_) (fun hq => ?_)) <;> (try simp only [cond_true, cond_false, toD, toDs, dInt, dBool, dStr, dList, dFs, dFld, List.getD_cons_zero, List.getD_cons_succ, Nat.zero_add, eqA, eqAs, decide_true, decide_false, beq_self_eq_true, Bool.not_true, Bool.not_false, Bool.and_true, Bool.true_and, Bool.and_self, cmpI, ↓reduceIte, Bool.false_eq_true, reduceCtorEq, Int.reduceEq, Int.reduceLT, Int.reduceLE, h2, h5, h4, ha, Int.toNat_natCast, Int.reduceToNat] at hq) <;> first | contradiction | subst hq | skip)
          | (with_reducible refine Nd.mk trivial ?_)
          | (with_reducible refine Nd.mk (by decide) ?_)
          | (with_reducible refine Nd.mk ?_ ?_)
          | (with_reducible refine Leaf.mk rfl ?_)
          | (with_reducible refine LeafS.fin rfl ?_)
          | (with_reducible refine Fin.mk ?_ rfl)
          | (with_reducible refine Fin.mk ?_ ?_)
          | ((with_reducible refine Nx.mk ?_ ?_ ?_ ?_) <;> first | rfl | skip)
          | (conv => whnf
             first
               | (with_reducible refine gn _ _ ?_; clear gn G)
               | (with_reducible refine gn _ _ _ _ ?_; clear gn G)
               | (with_reducible refine Wr.mk ?_)
               | (with_reducible refine hn _ _ ?_; clear hn he hr K')
               | (with_reducible refine he _ _ _ ?_; clear hn he hr K')
               | (with_reducible refine hr _ _ ?_; clear hn he hr K')
               | (with_reducible refine Nd.mk trivial ?_)
               | (with_reducible refine Nd.mk (by decide) ?_)
               | (with_reducible refine Nd.mk ?_ ?_)
               | (with_reducible refine Leaf.mk rfl ?_)
               | (with_reducible refine LeafS.fin rfl ?_)
               | (with_reducible refine Fin.mk ?_ rfl)
               | (with_reducible refine Fin.mk ?_ ?_)
               | ((with_reducible refine Nx.mk ?_ ?_ ?_ ?_) <;> first | rfl | skip)
               | (with_reducible show Bo _ _)
               | (with_reducible show Br _ _ _)
               | (with_reducible show Eqn _ _ _)))
        all_goals first | rfl | omega | (unfold cutOK; omega) | (simp only [List.length_take, List.length_drop, Int.reduceToNat]; omega) | (simp only [Int.toNat_natCast, Int.reduceToNat, Nat.reduceSub, h5, List.take_take, Nat.min_self, dFs]; rfl)
      · cases hb0 : single ((xs.drop 6).take 6)
        · have hd : decOK xs = false := by rw [decOK, ha, show single (decS xs) = false from hb0]; rfl
          refine ⟨fun hr => absurd (hr.symm.trans hd) (by decide), fun hr => ⟨rfl, ?_⟩⟩
          repeat' (first
            | (with_reducible first | refine st_seq (fun K' hn he hr => ?_) | refine st_block (fun K' hn he hr => ?_) | refine st_region ?_ | refine st_draw ?_ | refine st_cond ?_ | refine st_skip ?_ | refine st_exit ?_ | refine st_ret ?_ | refine st_loop ?_ | refine st_op (fun G gn => ?_) | refine st_nil ?_ | refine st_gop ?_ | refine st_dop (fun G gn => ?_) | refine st_dnil ?_ | refine st_gdop ?_ | refine st_tl ?_)
            | (with_reducible refine gn _ _ ?_; clear gn G)
            | (with_reducible refine gn _ _ _ _ ?_; clear gn G)
            | (with_reducible refine Wr.mk ?_)
            | (with_reducible refine hn _ _ ?_; clear hn he hr K')
            | (with_reducible refine he _ _ _ ?_; clear hn he hr K')
            | (with_reducible refine hr _ _ ?_; clear hn he hr K')
            | ((with_reducible refine Eqn.mk (fun hq => ?_) ?_) <;> first | contradiction | skip)
            | (with_reducible refine Bo.yes (by decide) ?_)
            | (with_reducible refine Bo.no (by decide) ?_)
            | ((with_reducible refine Bo.gen (fun c hb => ?_)) <;> (try simp only [Nat.reduceAdd, toD, toDs, dInt, dBool, dStr, dList, dFs, dFld, List.getD_cons_zero, List.getD_cons_succ, Nat.zero_add, Int.reduceToNat] at hb) <;> (try simp only [cond_true, cond_false, toD, toDs, dInt, dBool, dStr, dList, dFs, dFld, List.getD_cons_zero, List.getD_cons_succ, Nat.zero_add, eqA, eqAs, decide_true, decide_false, beq_self_eq_true, Bool.not_true, Bool.not_false, Bool.and_true, Bool.true_and, Bool.and_self, cmpI, ↓reduceIte, Bool.false_eq_true, reduceCtorEq, Int.reduceEq, Int.reduceLT, Int.reduceLE, h2, h5, h4, ha, hb0, Int.toNat_natCast, Int.reduceToNat, Nat.reduceSub, List.take_take, Nat.min_self] at hb) <;> first | (obtain rfl : c = true := hb) | (obtain rfl : c = false := hb) | skip)
            | ((with_reducible refine Br.cs (fun hq => ?_) (fun hq => ?_)) <;> (try simp only [cond_true, cond_false, toD, toDs, dInt, dBool, dStr, dList, dFs, dFld, List.getD_cons_zero, List.getD_cons_succ, Nat.zero_add, eqA, eqAs, decide_true, decide_false, beq_self_eq_true, Bool.not_true, Bool.not_false, Bool.and_true, Bool.true_and, Bool.and_self, cmpI, ↓reduceIte, Bool.false_eq_true, reduceCtorEq, Int.reduceEq, Int.reduceLT, Int.reduceLE, h2, h5, h4, ha, hb0, Int.toNat_natCast, Int.reduceToNat, Nat.reduceSub, List.take_take, Nat.min_self] at hq) <;> first | contradiction | subst hq | skip)
            | (with_reducible refine Nd.mk trivial ?_)
            | (with_reducible refine Nd.mk (by decide) ?_)
            | (with_reducible refine Nd.mk ?_ ?_)
            | (with_reducible refine Leaf.mk rfl ?_)
            | (with_reducible refine LeafS.fin rfl ?_)
            | (with_reducible refine Fin.mk ?_ rfl)
            | (with_reducible refine Fin.mk ?_ ?_)
            | ((with_reducible refine Nx.mk ?_ ?_ ?_ ?_) <;> first | rfl | skip)
            | (conv => whnf
               first
                 | (with_reducible refine gn _ _ ?_; clear gn G)
                 | (with_reducible refine gn _ _ _ _ ?_; clear gn G)
                 | (with_reducible refine Wr.mk ?_)
                 | (with_reducible refine hn _ _ ?_; clear hn he hr K')
                 | (with_reducible refine he _ _ _ ?_; clear hn he hr K')
                 | (with_reducible refine hr _ _ ?_; clear hn he hr K')
                 | (with_reducible refine Nd.mk trivial ?_)
                 | (with_reducible refine Nd.mk (by decide) ?_)
                 | (with_reducible refine Nd.mk ?_ ?_)
                 | (with_reducible refine Leaf.mk rfl ?_)
                 | (with_reducible refine LeafS.fin rfl ?_)
                 | (with_reducible refine Fin.mk ?_ rfl)
                 | (with_reducible refine Fin.mk ?_ ?_)
                 | ((with_reducible refine Nx.mk ?_ ?_ ?_ ?_) <;> first | rfl | skip)
                 | (with_reducible show Bo _ _)
                 | (with_reducible show Br _ _ _)
                 | (with_reducible show Eqn _ _ _)))
          all_goals first | rfl | omega | (unfold cutOK; omega) | (simp only [List.length_take, List.length_drop, Int.reduceToNat]; omega) | (simp only [Int.toNat_natCast, Int.reduceToNat, Nat.reduceSub, h5, List.take_take, Nat.min_self, dFs]; rfl)
        · have hd : decOK xs = sameB (bEnc (decS xs) (decM xs)) xs := by rw [decOK, ha, show single (decS xs) = true from hb0]; rfl
          rw [hd]
          refine ⟨fun hr => ⟨rfl, ?_⟩, fun hr => ⟨rfl, ?_⟩⟩
          · have hs : sameB (bEnc ((xs.drop 6).take 6) ⟨(rdM (xs.drop 17)).k, (rdM (xs.drop 17)).tc, (rdM (xs.drop 17)).ack, (rdM (xs.drop 17)).pr, (rdM (xs.drop 17)).le, (rdM (xs.drop 17)).fo, (rdM (xs.drop 17)).ag, (rdM (xs.drop 17)).ro, (rdM (xs.drop 17)).R, (rdM (xs.drop 17)).C, (rdM (xs.drop 17)).B, (rdM (xs.drop 17)).P, (rdM (xs.drop 17)).ta, (rdM (xs.drop 17)).tm, (rdM (xs.drop 17)).th, (rdM (xs.drop 17)).td⟩) xs = true := hr
            repeat' (first
              | (with_reducible first | refine st_seq (fun K' hn he hr => ?_) | refine st_block (fun K' hn he hr => ?_) | refine st_region ?_ | refine st_draw ?_ | refine st_cond ?_ | refine st_skip ?_ | refine st_exit ?_ | refine st_ret ?_ | refine st_loop ?_ | refine st_op (fun G gn => ?_) | refine st_nil ?_ | refine st_gop ?_ | refine st_dop (fun G gn => ?_) | refine st_dnil ?_ | refine st_gdop ?_ | refine st_tl ?_)
              | (with_reducible refine gn _ _ ?_; clear gn G)
              | (with_reducible refine gn _ _ _ _ ?_; clear gn G)
              | (with_reducible refine Wr.mk ?_)
              | (with_reducible refine hn _ _ ?_; clear hn he hr K')
              | (with_reducible refine he _ _ _ ?_; clear hn he hr K')
              | (with_reducible refine hr _ _ ?_; clear hn he hr K')
              | ((with_reducible refine Eqn.mk (fun hq => ?_) ?_) <;> first | contradiction | skip)
              | (with_reducible refine Bo.yes (by decide) ?_)
              | (with_reducible refine Bo.no (by decide) ?_)
              | ((with_reducible refine Bo.gen (fun c hb => ?_)) <;> (try simp only [Nat.reduceAdd, toD, toDs, dInt, dBool, dStr, dList, dFs, dFld, List.getD_cons_zero, List.getD_cons_succ, Nat.zero_add, Int.reduceToNat] at hb) <;> (try simp only [cond_true, cond_false, toD, toDs, dInt, dBool, dStr, dList, dFs, dFld, List.getD_cons_zero, List.getD_cons_succ, Nat.zero_add, eqA, eqAs, decide_true, decide_false, beq_self_eq_true, Bool.not_true, Bool.not_false, Bool.and_true, Bool.true_and, Bool.and_self, cmpI, ↓reduceIte, Bool.false_eq_true, reduceCtorEq, Int.reduceEq, Int.reduceLT, Int.reduceLE, h2, h5, h4, ha, hb0, hm, hs, Int.toNat_natCast, Int.reduceToNat, Nat.reduceSub, List.take_take, Nat.min_self] at hb) <;> first | (obtain rfl : c = true := hb) | (obtain rfl : c = false := hb) | skip)
              | ((with_reducible refine Br.cs (fun hq => ?_) (fun hq => ?_)) <;> (try simp only [cond_true, cond_false, toD, toDs, dInt, dBool, dStr, dList, dFs, dFld, List.getD_cons_zero, List.getD_cons_succ, Nat.zero_add, eqA, eqAs, decide_true, decide_false, beq_self_eq_true, Bool.not_true, Bool.not_false, Bool.and_true, Bool.true_and, Bool.and_self, cmpI, ↓reduceIte, Bool.false_eq_true, reduceCtorEq, Int.reduceEq, Int.reduceLT, Int.reduceLE, h2, h5, h4, ha, hb0, hm, hs, Int.toNat_natCast, Int.reduceToNat, Nat.reduceSub, List.take_take, Nat.min_self] at hq) <;> first | contradiction | subst hq | skip)
              | (with_reducible refine Nd.mk trivial ?_)
              | (with_reducible refine Nd.mk (by decide) ?_)
              | (with_reducible refine Nd.mk ?_ ?_)
              | (with_reducible refine Leaf.mk rfl ?_)
              | (with_reducible refine LeafS.fin rfl ?_)
              | (with_reducible refine Fin.mk ?_ rfl)
              | (with_reducible refine Fin.mk ?_ ?_)
              | ((with_reducible refine Nx.mk ?_ ?_ ?_ ?_) <;> first | rfl | skip)
              | (conv => whnf
                 first
                   | (with_reducible refine gn _ _ ?_; clear gn G)
                   | (with_reducible refine gn _ _ _ _ ?_; clear gn G)
                   | (with_reducible refine Wr.mk ?_)
                   | (with_reducible refine hn _ _ ?_; clear hn he hr K')
                   | (with_reducible refine he _ _ _ ?_; clear hn he hr K')
                   | (with_reducible refine hr _ _ ?_; clear hn he hr K')
                   | (with_reducible refine Nd.mk trivial ?_)
                   | (with_reducible refine Nd.mk (by decide) ?_)
                   | (with_reducible refine Nd.mk ?_ ?_)
                   | (with_reducible refine Leaf.mk rfl ?_)
                   | (with_reducible refine LeafS.fin rfl ?_)
                   | (with_reducible refine Fin.mk ?_ rfl)
                   | (with_reducible refine Fin.mk ?_ ?_)
                   | ((with_reducible refine Nx.mk ?_ ?_ ?_ ?_) <;> first | rfl | skip)
                   | (with_reducible show Bo _ _)
                   | (with_reducible show Br _ _ _)
                   | (with_reducible show Eqn _ _ _)))
            all_goals first | rfl | omega | (unfold cutOK; omega) | (simp only [List.length_take, List.length_drop, Int.reduceToNat]; omega) | (simp only [Int.toNat_natCast, Int.reduceToNat, Nat.reduceSub, h5, List.take_take, Nat.min_self, dFs]; rfl)
          · have hs : sameB (bEnc ((xs.drop 6).take 6) ⟨(rdM (xs.drop 17)).k, (rdM (xs.drop 17)).tc, (rdM (xs.drop 17)).ack, (rdM (xs.drop 17)).pr, (rdM (xs.drop 17)).le, (rdM (xs.drop 17)).fo, (rdM (xs.drop 17)).ag, (rdM (xs.drop 17)).ro, (rdM (xs.drop 17)).R, (rdM (xs.drop 17)).C, (rdM (xs.drop 17)).B, (rdM (xs.drop 17)).P, (rdM (xs.drop 17)).ta, (rdM (xs.drop 17)).tm, (rdM (xs.drop 17)).th, (rdM (xs.drop 17)).td⟩) xs = false := hr
            repeat' (first
              | (with_reducible first | refine st_seq (fun K' hn he hr => ?_) | refine st_block (fun K' hn he hr => ?_) | refine st_region ?_ | refine st_draw ?_ | refine st_cond ?_ | refine st_skip ?_ | refine st_exit ?_ | refine st_ret ?_ | refine st_loop ?_ | refine st_op (fun G gn => ?_) | refine st_nil ?_ | refine st_gop ?_ | refine st_dop (fun G gn => ?_) | refine st_dnil ?_ | refine st_gdop ?_ | refine st_tl ?_)
              | (with_reducible refine gn _ _ ?_; clear gn G)
              | (with_reducible refine gn _ _ _ _ ?_; clear gn G)
              | (with_reducible refine Wr.mk ?_)
              | (with_reducible refine hn _ _ ?_; clear hn he hr K')
              | (with_reducible refine he _ _ _ ?_; clear hn he hr K')
              | (with_reducible refine hr _ _ ?_; clear hn he hr K')
              | ((with_reducible refine Eqn.mk (fun hq => ?_) ?_) <;> first | contradiction | skip)
              | (with_reducible refine Bo.yes (by decide) ?_)
              | (with_reducible refine Bo.no (by decide) ?_)
              | ((with_reducible refine Bo.gen (fun c hb => ?_)) <;> (try simp only [Nat.reduceAdd, toD, toDs, dInt, dBool, dStr, dList, dFs, dFld, List.getD_cons_zero, List.getD_cons_succ, Nat.zero_add, Int.reduceToNat] at hb) <;> (try simp only [cond_true, cond_false, toD, toDs, dInt, dBool, dStr, dList, dFs, dFld, List.getD_cons_zero, List.getD_cons_succ, Nat.zero_add, eqA, eqAs, decide_true, decide_false, beq_self_eq_true, Bool.not_true, Bool.not_false, Bool.and_true, Bool.true_and, Bool.and_self, cmpI, ↓reduceIte, Bool.false_eq_true, reduceCtorEq, Int.reduceEq, Int.reduceLT, Int.reduceLE, h2, h5, h4, ha, hb0, hm, hs, Int.toNat_natCast, Int.reduceToNat, Nat.reduceSub, List.take_take, Nat.min_self] at hb) <;> first | (obtain rfl : c = true := hb) | (obtain rfl : c = false := hb) | skip)
              | ((with_reducible refine Br.cs (fun hq => ?_) (fun hq => ?_)) <;> (try simp only [cond_true, cond_false, toD, toDs, dInt, dBool, dStr, dList, dFs, dFld, List.getD_cons_zero, List.getD_cons_succ, Nat.zero_add, eqA, eqAs, decide_true, decide_false, beq_self_eq_true, Bool.not_true, Bool.not_false, Bool.and_true, Bool.true_and, Bool.and_self, cmpI, ↓reduceIte, Bool.false_eq_true, reduceCtorEq, Int.reduceEq, Int.reduceLT, Int.reduceLE, h2, h5, h4, ha, hb0, hm, hs, Int.toNat_natCast, Int.reduceToNat, Nat.reduceSub, List.take_take, Nat.min_self] at hq) <;> first | contradiction | subst hq | skip)
              | (with_reducible refine Nd.mk trivial ?_)
              | (with_reducible refine Nd.mk (by decide) ?_)
              | (with_reducible refine Nd.mk ?_ ?_)
              | (with_reducible refine Leaf.mk rfl ?_)
              | (with_reducible refine LeafS.fin rfl ?_)
              | (with_reducible refine Fin.mk ?_ rfl)
              | (with_reducible refine Fin.mk ?_ ?_)
              | ((with_reducible refine Nx.mk ?_ ?_ ?_ ?_) <;> first | rfl | skip)
              | (conv => whnf
                 first
                   | (with_reducible refine gn _ _ ?_; clear gn G)
                   | (with_reducible refine gn _ _ _ _ ?_; clear gn G)
                   | (with_reducible refine Wr.mk ?_)
                   | (with_reducible refine hn _ _ ?_; clear hn he hr K')
                   | (with_reducible refine he _ _ _ ?_; clear hn he hr K')
                   | (with_reducible refine hr _ _ ?_; clear hn he hr K')
                   | (with_reducible refine Nd.mk trivial ?_)
                   | (with_reducible refine Nd.mk (by decide) ?_)
                   | (with_reducible refine Nd.mk ?_ ?_)
                   | (with_reducible refine Leaf.mk rfl ?_)
                   | (with_reducible refine LeafS.fin rfl ?_)
                   | (with_reducible refine Fin.mk ?_ rfl)
                   | (with_reducible refine Fin.mk ?_ ?_)
                   | ((with_reducible refine Nx.mk ?_ ?_ ?_ ?_) <;> first | rfl | skip)
                   | (with_reducible show Bo _ _)
                   | (with_reducible show Br _ _ _)
                   | (with_reducible show Eqn _ _ _)))
            all_goals first | rfl | omega | (unfold cutOK; omega) | (simp only [List.length_take, List.length_drop, Int.reduceToNat]; omega) | (simp only [Int.toNat_natCast, Int.reduceToNat, Nat.reduceSub, h5, List.take_take, Nat.min_self, dFs]; rfl)
  · trivial
end Go.Vc.Seat
