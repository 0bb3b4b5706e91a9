/- A part of the proof of the seat's laws: PfBp9, PfBp10a, PfBp10b, PfBp10c, PfBp10d, PfBp11. It states no claim by itself. -/
import Derived.Test.YtcgmmigjeghmnaaPfBp8
set_option linter.unusedVariables false
set_option linter.unusedSimpArgs false
namespace Go.Vc.Seat
open Go.Vc Go.Proofs.Try
theorem tcn_same {xs : List D} (h : xs.length < 35) : rdOK xs = sameB (bBytes tcnM) xs ∧ (rdOK xs = true → rdM xs = tcnM) := by
  by_cases h4 : xs.length = 4
  · exact ⟨(rd4 h4).2, fun _ => (rd4 h4).1⟩
  · have hf := rd_no h4 (by omega) (by omega)
    rw [hf, sameB_ne (by rw [bBytes_2 rfl]; omega)]
    exact ⟨rfl, fun h => Bool.noConfusion h⟩
theorem rst_same {xs : List D} (hx : ∀ x ∈ xs, okD (.int .u8) x) (h : 35 ≤ xs.length) (h2 : ato xs 2 = 2) : rdOK xs = sameB (bBytes (rstM false xs)) xs ∧ (rdOK xs = true → rdM xs = rstM false xs) := by
  by_cases h6 : xs.length = 36
  · exact ⟨(rd36 h6).2, fun _ => (rd36 h6).1⟩
  · have hn : sameB (bBytes (rstM false xs)) xs = false := sameB_ne (by rw [bBytes_3 rfl]; omega)
    have hf : rdOK xs = false := by
      by_cases h5 : xs.length = 35
      · exact rd35_2 hx h5 h2
      · exact rd_no (by omega) h5 h6
    rw [hf, hn]
    exact ⟨rfl, fun h => Bool.noConfusion h⟩
theorem cfg_same {xs : List D} (hx : ∀ x ∈ xs, okD (.int .u8) x) (h : 35 ≤ xs.length) (h2 : ato xs 2 ≠ 2) : rdOK xs = sameB (bBytes (cfgM xs)) xs ∧ (rdOK xs = true → rdM xs = cfgM xs) := by
  by_cases h5 : xs.length = 35
  · exact ⟨(rd35 h5).2, fun _ => (rd35 h5).1⟩
  · have hn : sameB (bBytes (cfgM xs)) xs = false := sameB_ne (by rw [bBytes_1 rfl]; omega)
    have hf : rdOK xs = false := by
      by_cases h6 : xs.length = 36
      · exact rd36_2 hx h6 h2
      · exact rd_no (by omega) h5 h6
    rw [hf, hn]
    exact ⟨rfl, fun h => Bool.noConfusion h⟩
theorem fineT : fineB ⟨2, false, false, false, false, false, false, 0, 0, 0, 0, 0, 0, 0, 0, 0⟩ = true := by decide
theorem fineR (tc pr le fo ag : Bool) (n R C B P ta tm th td : Int) : fineB ⟨3, tc, false, pr, le, fo, ag, roleOf n, R, C, B, P, ta, tm, th, td⟩ = true := by simp [fineB, roleOf_in n]
theorem fineC (tc ack : Bool) (R C B P ta tm th td : Int) : fineB ⟨1, tc, ack, false, false, false, false, 0, R, C, B, P, ta, tm, th, td⟩ = true := by simp [fineB]
set_option maxRecDepth 20000 in
set_option maxHeartbeats 8000000 in
theorem readLoT {xs : List D} (h4 : ¬ xs.length < 4) (h35 : xs.length < 35) (hs : sameB (bBytes tcnM) xs = true) : Body orc nt_r05_Read rs_r05_Read ac_r05_Read [.sl (.int .u8) xs .no] (.tup [bpA tcnM, .int .i64 0]) [] := by
  unfold ac_r05_Read
  refine ⟨rfl, ?_⟩
  have h2 : ¬ (xs.length : Int) < 4 := by omega
  have h3 : ¬ (35 : Int) ≤ xs.length := by omega
  have hqe : (bytesOf (bBytes ⟨2, false, false, false, false, false, false, 0, 0, 0, 0, 0, 0, 0, 0, 0⟩) = bytesOf xs) = True := eq_true (of_decide_eq_true hs)
  repeat' (first
    | (with_reducible first | refine st_seq (fun K' hn he hr => ?_) | refine st_block (fun K' hn he hr => ?_) | refine st_region ?_ | refine st_draw ?_ | refine st_cond ?_ | refine st_skip ?_ | refine st_exit ?_ | refine st_ret ?_ | refine st_loop ?_ | refine st_op (fun G gn => ?_) | refine st_nil ?_ | refine st_gop ?_ | refine st_dop (fun G gn => ?_) | refine st_dnil ?_ | refine st_gdop ?_ | refine st_tl ?_)
    | (with_reducible refine gn _ _ ?_; clear gn G)
    | (with_reducible refine gn _ _ _ _ ?_; clear gn G)
    | (with_reducible refine Wr.mk ?_)
    | (with_reducible refine hn _ _ ?_; clear hn he hr K')
    | (with_reducible refine he _ _ _ ?_; clear hn he hr K')
    | (with_reducible refine hr _ _ ?_; clear hn he hr K')
    | ((with_reducible refine Eqn.mk (fun hq => ?_) ?_) <;> first | contradiction | skip)
    | (with_reducible refine Bo.yes (by decide) ?_)
    | (with_reducible refine Bo.no (by decide) ?_)
    | ((with_reducible refine Bo.gen (fun c hb => ?_)) <;> (try simp only [Nat.reduceAdd, toD, toDs, dInt, dBool, dStr, dList, dFs, dFld, List.getD_cons_zero, List.getD_cons_succ, Nat.zero_add, Int.reduceToNat] at hb) <;> (try simp only [cond_true, cond_false, toD, toDs, dInt, dBool, dStr, dList, dFs, dFld, List.getD_cons_zero, List.getD_cons_succ, Nat.zero_add, eqA, eqAs, decide_true, decide_false, beq_self_eq_true, Bool.not_true, Bool.not_false, Bool.and_true, Bool.true_and, Bool.and_self, cmpI, ↓reduceIte, Bool.false_eq_true, reduceCtorEq, Int.reduceEq, Int.reduceLT, Int.reduceLE, h2, h3, fineT, hqe, zeroD, zeroDs, isK] at hb) <;> first | (obtain rfl : c = true := hb) | (obtain rfl : c = false := hb) | skip)
    | ((with_reducible refine Br.cs (fun hq => ?_) (fun hq => ?_)) <;> (try simp only [cond_true, cond_false, toD, toDs, dInt, dBool, dStr, dList, dFs, dFld, List.getD_cons_zero, List.getD_cons_succ, Nat.zero_add, eqA, eqAs, decide_true, decide_false, beq_self_eq_true, Bool.not_true, Bool.not_false, Bool.and_true, Bool.true_and, Bool.and_self, cmpI, ↓reduceIte, Bool.false_eq_true, reduceCtorEq, Int.reduceEq, Int.reduceLT, Int.reduceLE, h2, h3, fineT, hqe, zeroD, zeroDs, isK] at hq) <;> first | contradiction | subst hq | skip)
    | (with_reducible refine Nd.mk trivial ?_)
    | (with_reducible refine Nd.mk (by decide) ?_)
    | (with_reducible refine Nd.mk ?_ ?_)
    | (with_reducible refine Leaf.mk rfl ?_)
    | (with_reducible refine LeafS.fin rfl ?_)
    | (with_reducible refine Fin.mk ?_ rfl)
    | (with_reducible refine Fin.mk ?_ ?_)
    | ((with_reducible refine Nx.mk ?_ ?_ ?_ ?_) <;> first | rfl | skip)
    | (conv => whnf
       first
         | (with_reducible refine gn _ _ ?_; clear gn G)
         | (with_reducible refine gn _ _ _ _ ?_; clear gn G)
         | (with_reducible refine Wr.mk ?_)
         | (with_reducible refine hn _ _ ?_; clear hn he hr K')
         | (with_reducible refine he _ _ _ ?_; clear hn he hr K')
         | (with_reducible refine hr _ _ ?_; clear hn he hr K')
         | (with_reducible refine Nd.mk trivial ?_)
         | (with_reducible refine Nd.mk (by decide) ?_)
         | (with_reducible refine Nd.mk ?_ ?_)
         | (with_reducible refine Leaf.mk rfl ?_)
         | (with_reducible refine LeafS.fin rfl ?_)
         | (with_reducible refine Fin.mk ?_ rfl)
         | (with_reducible refine Fin.mk ?_ ?_)
         | ((with_reducible refine Nx.mk ?_ ?_ ?_ ?_) <;> first | rfl | skip)
         | (with_reducible show Bo _ _)
         | (with_reducible show Br _ _ _)
         | (with_reducible show Eqn _ _ _)))
  all_goals first | rfl
set_option maxRecDepth 20000 in
set_option maxHeartbeats 8000000 in
theorem readLoF {xs : List D} (h4 : ¬ xs.length < 4) (h35 : xs.length < 35) (hs : sameB (bBytes tcnM) xs = false) : Body orc nt_r05_Read rs_r05_Read ac_r05_Read [.sl (.int .u8) xs .no] (.tup [bpA bp0, .int .i64 50]) [] := by
  unfold ac_r05_Read
  refine ⟨rfl, ?_⟩
  have h2 : ¬ (xs.length : Int) < 4 := by omega
  have h3 : ¬ (35 : Int) ≤ xs.length := by omega
  have hqe : (bytesOf (bBytes ⟨2, false, false, false, false, false, false, 0, 0, 0, 0, 0, 0, 0, 0, 0⟩) = bytesOf xs) = False := eq_false (of_decide_eq_false hs)
  repeat' (first
    | (with_reducible first | refine st_seq (fun K' hn he hr => ?_) | refine st_block (fun K' hn he hr => ?_) | refine st_region ?_ | refine st_draw ?_ | refine st_cond ?_ | refine st_skip ?_ | refine st_exit ?_ | refine st_ret ?_ | refine st_loop ?_ | refine st_op (fun G gn => ?_) | refine st_nil ?_ | refine st_gop ?_ | refine st_dop (fun G gn => ?_) | refine st_dnil ?_ | refine st_gdop ?_ | refine st_tl ?_)
    | (with_reducible refine gn _ _ ?_; clear gn G)
    | (with_reducible refine gn _ _ _ _ ?_; clear gn G)
    | (with_reducible refine Wr.mk ?_)
    | (with_reducible refine hn _ _ ?_; clear hn he hr K')
    | (with_reducible refine he _ _ _ ?_; clear hn he hr K')
    | (with_reducible refine hr _ _ ?_; clear hn he hr K')
    | ((with_reducible refine Eqn.mk (fun hq => ?_) ?_) <;> first | contradiction | skip)
    | (with_reducible refine Bo.yes (by decide) ?_)
    | (with_reducible refine Bo.no (by decide) ?_)
    | ((with_reducible refine Bo.gen (fun c hb => ?_)) <;> (try simp only [Nat.reduceAdd, toD, toDs, dInt, dBool, dStr, dList, dFs, dFld, List.getD_cons_zero, List.getD_cons_succ, Nat.zero_add, Int.reduceToNat] at hb) <;> (try simp only [cond_true, cond_false, toD, toDs, dInt, dBool, dStr, dList, dFs, dFld, List.getD_cons_zero, List.getD_cons_succ, Nat.zero_add, eqA, eqAs, decide_true, decide_false, beq_self_eq_true, Bool.not_true, Bool.not_false, Bool.and_true, Bool.true_and, Bool.and_self, cmpI, ↓reduceIte, Bool.false_eq_true, reduceCtorEq, Int.reduceEq, Int.reduceLT, Int.reduceLE, h2, h3, fineT, hqe, zeroD, zeroDs, isK] at hb) <;> first | (obtain rfl : c = true := hb) | (obtain rfl : c = false := hb) | skip)
    | ((with_reducible refine Br.cs (fun hq => ?_) (fun hq => ?_)) <;> (try simp only [cond_true, cond_false, toD, toDs, dInt, dBool, dStr, dList, dFs, dFld, List.getD_cons_zero, List.getD_cons_succ, Nat.zero_add, eqA, eqAs, decide_true, decide_false, beq_self_eq_true, Bool.not_true, Bool.not_false, Bool.and_true, Bool.true_and, Bool.and_self, cmpI, ↓reduceIte, Bool.false_eq_true, reduceCtorEq, Int.reduceEq, Int.reduceLT, Int.reduceLE, h2, h3, fineT, hqe, zeroD, zeroDs, isK] at hq) <;> first | contradiction | subst hq | skip)
    | (with_reducible refine Nd.mk trivial ?_)
    | (with_reducible refine Nd.mk (by decide) ?_)
    | (with_reducible refine Nd.mk ?_ ?_)
    | (with_reducible refine Leaf.mk rfl ?_)
    | (with_reducible refine LeafS.fin rfl ?_)
    | (with_reducible refine Fin.mk ?_ rfl)
    | (with_reducible refine Fin.mk ?_ ?_)
    | ((with_reducible refine Nx.mk ?_ ?_ ?_ ?_) <;> first | rfl | skip)
    | (conv => whnf
       first
         | (with_reducible refine gn _ _ ?_; clear gn G)
         | (with_reducible refine gn _ _ _ _ ?_; clear gn G)
         | (with_reducible refine Wr.mk ?_)
         | (with_reducible refine hn _ _ ?_; clear hn he hr K')
         | (with_reducible refine he _ _ _ ?_; clear hn he hr K')
         | (with_reducible refine hr _ _ ?_; clear hn he hr K')
         | (with_reducible refine Nd.mk trivial ?_)
         | (with_reducible refine Nd.mk (by decide) ?_)
         | (with_reducible refine Nd.mk ?_ ?_)
         | (with_reducible refine Leaf.mk rfl ?_)
         | (with_reducible refine LeafS.fin rfl ?_)
         | (with_reducible refine Fin.mk ?_ rfl)
         | (with_reducible refine Fin.mk ?_ ?_)
         | ((with_reducible refine Nx.mk ?_ ?_ ?_ ?_) <;> first | rfl | skip)
         | (with_reducible show Bo _ _)
         | (with_reducible show Br _ _ _)
         | (with_reducible show Eqn _ _ _)))
  all_goals first | rfl
end Go.Vc.Seat
set_option linter.unusedVariables false
set_option linter.unusedSimpArgs false
namespace Go.Vc.Seat
open Go.Vc Go.Proofs.Try
set_option maxRecDepth 20000 in
set_option maxHeartbeats 8000000 in
theorem readRT {xs : List D} (hx : ∀ x ∈ xs, okD (.int .u8) x) (h35 : 35 ≤ xs.length) (hb2 : (xs.getD 2 (.i 0)).int = 2) (hs : sameB (bBytes (rstM false xs)) xs = true) : Body orc nt_r05_Read rs_r05_Read ac_r05_Read [.sl (.int .u8) xs .no] (.tup [bpA (rstM false xs), .int .i64 0]) [] := by
  unfold ac_r05_Read
  refine ⟨rfl, ?_⟩
  have h2 : ¬ (xs.length : Int) < 4 := by omega
  have h3 : (35 : Int) ≤ xs.length := by omega
  have w1 : IntKind.u32.wrap (num ((xs.drop 13).take 4)) = num ((xs.drop 13).take 4) := by
    have := num_take_le (okB_take hx 13 4) 4 (by simp; omega)
    rw [List.take_of_length_le (by simp; omega)] at this
    rw [w32]; omega
  have w2 : IntKind.u16.wrap (num ((xs.drop 25).take 2)) = num ((xs.drop 25).take 2) := by
    have := num_take_le (okB_take hx 25 2) 2 (by simp; omega)
    rw [List.take_of_length_le (by simp; omega)] at this
    rw [w16]; omega
  have f4 : 0 ≤ (xs.getD 4 (.i 0)).int ∧ (xs.getD 4 (.i 0)).int ≤ 255 := ato_le hx 4
  have w3 : (IntKind.i64.wrap ((IntKind.i64.wrap (xs.getD 4 (.i 0)).int).tdiv 4)).tmod 4 = (xs.getD 4 (.i 0)).int / 4 % 4 := by
    rw [wi64_in (n := (xs.getD 4 (.i 0)).int) (by omega) (by omega), Int.tdiv_eq_ediv_of_nonneg f4.1, wi64_in (by omega) (by omega), Int.tmod_eq_emod_of_nonneg (by omega)]
  repeat' (first
    | (with_reducible first | refine st_seq (fun K' hn he hr => ?_) | refine st_block (fun K' hn he hr => ?_) | refine st_region ?_ | refine st_draw ?_ | refine st_cond ?_ | refine st_skip ?_ | refine st_exit ?_ | refine st_ret ?_ | refine st_loop ?_ | refine st_op (fun G gn => ?_) | refine st_nil ?_ | refine st_gop ?_ | refine st_dop (fun G gn => ?_) | refine st_dnil ?_ | refine st_gdop ?_ | refine st_tl ?_)
    | (with_reducible refine gn _ _ ?_; clear gn G)
    | (with_reducible refine gn _ _ _ _ ?_; clear gn G)
    | (with_reducible refine Wr.mk ?_)
    | (with_reducible refine hn _ _ ?_; clear hn he hr K')
    | (with_reducible refine he _ _ _ ?_; clear hn he hr K')
    | (with_reducible refine hr _ _ ?_; clear hn he hr K')
    | ((with_reducible refine Eqn.mk (fun hq => ?_) ?_) <;> first | contradiction | skip)
    | (with_reducible refine Bo.yes (by decide) ?_)
    | (with_reducible refine Bo.no (by decide) ?_)
    | ((with_reducible refine Bo.gen (fun c hb => ?_)) <;> (try simp only [Nat.reduceAdd, toD, toDs, dInt, dBool, dStr, dList, dFs, dFld, List.getD_cons_zero, List.getD_cons_succ, Nat.zero_add, Int.reduceToNat] at hb) <;> (try simp only [cond_true, cond_false, toD, toDs, dInt, dBool, dStr, dList, dFs, dFld, List.getD_cons_zero, List.getD_cons_succ, Nat.zero_add, eqA, eqAs, decide_true, decide_false, beq_self_eq_true, Bool.not_true, Bool.not_false, Bool.and_true, Bool.true_and, Bool.and_self, cmpI, ↓reduceIte, Bool.false_eq_true, reduceCtorEq, Int.reduceEq, Int.reduceLT, Int.reduceLE, h2, h3, hb2, fineR, zeroD, zeroDs, isK] at hb) <;> first | (obtain rfl : c = true := hb) | (obtain rfl : c = false := hb) | skip)
    | ((with_reducible refine Br.cs (fun hq => ?_) (fun hq => ?_)) <;> (try simp only [cond_true, cond_false, toD, toDs, dInt, dBool, dStr, dList, dFs, dFld, List.getD_cons_zero, List.getD_cons_succ, Nat.zero_add, eqA, eqAs, decide_true, decide_false, beq_self_eq_true, Bool.not_true, Bool.not_false, Bool.and_true, Bool.true_and, Bool.and_self, cmpI, ↓reduceIte, Bool.false_eq_true, reduceCtorEq, Int.reduceEq, Int.reduceLT, Int.reduceLE, h2, h3, hb2, fineR, zeroD, zeroDs, isK] at hq) <;> first | contradiction | subst hq | skip)
    | (with_reducible refine Nd.mk trivial ?_)
    | (with_reducible refine Nd.mk (by decide) ?_)
    | (with_reducible refine Nd.mk ?_ ?_)
    | (with_reducible refine Leaf.mk rfl ?_)
    | (with_reducible refine LeafS.fin rfl ?_)
    | (with_reducible refine Fin.mk ?_ rfl)
    | (with_reducible refine Fin.mk ?_ ?_)
    | ((with_reducible refine Nx.mk ?_ ?_ ?_ ?_) <;> first | rfl | skip)
    | (conv => whnf
       first
         | (with_reducible refine gn _ _ ?_; clear gn G)
         | (with_reducible refine gn _ _ _ _ ?_; clear gn G)
         | (with_reducible refine Wr.mk ?_)
         | (with_reducible refine hn _ _ ?_; clear hn he hr K')
         | (with_reducible refine he _ _ _ ?_; clear hn he hr K')
         | (with_reducible refine hr _ _ ?_; clear hn he hr K')
         | (with_reducible refine Nd.mk trivial ?_)
         | (with_reducible refine Nd.mk (by decide) ?_)
         | (with_reducible refine Nd.mk ?_ ?_)
         | (with_reducible refine Leaf.mk rfl ?_)
         | (with_reducible refine LeafS.fin rfl ?_)
         | (with_reducible refine Fin.mk ?_ rfl)
         | (with_reducible refine Fin.mk ?_ ?_)
         | ((with_reducible refine Nx.mk ?_ ?_ ?_ ?_) <;> first | rfl | skip)
         | (with_reducible show Bo _ _)
         | (with_reducible show Br _ _ _)
         | (with_reducible show Eqn _ _ _)))
  all_goals first | omega | (unfold cutOK; omega) | (simp only [List.length_take, List.length_drop, Int.reduceToNat]; omega) | skip
  all_goals subst_vars
  all_goals (simp only [zeroD, zeroDs, dFld, List.getD_cons_zero, List.getD_cons_succ, dInt, dBool, Int.reduceToNat, Nat.reduceSub, Nat.reduceAdd, w1, w2, w3] at hb)
  all_goals (try simp only [zeroD, zeroDs, dFld, List.getD_cons_zero, List.getD_cons_succ, dInt, dBool, Int.reduceToNat, Nat.reduceSub, Nat.reduceAdd, w1, w2, w3])
  · exfalso
    have e : true = !sameB (bBytes (rstM false xs)) xs := hb
    rw [hs] at e
    exact Bool.noConfusion e
  · rfl
end Go.Vc.Seat
set_option linter.unusedVariables false
set_option linter.unusedSimpArgs false
namespace Go.Vc.Seat
open Go.Vc Go.Proofs.Try
set_option maxRecDepth 20000 in
set_option maxHeartbeats 8000000 in
theorem readRF {xs : List D} (hx : ∀ x ∈ xs, okD (.int .u8) x) (h35 : 35 ≤ xs.length) (hb2 : (xs.getD 2 (.i 0)).int = 2) (hs : sameB (bBytes (rstM false xs)) xs = false) : Body orc nt_r05_Read rs_r05_Read ac_r05_Read [.sl (.int .u8) xs .no] (.tup [bpA bp0, .int .i64 50]) [] := by
  unfold ac_r05_Read
  refine ⟨rfl, ?_⟩
  have h2 : ¬ (xs.length : Int) < 4 := by omega
  have h3 : (35 : Int) ≤ xs.length := by omega
  have w1 : IntKind.u32.wrap (num ((xs.drop 13).take 4)) = num ((xs.drop 13).take 4) := by
    have := num_take_le (okB_take hx 13 4) 4 (by simp; omega)
    rw [List.take_of_length_le (by simp; omega)] at this
    rw [w32]; omega
  have w2 : IntKind.u16.wrap (num ((xs.drop 25).take 2)) = num ((xs.drop 25).take 2) := by
    have := num_take_le (okB_take hx 25 2) 2 (by simp; omega)
    rw [List.take_of_length_le (by simp; omega)] at this
    rw [w16]; omega
  have f4 : 0 ≤ (xs.getD 4 (.i 0)).int ∧ (xs.getD 4 (.i 0)).int ≤ 255 := ato_le hx 4
  have w3 : (IntKind.i64.wrap ((IntKind.i64.wrap (xs.getD 4 (.i 0)).int).tdiv 4)).tmod 4 = (xs.getD 4 (.i 0)).int / 4 % 4 := by
    rw [wi64_in (n := (xs.getD 4 (.i 0)).int) (by omega) (by omega), Int.tdiv_eq_ediv_of_nonneg f4.1, wi64_in (by omega) (by omega), Int.tmod_eq_emod_of_nonneg (by omega)]
  repeat' (first
    | (with_reducible first | refine st_seq (fun K' hn he hr => ?_) | refine st_block (fun K' hn he hr => ?_) | refine st_region ?_ | refine st_draw ?_ | refine st_cond ?_ | refine st_skip ?_ | refine st_exit ?_ | refine st_ret ?_ | refine st_loop ?_ | refine st_op (fun G gn => ?_) | refine st_nil ?_ | refine st_gop ?_ | refine st_dop (fun G gn => ?_) | refine st_dnil ?_ | refine st_gdop ?_ | refine st_tl ?_)
    | (with_reducible refine gn _ _ ?_; clear gn G)
    | (with_reducible refine gn _ _ _ _ ?_; clear gn G)
    | (with_reducible refine Wr.mk ?_)
    | (with_reducible refine hn _ _ ?_; clear hn he hr K')
    | (with_reducible refine he _ _ _ ?_; clear hn he hr K')
    | (with_reducible refine hr _ _ ?_; clear hn he hr K')
    | ((with_reducible refine Eqn.mk (fun hq => ?_) ?_) <;> first | contradiction | skip)
    | (with_reducible refine Bo.yes (by decide) ?_)
    | (with_reducible refine Bo.no (by decide) ?_)
    | ((with_reducible refine Bo.gen (fun c hb => ?_)) <;> (try simp only [Nat.reduceAdd, toD, toDs, dInt, dBool, dStr, dList, dFs, dFld, List.getD_cons_zero, List.getD_cons_succ, Nat.zero_add, Int.reduceToNat] at hb) <;> (try simp only [cond_true, cond_false, toD, toDs, dInt, dBool, dStr, dList, dFs, dFld, List.getD_cons_zero, List.getD_cons_succ, Nat.zero_add, eqA, eqAs, decide_true, decide_false, beq_self_eq_true, Bool.not_true, Bool.not_false, Bool.and_true, Bool.true_and, Bool.and_self, cmpI, ↓reduceIte, Bool.false_eq_true, reduceCtorEq, Int.reduceEq, Int.reduceLT, Int.reduceLE, h2, h3, hb2, fineR, zeroD, zeroDs, isK] at hb) <;> first | (obtain rfl : c = true := hb) | (obtain rfl : c = false := hb) | skip)
    | ((with_reducible refine Br.cs (fun hq => ?_) (fun hq => ?_)) <;> (try simp only [cond_true, cond_false, toD, toDs, dInt, dBool, dStr, dList, dFs, dFld, List.getD_cons_zero, List.getD_cons_succ, Nat.zero_add, eqA, eqAs, decide_true, decide_false, beq_self_eq_true, Bool.not_true, Bool.not_false, Bool.and_true, Bool.true_and, Bool.and_self, cmpI, ↓reduceIte, Bool.false_eq_true, reduceCtorEq, Int.reduceEq, Int.reduceLT, Int.reduceLE, h2, h3, hb2, fineR, zeroD, zeroDs, isK] at hq) <;> first | contradiction | subst hq | skip)
    | (with_reducible refine Nd.mk trivial ?_)
    | (with_reducible refine Nd.mk (by decide) ?_)
    | (with_reducible refine Nd.mk ?_ ?_)
    | (with_reducible refine Leaf.mk rfl ?_)
    | (with_reducible refine LeafS.fin rfl ?_)
    | (with_reducible refine Fin.mk ?_ rfl)
    | (with_reducible refine Fin.mk ?_ ?_)
    | ((with_reducible refine Nx.mk ?_ ?_ ?_ ?_) <;> first | rfl | skip)
    | (conv => whnf
       first
         | (with_reducible refine gn _ _ ?_; clear gn G)
         | (with_reducible refine gn _ _ _ _ ?_; clear gn G)
         | (with_reducible refine Wr.mk ?_)
         | (with_reducible refine hn _ _ ?_; clear hn he hr K')
         | (with_reducible refine he _ _ _ ?_; clear hn he hr K')
         | (with_reducible refine hr _ _ ?_; clear hn he hr K')
         | (with_reducible refine Nd.mk trivial ?_)
         | (with_reducible refine Nd.mk (by decide) ?_)
         | (with_reducible refine Nd.mk ?_ ?_)
         | (with_reducible refine Leaf.mk rfl ?_)
         | (with_reducible refine LeafS.fin rfl ?_)
         | (with_reducible refine Fin.mk ?_ rfl)
         | (with_reducible refine Fin.mk ?_ ?_)
         | ((with_reducible refine Nx.mk ?_ ?_ ?_ ?_) <;> first | rfl | skip)
         | (with_reducible show Bo _ _)
         | (with_reducible show Br _ _ _)
         | (with_reducible show Eqn _ _ _)))
  all_goals first | omega | (unfold cutOK; omega) | (simp only [List.length_take, List.length_drop, Int.reduceToNat]; omega) | skip
  all_goals subst_vars
  all_goals (simp only [zeroD, zeroDs, dFld, List.getD_cons_zero, List.getD_cons_succ, dInt, dBool, Int.reduceToNat, Nat.reduceSub, Nat.reduceAdd, w1, w2, w3] at hb)
  all_goals (try simp only [zeroD, zeroDs, dFld, List.getD_cons_zero, List.getD_cons_succ, dInt, dBool, Int.reduceToNat, Nat.reduceSub, Nat.reduceAdd, w1, w2, w3])
  · rfl
  · exfalso
    have e : false = !sameB (bBytes (rstM false xs)) xs := hb
    rw [hs] at e
    exact Bool.noConfusion e
end Go.Vc.Seat
set_option linter.unusedVariables false
set_option linter.unusedSimpArgs false
namespace Go.Vc.Seat
open Go.Vc Go.Proofs.Try
set_option maxRecDepth 20000 in
set_option maxHeartbeats 8000000 in
theorem readCT {xs : List D} (hx : ∀ x ∈ xs, okD (.int .u8) x) (h35 : 35 ≤ xs.length) (hb2 : ¬ (xs.getD 2 (.i 0)).int = 2) (hs : sameB (bBytes (cfgM xs)) xs = true) : Body orc nt_r05_Read rs_r05_Read ac_r05_Read [.sl (.int .u8) xs .no] (.tup [bpA (cfgM xs), .int .i64 0]) [] := by
  unfold ac_r05_Read
  refine ⟨rfl, ?_⟩
  have h2 : ¬ (xs.length : Int) < 4 := by omega
  have h3 : (35 : Int) ≤ xs.length := by omega
  have w1 : IntKind.u32.wrap (num ((xs.drop 13).take 4)) = num ((xs.drop 13).take 4) := by
    have := num_take_le (okB_take hx 13 4) 4 (by simp; omega)
    rw [List.take_of_length_le (by simp; omega)] at this
    rw [w32]; omega
  have w2 : IntKind.u16.wrap (num ((xs.drop 25).take 2)) = num ((xs.drop 25).take 2) := by
    have := num_take_le (okB_take hx 25 2) 2 (by simp; omega)
    rw [List.take_of_length_le (by simp; omega)] at this
    rw [w16]; omega
  have f4 : 0 ≤ (xs.getD 4 (.i 0)).int ∧ (xs.getD 4 (.i 0)).int ≤ 255 := ato_le hx 4
  have w3 : (IntKind.i64.wrap ((IntKind.i64.wrap (xs.getD 4 (.i 0)).int).tdiv 4)).tmod 4 = (xs.getD 4 (.i 0)).int / 4 % 4 := by
    rw [wi64_in (n := (xs.getD 4 (.i 0)).int) (by omega) (by omega), Int.tdiv_eq_ediv_of_nonneg f4.1, wi64_in (by omega) (by omega), Int.tmod_eq_emod_of_nonneg (by omega)]
  repeat' (first
    | (with_reducible first | refine st_seq (fun K' hn he hr => ?_) | refine st_block (fun K' hn he hr => ?_) | refine st_region ?_ | refine st_draw ?_ | refine st_cond ?_ | refine st_skip ?_ | refine st_exit ?_ | refine st_ret ?_ | refine st_loop ?_ | refine st_op (fun G gn => ?_) | refine st_nil ?_ | refine st_gop ?_ | refine st_dop (fun G gn => ?_) | refine st_dnil ?_ | refine st_gdop ?_ | refine st_tl ?_)
    | (with_reducible refine gn _ _ ?_; clear gn G)
    | (with_reducible refine gn _ _ _ _ ?_; clear gn G)
    | (with_reducible refine Wr.mk ?_)
    | (with_reducible refine hn _ _ ?_; clear hn he hr K')
    | (with_reducible refine he _ _ _ ?_; clear hn he hr K')
    | (with_reducible refine hr _ _ ?_; clear hn he hr K')
    | ((with_reducible refine Eqn.mk (fun hq => ?_) ?_) <;> first | contradiction | skip)
    | (with_reducible refine Bo.yes (by decide) ?_)
    | (with_reducible refine Bo.no (by decide) ?_)
    | ((with_reducible refine Bo.gen (fun c hb => ?_)) <;> (try simp only [Nat.reduceAdd, toD, toDs, dInt, dBool, dStr, dList, dFs, dFld, List.getD_cons_zero, List.getD_cons_succ, Nat.zero_add, Int.reduceToNat] at hb) <;> (try simp only [cond_true, cond_false, toD, toDs, dInt, dBool, dStr, dList, dFs, dFld, List.getD_cons_zero, List.getD_cons_succ, Nat.zero_add, eqA, eqAs, decide_true, decide_false, beq_self_eq_true, Bool.not_true, Bool.not_false, Bool.and_true, Bool.true_and, Bool.and_self, cmpI, ↓reduceIte, Bool.false_eq_true, reduceCtorEq, Int.reduceEq, Int.reduceLT, Int.reduceLE, h2, h3, hb2, fineC, zeroD, zeroDs, isK] at hb) <;> first | (obtain rfl : c = true := hb) | (obtain rfl : c = false := hb) | skip)
    | ((with_reducible refine Br.cs (fun hq => ?_) (fun hq => ?_)) <;> (try simp only [cond_true, cond_false, toD, toDs, dInt, dBool, dStr, dList, dFs, dFld, List.getD_cons_zero, List.getD_cons_succ, Nat.zero_add, eqA, eqAs, decide_true, decide_false, beq_self_eq_true, Bool.not_true, Bool.not_false, Bool.and_true, Bool.true_and, Bool.and_self, cmpI, ↓reduceIte, Bool.false_eq_true, reduceCtorEq, Int.reduceEq, Int.reduceLT, Int.reduceLE, h2, h3, hb2, fineC, zeroD, zeroDs, isK] at hq) <;> first | contradiction | subst hq | skip)
    | (with_reducible refine Nd.mk trivial ?_)
    | (with_reducible refine Nd.mk (by decide) ?_)
    | (with_reducible refine Nd.mk ?_ ?_)
    | (with_reducible refine Leaf.mk rfl ?_)
    | (with_reducible refine LeafS.fin rfl ?_)
    | (with_reducible refine Fin.mk ?_ rfl)
    | (with_reducible refine Fin.mk ?_ ?_)
    | ((with_reducible refine Nx.mk ?_ ?_ ?_ ?_) <;> first | rfl | skip)
    | (conv => whnf
       first
         | (with_reducible refine gn _ _ ?_; clear gn G)
         | (with_reducible refine gn _ _ _ _ ?_; clear gn G)
         | (with_reducible refine Wr.mk ?_)
         | (with_reducible refine hn _ _ ?_; clear hn he hr K')
         | (with_reducible refine he _ _ _ ?_; clear hn he hr K')
         | (with_reducible refine hr _ _ ?_; clear hn he hr K')
         | (with_reducible refine Nd.mk trivial ?_)
         | (with_reducible refine Nd.mk (by decide) ?_)
         | (with_reducible refine Nd.mk ?_ ?_)
         | (with_reducible refine Leaf.mk rfl ?_)
         | (with_reducible refine LeafS.fin rfl ?_)
         | (with_reducible refine Fin.mk ?_ rfl)
         | (with_reducible refine Fin.mk ?_ ?_)
         | ((with_reducible refine Nx.mk ?_ ?_ ?_ ?_) <;> first | rfl | skip)
         | (with_reducible show Bo _ _)
         | (with_reducible show Br _ _ _)
         | (with_reducible show Eqn _ _ _)))
  all_goals first | omega | (unfold cutOK; omega) | (simp only [List.length_take, List.length_drop, Int.reduceToNat]; omega) | skip
  all_goals subst_vars
  all_goals (simp only [zeroD, zeroDs, dFld, List.getD_cons_zero, List.getD_cons_succ, dInt, dBool, Int.reduceToNat, Nat.reduceSub, Nat.reduceAdd, w1, w2, w3] at hb)
  all_goals (try simp only [zeroD, zeroDs, dFld, List.getD_cons_zero, List.getD_cons_succ, dInt, dBool, Int.reduceToNat, Nat.reduceSub, Nat.reduceAdd, w1, w2, w3])
  · exfalso
    have e : true = !sameB (bBytes (cfgM xs)) xs := hb
    rw [hs] at e
    exact Bool.noConfusion e
  · rfl
end Go.Vc.Seat
set_option linter.unusedVariables false
set_option linter.unusedSimpArgs false
namespace Go.Vc.Seat
open Go.Vc Go.Proofs.Try
set_option maxRecDepth 20000 in
set_option maxHeartbeats 8000000 in
theorem readCF {xs : List D} (hx : ∀ x ∈ xs, okD (.int .u8) x) (h35 : 35 ≤ xs.length) (hb2 : ¬ (xs.getD 2 (.i 0)).int = 2) (hs : sameB (bBytes (cfgM xs)) xs = false) : Body orc nt_r05_Read rs_r05_Read ac_r05_Read [.sl (.int .u8) xs .no] (.tup [bpA bp0, .int .i64 50]) [] := by
  unfold ac_r05_Read
  refine ⟨rfl, ?_⟩
  have h2 : ¬ (xs.length : Int) < 4 := by omega
  have h3 : (35 : Int) ≤ xs.length := by omega
  have w1 : IntKind.u32.wrap (num ((xs.drop 13).take 4)) = num ((xs.drop 13).take 4) := by
    have := num_take_le (okB_take hx 13 4) 4 (by simp; omega)
    rw [List.take_of_length_le (by simp; omega)] at this
    rw [w32]; omega
  have w2 : IntKind.u16.wrap (num ((xs.drop 25).take 2)) = num ((xs.drop 25).take 2) := by
    have := num_take_le (okB_take hx 25 2) 2 (by simp; omega)
    rw [List.take_of_length_le (by simp; omega)] at this
    rw [w16]; omega
  have f4 : 0 ≤ (xs.getD 4 (.i 0)).int ∧ (xs.getD 4 (.i 0)).int ≤ 255 := ato_le hx 4
  have w3 : (IntKind.i64.wrap ((IntKind.i64.wrap (xs.getD 4 (.i 0)).int).tdiv 4)).tmod 4 = (xs.getD 4 (.i 0)).int / 4 % 4 := by
    rw [wi64_in (n := (xs.getD 4 (.i 0)).int) (by omega) (by omega), Int.tdiv_eq_ediv_of_nonneg f4.1, wi64_in (by omega) (by omega), Int.tmod_eq_emod_of_nonneg (by omega)]
  repeat' (first
    | (with_reducible first | refine st_seq (fun K' hn he hr => ?_) | refine st_block (fun K' hn he hr => ?_) | refine st_region ?_ | refine st_draw ?_ | refine st_cond ?_ | refine st_skip ?_ | refine st_exit ?_ | refine st_ret ?_ | refine st_loop ?_ | refine st_op (fun G gn => ?_) | refine st_nil ?_ | refine st_gop ?_ | refine st_dop (fun G gn => ?_) | refine st_dnil ?_ | refine st_gdop ?_ | refine st_tl ?_)
    | (with_reducible refine gn _ _ ?_; clear gn G)
    | (with_reducible refine gn _ _ _ _ ?_; clear gn G)
    | (with_reducible refine Wr.mk ?_)
    | (with_reducible refine hn _ _ ?_; clear hn he hr K')
    | (with_reducible refine he _ _ _ ?_; clear hn he hr K')
    | (with_reducible refine hr _ _ ?_; clear hn he hr K')
    | ((with_reducible refine Eqn.mk (fun hq => ?_) ?_) <;> first | contradiction | skip)
    | (with_reducible refine Bo.yes (by decide) ?_)
    | (with_reducible refine Bo.no (by decide) ?_)
    | ((with_reducible refine Bo.gen (fun c hb => ?_)) <;> (try simp only [Nat.reduceAdd, toD, toDs, dInt, dBool, dStr, dList, dFs, dFld, List.getD_cons_zero, List.getD_cons_succ, Nat.zero_add, Int.reduceToNat] at hb) <;> (try simp only [cond_true, cond_false, toD, toDs, dInt, dBool, dStr, dList, dFs, dFld, List.getD_cons_zero, List.getD_cons_succ, Nat.zero_add, eqA, eqAs, decide_true, decide_false, beq_self_eq_true, Bool.not_true, Bool.not_false, Bool.and_true, Bool.true_and, Bool.and_self, cmpI, ↓reduceIte, Bool.false_eq_true, reduceCtorEq, Int.reduceEq, Int.reduceLT, Int.reduceLE, h2, h3, hb2, fineC, zeroD, zeroDs, isK] at hb) <;> first | (obtain rfl : c = true := hb) | (obtain rfl : c = false := hb) | skip)
    | ((with_reducible refine Br.cs (fun hq => ?_) (fun hq => ?_)) <;> (try simp only [cond_true, cond_false, toD, toDs, dInt, dBool, dStr, dList, dFs, dFld, List.getD_cons_zero, List.getD_cons_succ, Nat.zero_add, eqA, eqAs, decide_true, decide_false, beq_self_eq_true, Bool.not_true, Bool.not_false, Bool.and_true, Bool.true_and, Bool.and_self, cmpI, ↓reduceIte, Bool.false_eq_true, reduceCtorEq, Int.reduceEq, Int.reduceLT, Int.reduceLE, h2, h3, hb2, fineC, zeroD, zeroDs, isK] at hq) <;> first | contradiction | subst hq | skip)
    | (with_reducible refine Nd.mk trivial ?_)
    | (with_reducible refine Nd.mk (by decide) ?_)
    | (with_reducible refine Nd.mk ?_ ?_)
    | (with_reducible refine Leaf.mk rfl ?_)
    | (with_reducible refine LeafS.fin rfl ?_)
    | (with_reducible refine Fin.mk ?_ rfl)
    | (with_reducible refine Fin.mk ?_ ?_)
    | ((with_reducible refine Nx.mk ?_ ?_ ?_ ?_) <;> first | rfl | skip)
    | (conv => whnf
       first
         | (with_reducible refine gn _ _ ?_; clear gn G)
         | (with_reducible refine gn _ _ _ _ ?_; clear gn G)
         | (with_reducible refine Wr.mk ?_)
         | (with_reducible refine hn _ _ ?_; clear hn he hr K')
         | (with_reducible refine he _ _ _ ?_; clear hn he hr K')
         | (with_reducible refine hr _ _ ?_; clear hn he hr K')
         | (with_reducible refine Nd.mk trivial ?_)
         | (with_reducible refine Nd.mk (by decide) ?_)
         | (with_reducible refine Nd.mk ?_ ?_)
         | (with_reducible refine Leaf.mk rfl ?_)
         | (with_reducible refine LeafS.fin rfl ?_)
         | (with_reducible refine Fin.mk ?_ rfl)
         | (with_reducible refine Fin.mk ?_ ?_)
         | ((with_reducible refine Nx.mk ?_ ?_ ?_ ?_) <;> first | rfl | skip)
         | (with_reducible show Bo _ _)
         | (with_reducible show Br _ _ _)
         | (with_reducible show Eqn _ _ _)))
  all_goals first | omega | (unfold cutOK; omega) | (simp only [List.length_take, List.length_drop, Int.reduceToNat]; omega) | skip
  all_goals subst_vars
  all_goals (simp only [zeroD, zeroDs, dFld, List.getD_cons_zero, List.getD_cons_succ, dInt, dBool, Int.reduceToNat, Nat.reduceSub, Nat.reduceAdd, w1, w2, w3] at hb)
  all_goals (try simp only [zeroD, zeroDs, dFld, List.getD_cons_zero, List.getD_cons_succ, dInt, dBool, Int.reduceToNat, Nat.reduceSub, Nat.reduceAdd, w1, w2, w3])
  · rfl
  · exfalso
    have e : false = !sameB (bBytes (cfgM xs)) xs := hb
    rw [hs] at e
    exact Bool.noConfusion e
end Go.Vc.Seat
set_option linter.unusedVariables false
set_option linter.unusedSimpArgs false
namespace Go.Vc.Seat
open Go.Vc Go.Proofs.Try
theorem readSh {xs : List D} (h : xs.length < 4) : Body orc nt_r05_Read rs_r05_Read ac_r05_Read [.sl (.int .u8) xs .no] (.tup [bpA bp0, .int .i64 6]) [] := by
  unfold ac_r05_Read
  refine ⟨rfl, ?_⟩
  have h2 : (xs.length : Int) < 4 := by omega
  repeat' (first
    | (with_reducible first | refine st_seq (fun K' hn he hr => ?_) | refine st_block (fun K' hn he hr => ?_) | refine st_region ?_ | refine st_draw ?_ | refine st_cond ?_ | refine st_skip ?_ | refine st_exit ?_ | refine st_ret ?_ | refine st_loop ?_ | refine st_op (fun G gn => ?_) | refine st_nil ?_ | refine st_gop ?_ | refine st_dop (fun G gn => ?_) | refine st_dnil ?_ | refine st_gdop ?_ | refine st_tl ?_)
    | (with_reducible refine gn _ _ ?_; clear gn G)
    | (with_reducible refine gn _ _ _ _ ?_; clear gn G)
    | (with_reducible refine Wr.mk ?_)
    | (with_reducible refine hn _ _ ?_; clear hn he hr K')
    | (with_reducible refine he _ _ _ ?_; clear hn he hr K')
    | (with_reducible refine hr _ _ ?_; clear hn he hr K')
    | ((with_reducible refine Eqn.mk (fun hq => ?_) ?_) <;> first | contradiction | skip)
    | (with_reducible refine Bo.yes (by decide) ?_)
    | (with_reducible refine Bo.no (by decide) ?_)
    | ((with_reducible refine Bo.gen (fun c hb => ?_)) <;> (try simp only [Nat.reduceAdd, toD, toDs, dInt, dBool, dStr, dList, dFs, dFld, List.getD_cons_zero, List.getD_cons_succ, Nat.zero_add, Int.reduceToNat] at hb) <;> (try simp only [cond_true, cond_false, toD, toDs, dInt, dBool, dStr, dList, dFs, dFld, List.getD_cons_zero, List.getD_cons_succ, Nat.zero_add, eqA, eqAs, decide_true, decide_false, beq_self_eq_true, Bool.not_true, Bool.not_false, Bool.and_true, Bool.true_and, Bool.and_self, cmpI, ↓reduceIte, Bool.false_eq_true, reduceCtorEq, Int.reduceEq, Int.reduceLT, Int.reduceLE, h2] at hb) <;> first | (obtain rfl : c = true := hb) | (obtain rfl : c = false := hb) | skip)
    | ((with_reducible refine Br.cs (fun hq => ?_) (fun hq => ?_)) <;> (try simp only [cond_true, cond_false, toD, toDs, dInt, dBool, dStr, dList, dFs, dFld, List.getD_cons_zero, List.getD_cons_succ, Nat.zero_add, eqA, eqAs, decide_true, decide_false, beq_self_eq_true, Bool.not_true, Bool.not_false, Bool.and_true, Bool.true_and, Bool.and_self, cmpI, ↓reduceIte, Bool.false_eq_true, reduceCtorEq, Int.reduceEq, Int.reduceLT, Int.reduceLE, h2] at hq) <;> first | contradiction | subst hq | skip)
    | (with_reducible refine Nd.mk trivial ?_)
    | (with_reducible refine Nd.mk (by decide) ?_)
    | (with_reducible refine Nd.mk ?_ ?_)
    | (with_reducible refine Leaf.mk rfl ?_)
    | (with_reducible refine LeafS.fin rfl ?_)
    | (with_reducible refine Fin.mk ?_ rfl)
    | (with_reducible refine Fin.mk ?_ ?_)
    | ((with_reducible refine Nx.mk ?_ ?_ ?_ ?_) <;> first | rfl | skip)
    | (conv => whnf
       first
         | (with_reducible refine gn _ _ ?_; clear gn G)
         | (with_reducible refine gn _ _ _ _ ?_; clear gn G)
         | (with_reducible refine Wr.mk ?_)
         | (with_reducible refine hn _ _ ?_; clear hn he hr K')
         | (with_reducible refine he _ _ _ ?_; clear hn he hr K')
         | (with_reducible refine hr _ _ ?_; clear hn he hr K')
         | (with_reducible refine Nd.mk trivial ?_)
         | (with_reducible refine Nd.mk (by decide) ?_)
         | (with_reducible refine Nd.mk ?_ ?_)
         | (with_reducible refine Leaf.mk rfl ?_)
         | (with_reducible refine LeafS.fin rfl ?_)
         | (with_reducible refine Fin.mk ?_ rfl)
         | (with_reducible refine Fin.mk ?_ ?_)
         | ((with_reducible refine Nx.mk ?_ ?_ ?_ ?_) <;> first | rfl | skip)
         | (with_reducible show Bo _ _)
         | (with_reducible show Br _ _ _)
         | (with_reducible show Eqn _ _ _)))
  all_goals rfl
theorem pok_r05_Read : POK prog orc f_r05_Read := by
  refine pok_of ok_r05_Read mixed (by simp [ac_r05_Read, acP, callsP, pok_r05_bit, pok_r05_roleOf, pok_r05_get, pok_r05_Bytes]) (by simp [ac_r05_Read, acS, callsS]) fun args hok => ?_
  show Fits orc nt_r05_Read rs_r05_Read ac_r05_Read args (pRead args)
  unfold ac_r05_Read
  unfold pRead
  split
  · rename_i xs
    simp only [okAs, okA, maxLen] at hok
    have hx := hok.1.2
    refine ⟨fun h => readSh (short_iff.1 h), fun h => ?_⟩
    have h4 := short_f.1 h
    by_cases h35 : xs.length < 35
    · have e := tcn_same h35
      refine ⟨fun hr => ?_, fun hr => readLoF h4 h35 (e.1.symm.trans hr)⟩
      have q := readLoT h4 h35 (e.1.symm.trans hr)
      rw [← e.2 hr] at q
      exact q
    · by_cases hb2 : (xs.getD 2 (.i 0)).int = 2
      · have e := rst_same hx (by omega) hb2
        refine ⟨fun hr => ?_, fun hr => readRF hx (by omega) hb2 (e.1.symm.trans hr)⟩
        have q := readRT hx (by omega) hb2 (e.1.symm.trans hr)
        rw [← e.2 hr] at q
        exact q
      · have e := cfg_same hx (by omega) hb2
        refine ⟨fun hr => ?_, fun hr => readCF hx (by omega) hb2 (e.1.symm.trans hr)⟩
        have q := readCT hx (by omega) hb2 (e.1.symm.trans hr)
        rw [← e.2 hr] at q
        exact q
  · trivial
end Go.Vc.Seat
