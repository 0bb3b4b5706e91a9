/- A part of the proof of the seat's laws: PfBp7, PfBp8. It states no claim by itself. -/
import Derived.Test.YtcgmmigjeghmnaaPfBp6
set_option linter.unusedVariables false
set_option linter.unusedSimpArgs false
namespace Go.Vc.Seat
open Go.Vc Go.Proofs.Try

theorem sameB_len {xs ys : List D} (h : sameB xs ys = true) : xs.length = ys.length := by
  unfold sameB at h
  have h := congrArg (fun b => b.data.size) (of_decide_eq_true h)
  simpa [bytesOf] using h
theorem sameB_at {xs ys : List D} (h : sameB xs ys = true) (i : Nat) (hx : 0 ≤ ato xs i ∧ ato xs i ≤ 255) (hy : 0 ≤ ato ys i ∧ ato ys i ≤ 255) : ato xs i = ato ys i := by
  have hl := sameB_len h
  unfold sameB at h
  have h := congrArg (fun b => b.data.toList[i]?) (of_decide_eq_true h)
  simp only [bytesOf, List.getElem?_map] at h
  unfold ato at hx hy ⊢
  rw [List.getD_eq_getElem?_getD] at hx hy ⊢
  rw [List.getD_eq_getElem?_getD]
  rcases Nat.lt_or_ge i xs.length with h1 | h1
  · have h2 : i < ys.length := by omega
    rw [List.getElem?_eq_getElem h1] at hx h ⊢
    rw [List.getElem?_eq_getElem h2] at hy h ⊢
    simp only [Option.map_some, Option.some.injEq, Option.getD_some] at h hx hy ⊢
    have := congrArg UInt8.toNat h
    simp only [UInt8.toNat_ofNat'] at this
    omega
  · rw [List.getElem?_eq_none h1, List.getElem?_eq_none (by omega)]
theorem PRE_length (m : BP) : (PRE m).length = 27 := by
  simp only [PRE, List.length_append, be_length, List.length_singleton, bHead]
  split <;> rfl
theorem bBytes_1 {m : BP} (h : m.k = 1) : (bBytes m).length = 35 := by
  rw [bytes1 m (by rw [h]; decide) (by rw [h]; decide), List.length_append, PRE_length]
  rfl
theorem bBytes_3 {m : BP} (h : m.k = 3) : (bBytes m).length = 36 := by
  rw [bytes3 m h, List.length_append, List.length_append, PRE_length]
  rfl
theorem bBytes_2 {m : BP} (h : m.k = 2) : (bBytes m).length = 4 := by
  simp [bBytes, h]
theorem bBytes_at2 {m : BP} (h : m.k ≠ 2) : ato (bBytes m) 2 = if m.k = 3 then 2 else 0 := by
  simp only [bBytes, h, ↓reduceIte, bHead]
  split <;> rfl
theorem bBytes_at4 {m : BP} (h : m.k ≠ 2) : ato (bBytes m) 4 = bFlags m := by
  simp only [bBytes, h, ↓reduceIte, bHead]
  split <;> rfl
theorem roleOf_in (n : Int) : roleOf n = 0 ∨ roleOf n = 1 ∨ roleOf n = 3 ∨ roleOf n = 4 := by
  unfold roleOf
  repeat' split
  all_goals simp
theorem rRole_le (n : Int) : 0 ≤ rRole n ∧ rRole n ≤ 3 := by
  unfold rRole
  repeat' split
  all_goals omega
theorem bi_le (b : Bool) {n : Int} (h : 0 ≤ n) : 0 ≤ bi b n ∧ bi b n ≤ n := by
  cases b <;> simp [bi, h]
theorem bFlags_3 {m : BP} (h : m.k = 3) : 0 ≤ bFlags m ∧ bFlags m ≤ 127 := by
  unfold bFlags
  rw [if_pos h]
  have h1 := bi_le m.tc (n := 1) (by decide)
  have h2 := bi_le m.pr (n := 2) (by decide)
  have h3 := bi_le m.le (n := 16) (by decide)
  have h4 := bi_le m.fo (n := 32) (by decide)
  have h5 := bi_le m.ag (n := 64) (by decide)
  have h6 := rRole_le m.ro
  omega
theorem bitN_128 {f : Int} (h : bitN f 128 = true) : ¬ f ≤ 127 ∨ f < 0 := by
  simp only [bitN, decide_eq_true_eq] at h
  omega
theorem fine_rst (a : Bool) (xs : List D) : fineB (rstM a xs) = !a := by
  have h := roleOf_in (ato xs 4 / 4 % 4)
  cases a <;> simp [fineB, rstM, h]
theorem fine_cfg (xs : List D) : fineB (cfgM xs) = true := by simp [fineB, cfgM]
theorem rd4 {xs : List D} (h : xs.length = 4) : rdM xs = tcnM ∧ rdOK xs = sameB (bBytes tcnM) xs := by
  simp [rdM, rdOK, h]
theorem rd35 {xs : List D} (h : xs.length = 35) : rdM xs = cfgM xs ∧ rdOK xs = sameB (bBytes (cfgM xs)) xs := by
  simp [rdM, rdOK, h]
theorem rd36 {xs : List D} (h : xs.length = 36) : rdM xs = rstM false xs ∧ rdOK xs = sameB (bBytes (rstM false xs)) xs := by
  simp [rdM, rdOK, h]
theorem rd_no {xs : List D} (h4 : xs.length ≠ 4) (h5 : xs.length ≠ 35) (h6 : xs.length ≠ 36) : rdOK xs = false := by
  simp [rdOK, h4, h5, h6]
/-- With the flag 'ack' an RST is none. -/
theorem rd36_ack {xs : List D} (hx : ∀ x ∈ xs, okD (.int .u8) x) (h : xs.length = 36) (ha : bitN (ato xs 4) 128 = true) : rdOK xs = false := by
  rw [(rd36 h).2]
  cases e : sameB (bBytes (rstM false xs)) xs
  · rfl
  · exfalso
    have b := bFlags_3 (m := rstM false xs) rfl
    have b4 : ato (bBytes (rstM false xs)) 4 = bFlags (rstM false xs) := bBytes_at4 (show (3 : Int) ≠ 2 by decide)
    have hy := ato_le hx 4
    have q := sameB_at e 4 (by rw [b4]; omega) hy
    rw [b4] at q
    have := bitN_128 ha
    omega
theorem rd35_2 {xs : List D} (hx : ∀ x ∈ xs, okD (.int .u8) x) (h : xs.length = 35) (ha : ato xs 2 = 2) : rdOK xs = false := by
  rw [(rd35 h).2]
  cases e : sameB (bBytes (cfgM xs)) xs
  · rfl
  · exfalso
    have b4 : ato (bBytes (cfgM xs)) 2 = 0 := bBytes_at2 (show (1 : Int) ≠ 2 by decide)
    have hy := ato_le hx 2
    have q := sameB_at e 2 (by rw [b4]; omega) hy
    rw [b4] at q
    omega
theorem rd36_2 {xs : List D} (hx : ∀ x ∈ xs, okD (.int .u8) x) (h : xs.length = 36) (ha : ato xs 2 ≠ 2) : rdOK xs = false := by
  rw [(rd36 h).2]
  cases e : sameB (bBytes (rstM false xs)) xs
  · rfl
  · exfalso
    have b4 : ato (bBytes (rstM false xs)) 2 = 2 := bBytes_at2 (show (3 : Int) ≠ 2 by decide)
    have hy := ato_le hx 2
    have q := sameB_at e 2 (by rw [b4]; omega) hy
    rw [b4] at q
    omega
theorem sameB_ne {xs ys : List D} (h : xs.length ≠ ys.length) : sameB xs ys = false := by
  cases e : sameB xs ys
  · rfl
  · exact absurd (sameB_len e) h
end Go.Vc.Seat
set_option linter.unusedVariables false
set_option linter.unusedSimpArgs false
namespace Go.Vc.Seat
open Go.Vc Go.Proofs.Try
set_option maxRecDepth 20000 in
set_option maxHeartbeats 8000000 in
theorem pok_bpdu_Read : POK prog orc f_bpdu_Read := by
  refine pok_of ok_bpdu_Read mixed (by simp [ac_bpdu_Read, acP, callsP, pok_bpdu_fields, pok_bpdu_Bytes, pok_slices_Equal_u8]) (by simp [ac_bpdu_Read, acS, callsS]) fun args hok => ?_
  show Fits orc nt_bpdu_Read rs_bpdu_Read ac_bpdu_Read args (pRead args)
  unfold ac_bpdu_Read
  unfold pRead
  split
  · rename_i xs
    simp only [okAs, okA, maxLen] at hok
    have hx := hok.1.2
    refine ⟨fun h => ⟨rfl, ?_⟩, fun h => ?_⟩
    · have h1 := short_iff.1 h
      have h2 : (xs.length : Int) < 4 := by omega
      repeat' (first
        | (with_reducible first | refine st_seq (fun K' hn he hr => ?_) | refine st_block (fun K' hn he hr => ?_) | refine st_region ?_ | refine st_draw ?_ | refine st_cond ?_ | refine st_skip ?_ | refine st_exit ?_ | refine st_ret ?_ | refine st_loop ?_ | refine st_op (fun G gn => ?_) | refine st_nil ?_ | refine st_gop ?_ | refine st_dop (fun G gn => ?_) | refine st_dnil ?_ | refine st_gdop ?_ | refine st_tl ?_)
        | (with_reducible refine gn _ _ ?_; clear gn G)
        | (with_reducible refine gn _ _ _ _ ?_; clear gn G)
        | (with_reducible refine Wr.mk ?_)
        | (with_reducible refine hn _ _ ?_; clear hn he hr K')
        | (with_reducible refine he _ _ _ ?_; clear hn he hr K')
        | (with_reducible refine hr _ _ ?_; clear hn he hr K')
        | ((with_reducible refine Eqn.mk (fun hq => ?_) ?_) <;> first | contradiction | skip)
        | (with_reducible refine Bo.yes (by decide) ?_)
        | (with_reducible refine Bo.no (by decide) ?_)
        | ((with_reducible refine Bo.gen (fun c hb => ?_)) <;> (try simp only [Nat.reduceAdd, toD, toDs, dInt, dBool, dStr, dList, dFs, dFld, List.getD_cons_zero, List.getD_cons_succ, Nat.zero_add, Int.reduceToNat] at hb) <;> (try simp only [cond_true, cond_false, toD, toDs, dInt, dBool, dStr, dList, dFs, dFld, List.getD_cons_zero, List.getD_cons_succ, Nat.zero_add, eqA, eqAs, decide_true, decide_false, beq_self_eq_true, Bool.not_true, Bool.not_false, Bool.and_true, Bool.true_and, Bool.and_self, cmpI, ↓reduceIte, Bool.false_eq_true, reduceCtorEq, Int.reduceEq, Int.reduceLT, Int.reduceLE, h2] at hb) <;> first | (obtain rfl : c = true := hb) | (obtain rfl : c = false := hb) | skip)
        | ((with_reducible refine Br.cs (fun hq => ?_) (fun hq => ?_)) <;> (try simp only [cond_true, cond_false, toD, toDs, dInt, dBool, dStr, dList, dFs, dFld, List.getD_cons_zero, List.getD_cons_succ, Nat.zero_add, eqA, eqAs, decide_true, decide_false, beq_self_eq_true, Bool.not_true, Bool.not_false, Bool.and_true, Bool.true_and, Bool.and_self, cmpI, ↓reduceIte, Bool.false_eq_true, reduceCtorEq, Int.reduceEq, Int.reduceLT, Int.reduceLE, h2] at hq) <;> first | contradiction | subst hq | skip)
        | (with_reducible refine Nd.mk trivial ?_)
        | (with_reducible refine Nd.mk (by decide) ?_)
        | (with_reducible refine Nd.mk ?_ ?_)
        | (with_reducible refine Leaf.mk rfl ?_)
        | (with_reducible refine LeafS.fin rfl ?_)
        | (with_reducible refine Fin.mk ?_ rfl)
        | (with_reducible refine Fin.mk ?_ ?_)
        | ((with_reducible refine Nx.mk ?_ ?_ ?_ ?_) <;> first | rfl | skip)
        | (conv => whnf
           first
             | (with_reducible refine gn _ _ ?_; clear gn G)
             | (with_reducible refine gn _ _ _ _ ?_; clear gn G)
             | (with_reducible refine Wr.mk ?_)
             | (with_reducible refine hn _ _ ?_; clear hn he hr K')
             | (with_reducible refine he _ _ _ ?_; clear hn he hr K')
             | (with_reducible refine hr _ _ ?_; clear hn he hr K')
             | (with_reducible refine Nd.mk trivial ?_)
             | (with_reducible refine Nd.mk (by decide) ?_)
             | (with_reducible refine Nd.mk ?_ ?_)
             | (with_reducible refine Leaf.mk rfl ?_)
             | (with_reducible refine LeafS.fin rfl ?_)
             | (with_reducible refine Fin.mk ?_ rfl)
             | (with_reducible refine Fin.mk ?_ ?_)
             | ((with_reducible refine Nx.mk ?_ ?_ ?_ ?_) <;> first | rfl | skip)
             | (with_reducible show Bo _ _)
             | (with_reducible show Br _ _ _)
             | (with_reducible show Eqn _ _ _)))
      all_goals first | rfl
    · have h1 := short_f.1 h
      have h2 : ¬ (xs.length : Int) < 4 := by omega
      by_cases h4 : xs.length = 4
      · have h4' : (xs.length : Int) = 4 := by omega
        have fT : fineB ⟨2, false, false, false, false, false, false, 0, 0, 0, 0, 0, 0, 0, 0, 0⟩ = true := by decide
        refine ⟨fun hr => ⟨rfl, ?_⟩, fun hr => ⟨rfl, ?_⟩⟩
        all_goals rw [(rd4 h4).2] at hr
        · have hs : sameB (bBytes ⟨2, false, false, false, false, false, false, 0, 0, 0, 0, 0, 0, 0, 0, 0⟩) xs = true := hr
          rw [(rd4 h4).1]
          repeat' (first
            | (with_reducible first | refine st_seq (fun K' hn he hr => ?_) | refine st_block (fun K' hn he hr => ?_) | refine st_region ?_ | refine st_draw ?_ | refine st_cond ?_ | refine st_skip ?_ | refine st_exit ?_ | refine st_ret ?_ | refine st_loop ?_ | refine st_op (fun G gn => ?_) | refine st_nil ?_ | refine st_gop ?_ | refine st_dop (fun G gn => ?_) | refine st_dnil ?_ | refine st_gdop ?_ | refine st_tl ?_)
            | (with_reducible refine gn _ _ ?_; clear gn G)
            | (with_reducible refine gn _ _ _ _ ?_; clear gn G)
            | (with_reducible refine Wr.mk ?_)
            | (with_reducible refine hn _ _ ?_; clear hn he hr K')
            | (with_reducible refine he _ _ _ ?_; clear hn he hr K')
            | (with_reducible refine hr _ _ ?_; clear hn he hr K')
            | ((with_reducible refine Eqn.mk (fun hq => ?_) ?_) <;> first | contradiction | skip)
            | (with_reducible refine Bo.yes (by decide) ?_)
            | (with_reducible refine Bo.no (by decide) ?_)
            | ((with_reducible refine Bo.gen (fun c hb => ?_)) <;> (try simp only [Nat.reduceAdd, toD, toDs, dInt, dBool, dStr, dList, dFs, dFld, List.getD_cons_zero, List.getD_cons_succ, Nat.zero_add, Int.reduceToNat] at hb) <;> (try simp only [cond_true, cond_false, toD, toDs, dInt, dBool, dStr, dList, dFs, dFld, List.getD_cons_zero, List.getD_cons_succ, Nat.zero_add, eqA, eqAs, decide_true, decide_false, beq_self_eq_true, Bool.not_true, Bool.not_false, Bool.and_true, Bool.true_and, Bool.and_self, cmpI, ↓reduceIte, Bool.false_eq_true, reduceCtorEq, Int.reduceEq, Int.reduceLT, Int.reduceLE, h2, h4', fT, hs, zeroD, zeroDs, isK] at hb) <;> first | (obtain rfl : c = true := hb) | (obtain rfl : c = false := hb) | skip)
            | ((with_reducible refine Br.cs (fun hq => ?_) (fun hq => ?_)) <;> (try simp only [cond_true, cond_false, toD, toDs, dInt, dBool, dStr, dList, dFs, dFld, List.getD_cons_zero, List.getD_cons_succ, Nat.zero_add, eqA, eqAs, decide_true, decide_false, beq_self_eq_true, Bool.not_true, Bool.not_false, Bool.and_true, Bool.true_and, Bool.and_self, cmpI, ↓reduceIte, Bool.false_eq_true, reduceCtorEq, Int.reduceEq, Int.reduceLT, Int.reduceLE, h2, h4', fT, hs, zeroD, zeroDs, isK] at hq) <;> first | contradiction | subst hq | skip)
            | (with_reducible refine Nd.mk trivial ?_)
            | (with_reducible refine Nd.mk (by decide) ?_)
            | (with_reducible refine Nd.mk ?_ ?_)
            | (with_reducible refine Leaf.mk rfl ?_)
            | (with_reducible refine LeafS.fin rfl ?_)
            | (with_reducible refine Fin.mk ?_ rfl)
            | (with_reducible refine Fin.mk ?_ ?_)
            | ((with_reducible refine Nx.mk ?_ ?_ ?_ ?_) <;> first | rfl | skip)
            | (conv => whnf
               first
                 | (with_reducible refine gn _ _ ?_; clear gn G)
                 | (with_reducible refine gn _ _ _ _ ?_; clear gn G)
                 | (with_reducible refine Wr.mk ?_)
                 | (with_reducible refine hn _ _ ?_; clear hn he hr K')
                 | (with_reducible refine he _ _ _ ?_; clear hn he hr K')
                 | (with_reducible refine hr _ _ ?_; clear hn he hr K')
                 | (with_reducible refine Nd.mk trivial ?_)
                 | (with_reducible refine Nd.mk (by decide) ?_)
                 | (with_reducible refine Nd.mk ?_ ?_)
                 | (with_reducible refine Leaf.mk rfl ?_)
                 | (with_reducible refine LeafS.fin rfl ?_)
                 | (with_reducible refine Fin.mk ?_ rfl)
                 | (with_reducible refine Fin.mk ?_ ?_)
                 | ((with_reducible refine Nx.mk ?_ ?_ ?_ ?_) <;> first | rfl | skip)
                 | (with_reducible show Bo _ _)
                 | (with_reducible show Br _ _ _)
                 | (with_reducible show Eqn _ _ _)))
          all_goals first | rfl
        · have hs : sameB (bBytes ⟨2, false, false, false, false, false, false, 0, 0, 0, 0, 0, 0, 0, 0, 0⟩) xs = false := hr
          repeat' (first
            | (with_reducible first | refine st_seq (fun K' hn he hr => ?_) | refine st_block (fun K' hn he hr => ?_) | refine st_region ?_ | refine st_draw ?_ | refine st_cond ?_ | refine st_skip ?_ | refine st_exit ?_ | refine st_ret ?_ | refine st_loop ?_ | refine st_op (fun G gn => ?_) | refine st_nil ?_ | refine st_gop ?_ | refine st_dop (fun G gn => ?_) | refine st_dnil ?_ | refine st_gdop ?_ | refine st_tl ?_)
            | (with_reducible refine gn _ _ ?_; clear gn G)
            | (with_reducible refine gn _ _ _ _ ?_; clear gn G)
            | (with_reducible refine Wr.mk ?_)
            | (with_reducible refine hn _ _ ?_; clear hn he hr K')
            | (with_reducible refine he _ _ _ ?_; clear hn he hr K')
            | (with_reducible refine hr _ _ ?_; clear hn he hr K')
            | ((with_reducible refine Eqn.mk (fun hq => ?_) ?_) <;> first | contradiction | skip)
            | (with_reducible refine Bo.yes (by decide) ?_)
            | (with_reducible refine Bo.no (by decide) ?_)
            | ((with_reducible refine Bo.gen (fun c hb => ?_)) <;> (try simp only [Nat.reduceAdd, toD, toDs, dInt, dBool, dStr, dList, dFs, dFld, List.getD_cons_zero, List.getD_cons_succ, Nat.zero_add, Int.reduceToNat] at hb) <;> (try simp only [cond_true, cond_false, toD, toDs, dInt, dBool, dStr, dList, dFs, dFld, List.getD_cons_zero, List.getD_cons_succ, Nat.zero_add, eqA, eqAs, decide_true, decide_false, beq_self_eq_true, Bool.not_true, Bool.not_false, Bool.and_true, Bool.true_and, Bool.and_self, cmpI, ↓reduceIte, Bool.false_eq_true, reduceCtorEq, Int.reduceEq, Int.reduceLT, Int.reduceLE, h2, h4', fT, hs, zeroD, zeroDs, isK] at hb) <;> first | (obtain rfl : c = true := hb) | (obtain rfl : c = false := hb) | skip)
            | ((with_reducible refine Br.cs (fun hq => ?_) (fun hq => ?_)) <;> (try simp only [cond_true, cond_false, toD, toDs, dInt, dBool, dStr, dList, dFs, dFld, List.getD_cons_zero, List.getD_cons_succ, Nat.zero_add, eqA, eqAs, decide_true, decide_false, beq_self_eq_true, Bool.not_true, Bool.not_false, Bool.and_true, Bool.true_and, Bool.and_self, cmpI, ↓reduceIte, Bool.false_eq_true, reduceCtorEq, Int.reduceEq, Int.reduceLT, Int.reduceLE, h2, h4', fT, hs, zeroD, zeroDs, isK] at hq) <;> first | contradiction | subst hq | skip)
            | (with_reducible refine Nd.mk trivial ?_)
            | (with_reducible refine Nd.mk (by decide) ?_)
            | (with_reducible refine Nd.mk ?_ ?_)
            | (with_reducible refine Leaf.mk rfl ?_)
            | (with_reducible refine LeafS.fin rfl ?_)
            | (with_reducible refine Fin.mk ?_ rfl)
            | (with_reducible refine Fin.mk ?_ ?_)
            | ((with_reducible refine Nx.mk ?_ ?_ ?_ ?_) <;> first | rfl | skip)
            | (conv => whnf
               first
                 | (with_reducible refine gn _ _ ?_; clear gn G)
                 | (with_reducible refine gn _ _ _ _ ?_; clear gn G)
                 | (with_reducible refine Wr.mk ?_)
                 | (with_reducible refine hn _ _ ?_; clear hn he hr K')
                 | (with_reducible refine he _ _ _ ?_; clear hn he hr K')
                 | (with_reducible refine hr _ _ ?_; clear hn he hr K')
                 | (with_reducible refine Nd.mk trivial ?_)
                 | (with_reducible refine Nd.mk (by decide) ?_)
                 | (with_reducible refine Nd.mk ?_ ?_)
                 | (with_reducible refine Leaf.mk rfl ?_)
                 | (with_reducible refine LeafS.fin rfl ?_)
                 | (with_reducible refine Fin.mk ?_ rfl)
                 | (with_reducible refine Fin.mk ?_ ?_)
                 | ((with_reducible refine Nx.mk ?_ ?_ ?_ ?_) <;> first | rfl | skip)
                 | (with_reducible show Bo _ _)
                 | (with_reducible show Br _ _ _)
                 | (with_reducible show Eqn _ _ _)))
          all_goals first | rfl
      by_cases h5 : xs.length = 35
      · have h4' : ¬ (xs.length : Int) = 4 := by omega
        have h5' : (xs.length : Int) = 35 := by omega
        have fT : fineB ⟨(cfgM xs).k, (cfgM xs).tc, (cfgM xs).ack, (cfgM xs).pr, (cfgM xs).le, (cfgM xs).fo, (cfgM xs).ag, (cfgM xs).ro, (cfgM xs).R, (cfgM xs).C, (cfgM xs).B, (cfgM xs).P, (cfgM xs).ta, (cfgM xs).tm, (cfgM xs).th, (cfgM xs).td⟩ = true := fine_cfg xs
        refine ⟨fun hr => ⟨rfl, ?_⟩, fun hr => ⟨rfl, ?_⟩⟩
        all_goals rw [(rd35 h5).2] at hr
        · have hs : sameB (bBytes ⟨(cfgM xs).k, (cfgM xs).tc, (cfgM xs).ack, (cfgM xs).pr, (cfgM xs).le, (cfgM xs).fo, (cfgM xs).ag, (cfgM xs).ro, (cfgM xs).R, (cfgM xs).C, (cfgM xs).B, (cfgM xs).P, (cfgM xs).ta, (cfgM xs).tm, (cfgM xs).th, (cfgM xs).td⟩) xs = true := hr
          rw [(rd35 h5).1]
          repeat' (first
            | (with_reducible first | refine st_seq (fun K' hn he hr => ?_) | refine st_block (fun K' hn he hr => ?_) | refine st_region ?_ | refine st_draw ?_ | refine st_cond ?_ | refine st_skip ?_ | refine st_exit ?_ | refine st_ret ?_ | refine st_loop ?_ | refine st_op (fun G gn => ?_) | refine st_nil ?_ | refine st_gop ?_ | refine st_dop (fun G gn => ?_) | refine st_dnil ?_ | refine st_gdop ?_ | refine st_tl ?_)
            | (with_reducible refine gn _ _ ?_; clear gn G)
            | (with_reducible refine gn _ _ _ _ ?_; clear gn G)
            | (with_reducible refine Wr.mk ?_)
            | (with_reducible refine hn _ _ ?_; clear hn he hr K')
            | (with_reducible refine he _ _ _ ?_; clear hn he hr K')
            | (with_reducible refine hr _ _ ?_; clear hn he hr K')
            | ((with_reducible refine Eqn.mk (fun hq => ?_) ?_) <;> first | contradiction | skip)
            | (with_reducible refine Bo.yes (by decide) ?_)
            | (with_reducible refine Bo.no (by decide) ?_)
            | ((with_reducible refine Bo.gen (fun c hb => ?_)) <;> (try simp only [Nat.reduceAdd, toD, toDs, dInt, dBool, dStr, dList, dFs, dFld, List.getD_cons_zero, List.getD_cons_succ, Nat.zero_add, Int.reduceToNat] at hb) <;> (try simp only [cond_true, cond_false, toD, toDs, dInt, dBool, dStr, dList, dFs, dFld, List.getD_cons_zero, List.getD_cons_succ, Nat.zero_add, eqA, eqAs, decide_true, decide_false, beq_self_eq_true, Bool.not_true, Bool.not_false, Bool.and_true, Bool.true_and, Bool.and_self, cmpI, ↓reduceIte, Bool.false_eq_true, reduceCtorEq, Int.reduceEq, Int.reduceLT, Int.reduceLE, h2, h4', h5', fT, hs, zeroD, zeroDs, isK] at hb) <;> first | (obtain rfl : c = true := hb) | (obtain rfl : c = false := hb) | skip)
            | ((with_reducible refine Br.cs (fun hq => ?_) (fun hq => ?_)) <;> (try simp only [cond_true, cond_false, toD, toDs, dInt, dBool, dStr, dList, dFs, dFld, List.getD_cons_zero, List.getD_cons_succ, Nat.zero_add, eqA, eqAs, decide_true, decide_false, beq_self_eq_true, Bool.not_true, Bool.not_false, Bool.and_true, Bool.true_and, Bool.and_self, cmpI, ↓reduceIte, Bool.false_eq_true, reduceCtorEq, Int.reduceEq, Int.reduceLT, Int.reduceLE, h2, h4', h5', fT, hs, zeroD, zeroDs, isK] at hq) <;> first | contradiction | subst hq | skip)
            | (with_reducible refine Nd.mk trivial ?_)
            | (with_reducible refine Nd.mk (by decide) ?_)
            | (with_reducible refine Nd.mk ?_ ?_)
            | (with_reducible refine Leaf.mk rfl ?_)
            | (with_reducible refine LeafS.fin rfl ?_)
            | (with_reducible refine Fin.mk ?_ rfl)
            | (with_reducible refine Fin.mk ?_ ?_)
            | ((with_reducible refine Nx.mk ?_ ?_ ?_ ?_) <;> first | rfl | skip)
            | (conv => whnf
               first
                 | (with_reducible refine gn _ _ ?_; clear gn G)
                 | (with_reducible refine gn _ _ _ _ ?_; clear gn G)
                 | (with_reducible refine Wr.mk ?_)
                 | (with_reducible refine hn _ _ ?_; clear hn he hr K')
                 | (with_reducible refine he _ _ _ ?_; clear hn he hr K')
                 | (with_reducible refine hr _ _ ?_; clear hn he hr K')
                 | (with_reducible refine Nd.mk trivial ?_)
                 | (with_reducible refine Nd.mk (by decide) ?_)
                 | (with_reducible refine Nd.mk ?_ ?_)
                 | (with_reducible refine Leaf.mk rfl ?_)
                 | (with_reducible refine LeafS.fin rfl ?_)
                 | (with_reducible refine Fin.mk ?_ rfl)
                 | (with_reducible refine Fin.mk ?_ ?_)
                 | ((with_reducible refine Nx.mk ?_ ?_ ?_ ?_) <;> first | rfl | skip)
                 | (with_reducible show Bo _ _)
                 | (with_reducible show Br _ _ _)
                 | (with_reducible show Eqn _ _ _)))
          all_goals first | rfl | exact ⟨by omega, rfl, rfl, rfl, rfl, rfl, rfl⟩
        · have hs : sameB (bBytes ⟨(cfgM xs).k, (cfgM xs).tc, (cfgM xs).ack, (cfgM xs).pr, (cfgM xs).le, (cfgM xs).fo, (cfgM xs).ag, (cfgM xs).ro, (cfgM xs).R, (cfgM xs).C, (cfgM xs).B, (cfgM xs).P, (cfgM xs).ta, (cfgM xs).tm, (cfgM xs).th, (cfgM xs).td⟩) xs = false := hr
          repeat' (first
            | (with_reducible first | refine st_seq (fun K' hn he hr => ?_) | refine st_block (fun K' hn he hr => ?_) | refine st_region ?_ | refine st_draw ?_ | refine st_cond ?_ | refine st_skip ?_ | refine st_exit ?_ | refine st_ret ?_ | refine st_loop ?_ | refine st_op (fun G gn => ?_) | refine st_nil ?_ | refine st_gop ?_ | refine st_dop (fun G gn => ?_) | refine st_dnil ?_ | refine st_gdop ?_ | refine st_tl ?_)
            | (with_reducible refine gn _ _ ?_; clear gn G)
            | (with_reducible refine gn _ _ _ _ ?_; clear gn G)
            | (with_reducible refine Wr.mk ?_)
            | (with_reducible refine hn _ _ ?_; clear hn he hr K')
            | (with_reducible refine he _ _ _ ?_; clear hn he hr K')
            | (with_reducible refine hr _ _ ?_; clear hn he hr K')
            | ((with_reducible refine Eqn.mk (fun hq => ?_) ?_) <;> first | contradiction | skip)
            | (with_reducible refine Bo.yes (by decide) ?_)
            | (with_reducible refine Bo.no (by decide) ?_)
            | ((with_reducible refine Bo.gen (fun c hb => ?_)) <;> (try simp only [Nat.reduceAdd, toD, toDs, dInt, dBool, dStr, dList, dFs, dFld, List.getD_cons_zero, List.getD_cons_succ, Nat.zero_add, Int.reduceToNat] at hb) <;> (try simp only [cond_true, cond_false, toD, toDs, dInt, dBool, dStr, dList, dFs, dFld, List.getD_cons_zero, List.getD_cons_succ, Nat.zero_add, eqA, eqAs, decide_true, decide_false, beq_self_eq_true, Bool.not_true, Bool.not_false, Bool.and_true, Bool.true_and, Bool.and_self, cmpI, ↓reduceIte, Bool.false_eq_true, reduceCtorEq, Int.reduceEq, Int.reduceLT, Int.reduceLE, h2, h4', h5', fT, hs, zeroD, zeroDs, isK] at hb) <;> first | (obtain rfl : c = true := hb) | (obtain rfl : c = false := hb) | skip)
            | ((with_reducible refine Br.cs (fun hq => ?_) (fun hq => ?_)) <;> (try simp only [cond_true, cond_false, toD, toDs, dInt, dBool, dStr, dList, dFs, dFld, List.getD_cons_zero, List.getD_cons_succ, Nat.zero_add, eqA, eqAs, decide_true, decide_false, beq_self_eq_true, Bool.not_true, Bool.not_false, Bool.and_true, Bool.true_and, Bool.and_self, cmpI, ↓reduceIte, Bool.false_eq_true, reduceCtorEq, Int.reduceEq, Int.reduceLT, Int.reduceLE, h2, h4', h5', fT, hs, zeroD, zeroDs, isK] at hq) <;> first | contradiction | subst hq | skip)
            | (with_reducible refine Nd.mk trivial ?_)
            | (with_reducible refine Nd.mk (by decide) ?_)
            | (with_reducible refine Nd.mk ?_ ?_)
            | (with_reducible refine Leaf.mk rfl ?_)
            | (with_reducible refine LeafS.fin rfl ?_)
            | (with_reducible refine Fin.mk ?_ rfl)
            | (with_reducible refine Fin.mk ?_ ?_)
            | ((with_reducible refine Nx.mk ?_ ?_ ?_ ?_) <;> first | rfl | skip)
            | (conv => whnf
               first
                 | (with_reducible refine gn _ _ ?_; clear gn G)
                 | (with_reducible refine gn _ _ _ _ ?_; clear gn G)
                 | (with_reducible refine Wr.mk ?_)
                 | (with_reducible refine hn _ _ ?_; clear hn he hr K')
                 | (with_reducible refine he _ _ _ ?_; clear hn he hr K')
                 | (with_reducible refine hr _ _ ?_; clear hn he hr K')
                 | (with_reducible refine Nd.mk trivial ?_)
                 | (with_reducible refine Nd.mk (by decide) ?_)
                 | (with_reducible refine Nd.mk ?_ ?_)
                 | (with_reducible refine Leaf.mk rfl ?_)
                 | (with_reducible refine LeafS.fin rfl ?_)
                 | (with_reducible refine Fin.mk ?_ rfl)
                 | (with_reducible refine Fin.mk ?_ ?_)
                 | ((with_reducible refine Nx.mk ?_ ?_ ?_ ?_) <;> first | rfl | skip)
                 | (with_reducible show Bo _ _)
                 | (with_reducible show Br _ _ _)
                 | (with_reducible show Eqn _ _ _)))
          all_goals first | rfl | exact ⟨by omega, rfl, rfl, rfl, rfl, rfl, rfl⟩
      by_cases h6 : xs.length = 36
      · have h4' : ¬ (xs.length : Int) = 4 := by omega
        have h5' : ¬ (xs.length : Int) = 35 := by omega
        have h6' : (xs.length : Int) = 36 := by omega
        cases ha : bitN (ato xs 4) 128
        · have fT : fineB ⟨(rstM (bitN (ato xs 4) 128) xs).k, (rstM (bitN (ato xs 4) 128) xs).tc, (rstM (bitN (ato xs 4) 128) xs).ack, (rstM (bitN (ato xs 4) 128) xs).pr, (rstM (bitN (ato xs 4) 128) xs).le, (rstM (bitN (ato xs 4) 128) xs).fo, (rstM (bitN (ato xs 4) 128) xs).ag, (rstM (bitN (ato xs 4) 128) xs).ro, (rstM (bitN (ato xs 4) 128) xs).R, (rstM (bitN (ato xs 4) 128) xs).C, (rstM (bitN (ato xs 4) 128) xs).B, (rstM (bitN (ato xs 4) 128) xs).P, (rstM (bitN (ato xs 4) 128) xs).ta, (rstM (bitN (ato xs 4) 128) xs).tm, (rstM (bitN (ato xs 4) 128) xs).th, (rstM (bitN (ato xs 4) 128) xs).td⟩ = true := (fine_rst _ xs).trans (by rw [ha]; rfl)
          have er : rstM (bitN (ato xs 4) 128) xs = rstM false xs := by rw [ha]
          refine ⟨fun hr => ⟨rfl, ?_⟩, fun hr => ⟨rfl, ?_⟩⟩
          all_goals rw [(rd36 h6).2, ← er] at hr
          · have hs : sameB (bBytes ⟨(rstM (bitN (ato xs 4) 128) xs).k, (rstM (bitN (ato xs 4) 128) xs).tc, (rstM (bitN (ato xs 4) 128) xs).ack, (rstM (bitN (ato xs 4) 128) xs).pr, (rstM (bitN (ato xs 4) 128) xs).le, (rstM (bitN (ato xs 4) 128) xs).fo, (rstM (bitN (ato xs 4) 128) xs).ag, (rstM (bitN (ato xs 4) 128) xs).ro, (rstM (bitN (ato xs 4) 128) xs).R, (rstM (bitN (ato xs 4) 128) xs).C, (rstM (bitN (ato xs 4) 128) xs).B, (rstM (bitN (ato xs 4) 128) xs).P, (rstM (bitN (ato xs 4) 128) xs).ta, (rstM (bitN (ato xs 4) 128) xs).tm, (rstM (bitN (ato xs 4) 128) xs).th, (rstM (bitN (ato xs 4) 128) xs).td⟩) xs = true := hr
            rw [(rd36 h6).1, ← er]
            repeat' (first
              | (with_reducible first | refine st_seq (fun K' hn he hr => ?_) | refine st_block (fun K' hn he hr => ?_) | refine st_region ?_ | refine st_draw ?_ | refine st_cond ?_ | refine st_skip ?_ | refine st_exit ?_ | refine st_ret ?_ | refine st_loop ?_ | refine st_op (fun G gn => ?_) | refine st_nil ?_ | refine st_gop ?_ | refine st_dop (fun G gn => ?_) | refine st_dnil ?_ | refine st_gdop ?_ | refine st_tl ?_)
              | (with_reducible refine gn _ _ ?_; clear gn G)
              | (with_reducible refine gn _ _ _ _ ?_; clear gn G)
              | (with_reducible refine Wr.mk ?_)
              | (with_reducible refine hn _ _ ?_; clear hn he hr K')
              | (with_reducible refine he _ _ _ ?_; clear hn he hr K')
              | (with_reducible refine hr _ _ ?_; clear hn he hr K')
              | ((with_reducible refine Eqn.mk (fun hq => ?_) ?_) <;> first | contradiction | skip)
              | (with_reducible refine Bo.yes (by decide) ?_)
              | (with_reducible refine Bo.no (by decide) ?_)
              | ((with_reducible refine Bo.gen (fun c hb => ?_)) <;> (try simp only [Nat.reduceAdd, toD, toDs, dInt, dBool, dStr, dList, dFs, dFld, List.getD_cons_zero, List.getD_cons_succ, Nat.zero_add, Int.reduceToNat] at hb) <;> (try simp only [cond_true, cond_false, toD, toDs, dInt, dBool, dStr, dList, dFs, dFld, List.getD_cons_zero, List.getD_cons_succ, Nat.zero_add, eqA, eqAs, decide_true, decide_false, beq_self_eq_true, Bool.not_true, Bool.not_false, Bool.and_true, Bool.true_and, Bool.and_self, cmpI, ↓reduceIte, Bool.false_eq_true, reduceCtorEq, Int.reduceEq, Int.reduceLT, Int.reduceLE, h2, h4', h5', h6', fT, hs, zeroD, zeroDs, isK] at hb) <;> first | (obtain rfl : c = true := hb) | (obtain rfl : c = false := hb) | skip)
              | ((with_reducible refine Br.cs (fun hq => ?_) (fun hq => ?_)) <;> (try simp only [cond_true, cond_false, toD, toDs, dInt, dBool, dStr, dList, dFs, dFld, List.getD_cons_zero, List.getD_cons_succ, Nat.zero_add, eqA, eqAs, decide_true, decide_false, beq_self_eq_true, Bool.not_true, Bool.not_false, Bool.and_true, Bool.true_and, Bool.and_self, cmpI, ↓reduceIte, Bool.false_eq_true, reduceCtorEq, Int.reduceEq, Int.reduceLT, Int.reduceLE, h2, h4', h5', h6', fT, hs, zeroD, zeroDs, isK] at hq) <;> first | contradiction | subst hq | skip)
              | (with_reducible refine Nd.mk trivial ?_)
              | (with_reducible refine Nd.mk (by decide) ?_)
              | (with_reducible refine Nd.mk ?_ ?_)
              | (with_reducible refine Leaf.mk rfl ?_)
              | (with_reducible refine LeafS.fin rfl ?_)
              | (with_reducible refine Fin.mk ?_ rfl)
              | (with_reducible refine Fin.mk ?_ ?_)
              | ((with_reducible refine Nx.mk ?_ ?_ ?_ ?_) <;> first | rfl | skip)
              | (conv => whnf
                 first
                   | (with_reducible refine gn _ _ ?_; clear gn G)
                   | (with_reducible refine gn _ _ _ _ ?_; clear gn G)
                   | (with_reducible refine Wr.mk ?_)
                   | (with_reducible refine hn _ _ ?_; clear hn he hr K')
                   | (with_reducible refine he _ _ _ ?_; clear hn he hr K')
                   | (with_reducible refine hr _ _ ?_; clear hn he hr K')
                   | (with_reducible refine Nd.mk trivial ?_)
                   | (with_reducible refine Nd.mk (by decide) ?_)
                   | (with_reducible refine Nd.mk ?_ ?_)
                   | (with_reducible refine Leaf.mk rfl ?_)
                   | (with_reducible refine LeafS.fin rfl ?_)
                   | (with_reducible refine Fin.mk ?_ rfl)
                   | (with_reducible refine Fin.mk ?_ ?_)
                   | ((with_reducible refine Nx.mk ?_ ?_ ?_ ?_) <;> first | rfl | skip)
                   | (with_reducible show Bo _ _)
                   | (with_reducible show Br _ _ _)
                   | (with_reducible show Eqn _ _ _)))
            all_goals first | rfl | omega
          · have hs : sameB (bBytes ⟨(rstM (bitN (ato xs 4) 128) xs).k, (rstM (bitN (ato xs 4) 128) xs).tc, (rstM (bitN (ato xs 4) 128) xs).ack, (rstM (bitN (ato xs 4) 128) xs).pr, (rstM (bitN (ato xs 4) 128) xs).le, (rstM (bitN (ato xs 4) 128) xs).fo, (rstM (bitN (ato xs 4) 128) xs).ag, (rstM (bitN (ato xs 4) 128) xs).ro, (rstM (bitN (ato xs 4) 128) xs).R, (rstM (bitN (ato xs 4) 128) xs).C, (rstM (bitN (ato xs 4) 128) xs).B, (rstM (bitN (ato xs 4) 128) xs).P, (rstM (bitN (ato xs 4) 128) xs).ta, (rstM (bitN (ato xs 4) 128) xs).tm, (rstM (bitN (ato xs 4) 128) xs).th, (rstM (bitN (ato xs 4) 128) xs).td⟩) xs = false := hr
            repeat' (first
              | (with_reducible first | refine st_seq (fun K' hn he hr => ?_) | refine st_block (fun K' hn he hr => ?_) | refine st_region ?_ | refine st_draw ?_ | refine st_cond ?_ | refine st_skip ?_ | refine st_exit ?_ | refine st_ret ?_ | refine st_loop ?_ | refine st_op (fun G gn => ?_) | refine st_nil ?_ | refine st_gop ?_ | refine st_dop (fun G gn => ?_) | refine st_dnil ?_ | refine st_gdop ?_ | refine st_tl ?_)
              | (with_reducible refine gn _ _ ?_; clear gn G)
              | (with_reducible refine gn _ _ _ _ ?_; clear gn G)
              | (with_reducible refine Wr.mk ?_)
              | (with_reducible refine hn _ _ ?_; clear hn he hr K')
              | (with_reducible refine he _ _ _ ?_; clear hn he hr K')
              | (with_reducible refine hr _ _ ?_; clear hn he hr K')
              | ((with_reducible refine Eqn.mk (fun hq => ?_) ?_) <;> first | contradiction | skip)
              | (with_reducible refine Bo.yes (by decide) ?_)
              | (with_reducible refine Bo.no (by decide) ?_)
              | ((with_reducible refine Bo.gen (fun c hb => ?_)) <;> (try simp only [Nat.reduceAdd, toD, toDs, dInt, dBool, dStr, dList, dFs, dFld, List.getD_cons_zero, List.getD_cons_succ, Nat.zero_add, Int.reduceToNat] at hb) <;> (try simp only [cond_true, cond_false, toD, toDs, dInt, dBool, dStr, dList, dFs, dFld, List.getD_cons_zero, List.getD_cons_succ, Nat.zero_add, eqA, eqAs, decide_true, decide_false, beq_self_eq_true, Bool.not_true, Bool.not_false, Bool.and_true, Bool.true_and, Bool.and_self, cmpI, ↓reduceIte, Bool.false_eq_true, reduceCtorEq, Int.reduceEq, Int.reduceLT, Int.reduceLE, h2, h4', h5', h6', fT, hs, zeroD, zeroDs, isK] at hb) <;> first | (obtain rfl : c = true := hb) | (obtain rfl : c = false := hb) | skip)
              | ((with_reducible refine Br.cs (fun hq => ?_) (fun hq => ?_)) <;> (try simp only [cond_true, cond_false, toD, toDs, dInt, dBool, dStr, dList, dFs, dFld, List.getD_cons_zero, List.getD_cons_succ, Nat.zero_add, eqA, eqAs, decide_true, decide_false, beq_self_eq_true, Bool.not_true, Bool.not_false, Bool.and_true, Bool.true_and, Bool.and_self, cmpI, ↓reduceIte, Bool.false_eq_true, reduceCtorEq, Int.reduceEq, Int.reduceLT, Int.reduceLE, h2, h4', h5', h6', fT, hs, zeroD, zeroDs, isK] at hq) <;> first | contradiction | subst hq | skip)
              | (with_reducible refine Nd.mk trivial ?_)
              | (with_reducible refine Nd.mk (by decide) ?_)
              | (with_reducible refine Nd.mk ?_ ?_)
              | (with_reducible refine Leaf.mk rfl ?_)
              | (with_reducible refine LeafS.fin rfl ?_)
              | (with_reducible refine Fin.mk ?_ rfl)
              | (with_reducible refine Fin.mk ?_ ?_)
              | ((with_reducible refine Nx.mk ?_ ?_ ?_ ?_) <;> first | rfl | skip)
              | (conv => whnf
                 first
                   | (with_reducible refine gn _ _ ?_; clear gn G)
                   | (with_reducible refine gn _ _ _ _ ?_; clear gn G)
                   | (with_reducible refine Wr.mk ?_)
                   | (with_reducible refine hn _ _ ?_; clear hn he hr K')
                   | (with_reducible refine he _ _ _ ?_; clear hn he hr K')
                   | (with_reducible refine hr _ _ ?_; clear hn he hr K')
                   | (with_reducible refine Nd.mk trivial ?_)
                   | (with_reducible refine Nd.mk (by decide) ?_)
                   | (with_reducible refine Nd.mk ?_ ?_)
                   | (with_reducible refine Leaf.mk rfl ?_)
                   | (with_reducible refine LeafS.fin rfl ?_)
                   | (with_reducible refine Fin.mk ?_ rfl)
                   | (with_reducible refine Fin.mk ?_ ?_)
                   | ((with_reducible refine Nx.mk ?_ ?_ ?_ ?_) <;> first | rfl | skip)
                   | (with_reducible show Bo _ _)
                   | (with_reducible show Br _ _ _)
                   | (with_reducible show Eqn _ _ _)))
            all_goals first | rfl | omega
        · have fT : fineB ⟨(rstM (bitN (ato xs 4) 128) xs).k, (rstM (bitN (ato xs 4) 128) xs).tc, (rstM (bitN (ato xs 4) 128) xs).ack, (rstM (bitN (ato xs 4) 128) xs).pr, (rstM (bitN (ato xs 4) 128) xs).le, (rstM (bitN (ato xs 4) 128) xs).fo, (rstM (bitN (ato xs 4) 128) xs).ag, (rstM (bitN (ato xs 4) 128) xs).ro, (rstM (bitN (ato xs 4) 128) xs).R, (rstM (bitN (ato xs 4) 128) xs).C, (rstM (bitN (ato xs 4) 128) xs).B, (rstM (bitN (ato xs 4) 128) xs).P, (rstM (bitN (ato xs 4) 128) xs).ta, (rstM (bitN (ato xs 4) 128) xs).tm, (rstM (bitN (ato xs 4) 128) xs).th, (rstM (bitN (ato xs 4) 128) xs).td⟩ = false := (fine_rst _ xs).trans (by rw [ha]; rfl)
          have hn0 := rd36_ack hx h6 ha
          refine ⟨fun hr => absurd (hr.symm.trans hn0) (by decide), fun hr => ⟨rfl, ?_⟩⟩
          repeat' (first
            | (with_reducible first | refine st_seq (fun K' hn he hr => ?_) | refine st_block (fun K' hn he hr => ?_) | refine st_region ?_ | refine st_draw ?_ | refine st_cond ?_ | refine st_skip ?_ | refine st_exit ?_ | refine st_ret ?_ | refine st_loop ?_ | refine st_op (fun G gn => ?_) | refine st_nil ?_ | refine st_gop ?_ | refine st_dop (fun G gn => ?_) | refine st_dnil ?_ | refine st_gdop ?_ | refine st_tl ?_)
            | (with_reducible refine gn _ _ ?_; clear gn G)
            | (with_reducible refine gn _ _ _ _ ?_; clear gn G)
            | (with_reducible refine Wr.mk ?_)
            | (with_reducible refine hn _ _ ?_; clear hn he hr K')
            | (with_reducible refine he _ _ _ ?_; clear hn he hr K')
            | (with_reducible refine hr _ _ ?_; clear hn he hr K')
            | ((with_reducible refine Eqn.mk (fun hq => ?_) ?_) <;> first | contradiction | skip)
            | (with_reducible refine Bo.yes (by decide) ?_)
            | (with_reducible refine Bo.no (by decide) ?_)
            | ((with_reducible refine Bo.gen (fun c hb => ?_)) <;> (try simp only [Nat.reduceAdd, toD, toDs, dInt, dBool, dStr, dList, dFs, dFld, List.getD_cons_zero, List.getD_cons_succ, Nat.zero_add, Int.reduceToNat] at hb) <;> (try simp only [cond_true, cond_false, toD, toDs, dInt, dBool, dStr, dList, dFs, dFld, List.getD_cons_zero, List.getD_cons_succ, Nat.zero_add, eqA, eqAs, decide_true, decide_false, beq_self_eq_true, Bool.not_true, Bool.not_false, Bool.and_true, Bool.true_and, Bool.and_self, cmpI, ↓reduceIte, Bool.false_eq_true, reduceCtorEq, Int.reduceEq, Int.reduceLT, Int.reduceLE, h2, h4', h5', h6', fT, zeroD, zeroDs, isK] at hb) <;> first | (obtain rfl : c = true := hb) | (obtain rfl : c = false := hb) | skip)
            | ((with_reducible refine Br.cs (fun hq => ?_) (fun hq => ?_)) <;> (try simp only [cond_true, cond_false, toD, toDs, dInt, dBool, dStr, dList, dFs, dFld, List.getD_cons_zero, List.getD_cons_succ, Nat.zero_add, eqA, eqAs, decide_true, decide_false, beq_self_eq_true, Bool.not_true, Bool.not_false, Bool.and_true, Bool.true_and, Bool.and_self, cmpI, ↓reduceIte, Bool.false_eq_true, reduceCtorEq, Int.reduceEq, Int.reduceLT, Int.reduceLE, h2, h4', h5', h6', fT, zeroD, zeroDs, isK] at hq) <;> first | contradiction | subst hq | skip)
            | (with_reducible refine Nd.mk trivial ?_)
            | (with_reducible refine Nd.mk (by decide) ?_)
            | (with_reducible refine Nd.mk ?_ ?_)
            | (with_reducible refine Leaf.mk rfl ?_)
            | (with_reducible refine LeafS.fin rfl ?_)
            | (with_reducible refine Fin.mk ?_ rfl)
            | (with_reducible refine Fin.mk ?_ ?_)
            | ((with_reducible refine Nx.mk ?_ ?_ ?_ ?_) <;> first | rfl | skip)
            | (conv => whnf
               first
                 | (with_reducible refine gn _ _ ?_; clear gn G)
                 | (with_reducible refine gn _ _ _ _ ?_; clear gn G)
                 | (with_reducible refine Wr.mk ?_)
                 | (with_reducible refine hn _ _ ?_; clear hn he hr K')
                 | (with_reducible refine he _ _ _ ?_; clear hn he hr K')
                 | (with_reducible refine hr _ _ ?_; clear hn he hr K')
                 | (with_reducible refine Nd.mk trivial ?_)
                 | (with_reducible refine Nd.mk (by decide) ?_)
                 | (with_reducible refine Nd.mk ?_ ?_)
                 | (with_reducible refine Leaf.mk rfl ?_)
                 | (with_reducible refine LeafS.fin rfl ?_)
                 | (with_reducible refine Fin.mk ?_ rfl)
                 | (with_reducible refine Fin.mk ?_ ?_)
                 | ((with_reducible refine Nx.mk ?_ ?_ ?_ ?_) <;> first | rfl | skip)
                 | (with_reducible show Bo _ _)
                 | (with_reducible show Br _ _ _)
                 | (with_reducible show Eqn _ _ _)))
          all_goals first | rfl | omega
      · have h4' : ¬ (xs.length : Int) = 4 := by omega
        have h5' : ¬ (xs.length : Int) = 35 := by omega
        have h6' : ¬ (xs.length : Int) = 36 := by omega
        have hn0 := rd_no h4 h5 h6
        refine ⟨fun hr => absurd (hr.symm.trans hn0) (by decide), fun hr => ⟨rfl, ?_⟩⟩
        repeat' (first
          | (with_reducible first | refine st_seq (fun K' hn he hr => ?_) | refine st_block (fun K' hn he hr => ?_) | refine st_region ?_ | refine st_draw ?_ | refine st_cond ?_ | refine st_skip ?_ | refine st_exit ?_ | refine st_ret ?_ | refine st_loop ?_ | refine st_op (fun G gn => ?_) | refine st_nil ?_ | refine st_gop ?_ | refine st_dop (fun G gn => ?_) | refine st_dnil ?_ | refine st_gdop ?_ | refine st_tl ?_)
          | (with_reducible refine gn _ _ ?_; clear gn G)
          | (with_reducible refine gn _ _ _ _ ?_; clear gn G)
          | (with_reducible refine Wr.mk ?_)
          | (with_reducible refine hn _ _ ?_; clear hn he hr K')
          | (with_reducible refine he _ _ _ ?_; clear hn he hr K')
          | (with_reducible refine hr _ _ ?_; clear hn he hr K')
          | ((with_reducible refine Eqn.mk (fun hq => ?_) ?_) <;> first | contradiction | skip)
          | (with_reducible refine Bo.yes (by decide) ?_)
          | (with_reducible refine Bo.no (by decide) ?_)
          | ((with_reducible refine Bo.gen (fun c hb => ?_)) <;> (try simp only [Nat.reduceAdd, toD, toDs, dInt, dBool, dStr, dList, dFs, dFld, List.getD_cons_zero, List.getD_cons_succ, Nat.zero_add, Int.reduceToNat] at hb) <;> (try simp only [cond_true, cond_false, toD, toDs, dInt, dBool, dStr, dList, dFs, dFld, List.getD_cons_zero, List.getD_cons_succ, Nat.zero_add, eqA, eqAs, decide_true, decide_false, beq_self_eq_true, Bool.not_true, Bool.not_false, Bool.and_true, Bool.true_and, Bool.and_self, cmpI, ↓reduceIte, Bool.false_eq_true, reduceCtorEq, Int.reduceEq, Int.reduceLT, Int.reduceLE, h2, h4', h5', h6', zeroD, zeroDs, isK] at hb) <;> first | (obtain rfl : c = true := hb) | (obtain rfl : c = false := hb) | skip)
          | ((with_reducible refine Br.cs (fun hq => ?_) (fun hq => ?_)) <;> (try simp only [cond_true, cond_false, toD, toDs, dInt, dBool, dStr, dList, dFs, dFld, List.getD_cons_zero, List.getD_cons_succ, Nat.zero_add, eqA, eqAs, decide_true, decide_false, beq_self_eq_true, Bool.not_true, Bool.not_false, Bool.and_true, Bool.true_and, Bool.and_self, cmpI, ↓reduceIte, Bool.false_eq_true, reduceCtorEq, Int.reduceEq, Int.reduceLT, Int.reduceLE, h2, h4', h5', h6', zeroD, zeroDs, isK] at hq) <;> first | contradiction | subst hq | skip)
          | (with_reducible refine Nd.mk trivial ?_)
          | (with_reducible refine Nd.mk (by decide) ?_)
          | (with_reducible refine Nd.mk ?_ ?_)
          | (with_reducible refine Leaf.mk rfl ?_)
          | (with_reducible refine LeafS.fin rfl ?_)
          | (with_reducible refine Fin.mk ?_ rfl)
          | (with_reducible refine Fin.mk ?_ ?_)
          | ((with_reducible refine Nx.mk ?_ ?_ ?_ ?_) <;> first | rfl | skip)
          | (conv => whnf
             first
               | (with_reducible refine gn _ _ ?_; clear gn G)
               | (with_reducible refine gn _ _ _ _ ?_; clear gn G)
               | (with_reducible refine Wr.mk ?_)
               | (with_reducible refine hn _ _ ?_; clear hn he hr K')
               | (with_reducible refine he _ _ _ ?_; clear hn he hr K')
               | (with_reducible refine hr _ _ ?_; clear hn he hr K')
               | (with_reducible refine Nd.mk trivial ?_)
               | (with_reducible refine Nd.mk (by decide) ?_)
               | (with_reducible refine Nd.mk ?_ ?_)
               | (with_reducible refine Leaf.mk rfl ?_)
               | (with_reducible refine LeafS.fin rfl ?_)
               | (with_reducible refine Fin.mk ?_ rfl)
               | (with_reducible refine Fin.mk ?_ ?_)
               | ((with_reducible refine Nx.mk ?_ ?_ ?_ ?_) <;> first | rfl | skip)
               | (with_reducible show Bo _ _)
               | (with_reducible show Br _ _ _)
               | (with_reducible show Eqn _ _ _)))
        all_goals first | rfl | omega
  · trivial
end Go.Vc.Seat
