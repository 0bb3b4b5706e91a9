/- A part of the proof of the seat's laws: AuPf4. It states no claim by itself. -/
import Derived.Test.YtiddoflcajgjjaaAuPf3
set_option linter.unusedVariables false
set_option linter.unusedSimpArgs false
namespace Go.Vc.Seat
open Go.Vc Go.Proofs.Try

theorem cnt_len (p : Nat → Bool) : ∀ n, cntN p n ≤ n
  | 0 => Nat.le_refl _
  | n + 1 => by
    have := cnt_len p n
    unfold cntN
    split <;> omega
set_option maxRecDepth 20000 in
set_option maxHeartbeats 8000000 in
theorem pok_audit_Explains : POK prog orc f_audit_Explains := by
  refine pok_of ok_audit_Explains mixed (by simp [ac_audit_Explains, acP, callsP, pok_audit_Service, pok_audit_alike]) (by simp [ac_audit_Explains, acS, callsS]) fun args hok => ?_
  show Fits orc nt_audit_Explains rs_audit_Explains ac_audit_Explains args (pExplains args)
  unfold ac_audit_Explains
  unfold pExplains
  split
  · rename_i s xa xb xp xs ya yb yp ys
    clear hok
    intro hc
    refine ⟨rfl, ?_⟩
    obtain ⟨X, hX⟩ : ∃ X, toD (.st [.int .i64 xa, .int .i64 xb, .int .i64 xp, .sl (.int .u8) xs .no]) = X := ⟨_, rfl⟩
    obtain ⟨Y, hY⟩ : ∃ Y, toD (.st [.int .i64 ya, .int .i64 yb, .int .i64 yp, .sl (.int .u8) ys .no]) = Y := ⟨_, rfl⟩
    have hc1 : lenOK (X.fld 3).list := by rw [← hX]; exact hc.1
    have hc2 : lenOK (Y.fld 3).list := by rw [← hY]; exact hc.2
    have e0 : explB s xa xb xp xs ya yb yp ys = explD s X Y := by rw [← hX, ← hY]; rfl
    rw [e0]
    refine st_seq (fun K1 hn1 he1 hr1 => ?_)
    repeat' (first | (with_reducible first | refine st_seq (fun K' hn he hr => ?_) | refine st_block (fun K' hn he hr => ?_) | refine st_region ?_ | refine st_draw ?_ | refine st_cond ?_ | refine st_loop ?_ | refine st_op (fun G gn => ?_) | refine st_gop ?_ | refine st_dop (fun G gn => ?_) | refine st_gdop ?_ | refine st_tl ?_) | ((conv => whnf); first | (with_reducible first | (refine gn _ _ ?_; clear gn G) | (refine gn _ _ _ _ ?_; clear gn G) | refine Wr.mk ?_ | (refine hn _ _ ?_; clear hn he hr K') | (refine he _ _ _ ?_; clear hn he hr K') | (refine hr _ _ ?_; clear hn he hr K') | refine Bo.yes (by decide) ?_ | refine Bo.no (by decide) ?_ | refine Nd.mk trivial ?_ | refine Nd.mk (by decide) ?_ | refine Nd.mk ?_ ?_ | refine Leaf.mk rfl ?_ | refine Fin.mk ?_ rfl | refine Fin.mk ?_ ?_) | ((with_reducible refine Eqn.mk (fun hq => ?_) ?_) <;> try contradiction) | ((with_reducible refine Bo.gen (fun c hb => ?_)) <;> (try simp only [Nat.reduceAdd, Int.reduceToNat, toD, toDs, bl0] at hb) <;> (try simp only [↓reduceIte, reduceCtorEq, Int.reduceEq, Int.reduceLT, Int.reduceLE, eqA, eqAs, cmpI, bl1, toD, toDs, bl0] at hb) <;> first | (obtain rfl : c = true := hb) | (obtain rfl : c = false := hb) | skip) | ((with_reducible refine Br.cs (fun hq => ?_) (fun hq => ?_)) <;> (try simp only [↓reduceIte, reduceCtorEq, Int.reduceEq, Int.reduceLT, Int.reduceLE, eqA, eqAs, cmpI, bl1, toD, toDs, bl0] at hq) <;> first | contradiction | subst hq | skip) | ((with_reducible refine Nx.mk ?_ ?_ ?_ ?_) <;> try rfl)))
    refine hn1 _ _ ?_
    clear hn1 he1 hr1 K1
    rw [hX, hY]
    clear hX hY e0 hc
    by_cases c1 : (X.fld 0).int < (Y.fld 0).int
    · by_cases c2 : (X.fld 1).int = (Y.fld 1).int
      · by_cases c3 : (X.fld 2).int = (Y.fld 2).int
        · have bc1 := decide_eq_true c1
          have c1' : ¬ (Y.fld 0).int ≤ (X.fld 0).int := by omega
          have bc2 := decide_eq_true c2
          have bc3 := decide_eq_true c3
          have e : explD s X Y = false := by unfold explD explB; simp only [bc1, bc2, bc3, Bool.and_true, Bool.and_false, Bool.true_and, Bool.false_and, Bool.not_true, Bool.not_false, Bool.and_self]
          rw [e]
          repeat' (first | (with_reducible first | refine st_seq (fun K' hn he hr => ?_) | refine st_block (fun K' hn he hr => ?_) | refine st_region ?_ | refine st_draw ?_ | refine st_cond ?_ | refine st_loop ?_ | refine st_op (fun G gn => ?_) | refine st_gop ?_ | refine st_dop (fun G gn => ?_) | refine st_gdop ?_ | refine st_tl ?_) | ((conv => whnf); first | (with_reducible first | (refine gn _ _ ?_; clear gn G) | (refine gn _ _ _ _ ?_; clear gn G) | refine Wr.mk ?_ | (refine hn _ _ ?_; clear hn he hr K') | (refine he _ _ _ ?_; clear hn he hr K') | (refine hr _ _ ?_; clear hn he hr K') | refine Bo.yes (by decide) ?_ | refine Bo.no (by decide) ?_ | refine Nd.mk trivial ?_ | refine Nd.mk (by decide) ?_ | refine Nd.mk ?_ ?_ | refine Leaf.mk rfl ?_ | refine Fin.mk ?_ rfl | refine Fin.mk ?_ ?_) | ((with_reducible refine Eqn.mk (fun hq => ?_) ?_) <;> try contradiction) | ((with_reducible refine Bo.gen (fun c hb => ?_)) <;> (try simp only [Nat.reduceAdd, Int.reduceToNat, toD, toDs, bl0] at hb) <;> (try simp only [↓reduceIte, reduceCtorEq, Int.reduceEq, Int.reduceLT, Int.reduceLE, eqA, eqAs, cmpI, bl1, toD, toDs, bl0, ge_iff_le, ne_eq, bc1, c1', bc2, bc3] at hb) <;> first | (obtain rfl : c = true := hb) | (obtain rfl : c = false := hb) | skip) | ((with_reducible refine Br.cs (fun hq => ?_) (fun hq => ?_)) <;> (try simp only [↓reduceIte, reduceCtorEq, Int.reduceEq, Int.reduceLT, Int.reduceLE, eqA, eqAs, cmpI, bl1, toD, toDs, bl0, ge_iff_le, ne_eq, bc1, c1', bc2, bc3] at hq) <;> first | contradiction | subst hq | skip) | ((with_reducible refine Nx.mk ?_ ?_ ?_ ?_) <;> try rfl)))
          all_goals first | exact hc1 | exact hc2 | exact ⟨hc1, hc2⟩ | rfl
        · cases s1 : svcOK s (X.fld 1).int (X.fld 2).int (X.fld 3).list
          · have bc1 := decide_eq_true c1
            have c1' : ¬ (Y.fld 0).int ≤ (X.fld 0).int := by omega
            have bc2 := decide_eq_true c2
            have bc3 := decide_eq_false c3
            have e : explD s X Y = false := by unfold explD explB; simp only [bc1, bc2, bc3, s1, Bool.and_true, Bool.and_false, Bool.true_and, Bool.false_and, Bool.not_true, Bool.not_false, Bool.and_self]
            rw [e]
            repeat' (first | (with_reducible first | refine st_seq (fun K' hn he hr => ?_) | refine st_block (fun K' hn he hr => ?_) | refine st_region ?_ | refine st_draw ?_ | refine st_cond ?_ | refine st_loop ?_ | refine st_op (fun G gn => ?_) | refine st_gop ?_ | refine st_dop (fun G gn => ?_) | refine st_gdop ?_ | refine st_tl ?_) | ((conv => whnf); first | (with_reducible first | (refine gn _ _ ?_; clear gn G) | (refine gn _ _ _ _ ?_; clear gn G) | refine Wr.mk ?_ | (refine hn _ _ ?_; clear hn he hr K') | (refine he _ _ _ ?_; clear hn he hr K') | (refine hr _ _ ?_; clear hn he hr K') | refine Bo.yes (by decide) ?_ | refine Bo.no (by decide) ?_ | refine Nd.mk trivial ?_ | refine Nd.mk (by decide) ?_ | refine Nd.mk ?_ ?_ | refine Leaf.mk rfl ?_ | refine Fin.mk ?_ rfl | refine Fin.mk ?_ ?_) | ((with_reducible refine Eqn.mk (fun hq => ?_) ?_) <;> try contradiction) | ((with_reducible refine Bo.gen (fun c hb => ?_)) <;> (try simp only [Nat.reduceAdd, Int.reduceToNat, toD, toDs, bl0] at hb) <;> (try simp only [↓reduceIte, reduceCtorEq, Int.reduceEq, Int.reduceLT, Int.reduceLE, eqA, eqAs, cmpI, bl1, toD, toDs, bl0, ge_iff_le, ne_eq, bc1, c1', bc2, bc3, s1] at hb) <;> first | (obtain rfl : c = true := hb) | (obtain rfl : c = false := hb) | skip) | ((with_reducible refine Br.cs (fun hq => ?_) (fun hq => ?_)) <;> (try simp only [↓reduceIte, reduceCtorEq, Int.reduceEq, Int.reduceLT, Int.reduceLE, eqA, eqAs, cmpI, bl1, toD, toDs, bl0, ge_iff_le, ne_eq, bc1, c1', bc2, bc3, s1] at hq) <;> first | contradiction | subst hq | skip) | ((with_reducible refine Nx.mk ?_ ?_ ?_ ?_) <;> try rfl)))
            all_goals first | exact hc1 | exact hc2 | exact ⟨hc1, hc2⟩ | rfl
          · cases s2 : svcOK s (Y.fld 1).int (Y.fld 2).int (Y.fld 3).list
            · have bc1 := decide_eq_true c1
              have c1' : ¬ (Y.fld 0).int ≤ (X.fld 0).int := by omega
              have bc2 := decide_eq_true c2
              have bc3 := decide_eq_false c3
              have e : explD s X Y = false := by unfold explD explB; simp only [bc1, bc2, bc3, s1, s2, Bool.and_true, Bool.and_false, Bool.true_and, Bool.false_and, Bool.not_true, Bool.not_false, Bool.and_self]
              rw [e]
              repeat' (first | (with_reducible first | refine st_seq (fun K' hn he hr => ?_) | refine st_block (fun K' hn he hr => ?_) | refine st_region ?_ | refine st_draw ?_ | refine st_cond ?_ | refine st_loop ?_ | refine st_op (fun G gn => ?_) | refine st_gop ?_ | refine st_dop (fun G gn => ?_) | refine st_gdop ?_ | refine st_tl ?_) | ((conv => whnf); first | (with_reducible first | (refine gn _ _ ?_; clear gn G) | (refine gn _ _ _ _ ?_; clear gn G) | refine Wr.mk ?_ | (refine hn _ _ ?_; clear hn he hr K') | (refine he _ _ _ ?_; clear hn he hr K') | (refine hr _ _ ?_; clear hn he hr K') | refine Bo.yes (by decide) ?_ | refine Bo.no (by decide) ?_ | refine Nd.mk trivial ?_ | refine Nd.mk (by decide) ?_ | refine Nd.mk ?_ ?_ | refine Leaf.mk rfl ?_ | refine Fin.mk ?_ rfl | refine Fin.mk ?_ ?_) | ((with_reducible refine Eqn.mk (fun hq => ?_) ?_) <;> try contradiction) | ((with_reducible refine Bo.gen (fun c hb => ?_)) <;> (try simp only [Nat.reduceAdd, Int.reduceToNat, toD, toDs, bl0] at hb) <;> (try simp only [↓reduceIte, reduceCtorEq, Int.reduceEq, Int.reduceLT, Int.reduceLE, eqA, eqAs, cmpI, bl1, toD, toDs, bl0, ge_iff_le, ne_eq, bc1, c1', bc2, bc3, s1, s2] at hb) <;> first | (obtain rfl : c = true := hb) | (obtain rfl : c = false := hb) | skip) | ((with_reducible refine Br.cs (fun hq => ?_) (fun hq => ?_)) <;> (try simp only [↓reduceIte, reduceCtorEq, Int.reduceEq, Int.reduceLT, Int.reduceLE, eqA, eqAs, cmpI, bl1, toD, toDs, bl0, ge_iff_le, ne_eq, bc1, c1', bc2, bc3, s1, s2] at hq) <;> first | contradiction | subst hq | skip) | ((with_reducible refine Nx.mk ?_ ?_ ?_ ?_) <;> try rfl)))
              all_goals first | exact hc1 | exact hc2 | exact ⟨hc1, hc2⟩ | rfl
            · by_cases s3 : svcV s (X.fld 1).int (X.fld 2).int (X.fld 3).list = svcV s (Y.fld 1).int (Y.fld 2).int (Y.fld 3).list
              · cases al : alikeB (X.fld 3).list (Y.fld 3).list
                · have bc1 := decide_eq_true c1
                  have c1' : ¬ (Y.fld 0).int ≤ (X.fld 0).int := by omega
                  have bc2 := decide_eq_true c2
                  have bc3 := decide_eq_false c3
                  have bs3 := decide_eq_true s3
                  have e : explD s X Y = false := by unfold explD explB; simp only [bc1, bc2, bc3, s1, s2, bs3, al, Bool.and_true, Bool.and_false, Bool.true_and, Bool.false_and, Bool.not_true, Bool.not_false, Bool.and_self]
                  rw [e]
                  repeat' (first | (with_reducible first | refine st_seq (fun K' hn he hr => ?_) | refine st_block (fun K' hn he hr => ?_) | refine st_region ?_ | refine st_draw ?_ | refine st_cond ?_ | refine st_loop ?_ | refine st_op (fun G gn => ?_) | refine st_gop ?_ | refine st_dop (fun G gn => ?_) | refine st_gdop ?_ | refine st_tl ?_) | ((conv => whnf); first | (with_reducible first | (refine gn _ _ ?_; clear gn G) | (refine gn _ _ _ _ ?_; clear gn G) | refine Wr.mk ?_ | (refine hn _ _ ?_; clear hn he hr K') | (refine he _ _ _ ?_; clear hn he hr K') | (refine hr _ _ ?_; clear hn he hr K') | refine Bo.yes (by decide) ?_ | refine Bo.no (by decide) ?_ | refine Nd.mk trivial ?_ | refine Nd.mk (by decide) ?_ | refine Nd.mk ?_ ?_ | refine Leaf.mk rfl ?_ | refine Fin.mk ?_ rfl | refine Fin.mk ?_ ?_) | ((with_reducible refine Eqn.mk (fun hq => ?_) ?_) <;> try contradiction) | ((with_reducible refine Bo.gen (fun c hb => ?_)) <;> (try simp only [Nat.reduceAdd, Int.reduceToNat, toD, toDs, bl0] at hb) <;> (try simp only [↓reduceIte, reduceCtorEq, Int.reduceEq, Int.reduceLT, Int.reduceLE, eqA, eqAs, cmpI, bl1, toD, toDs, bl0, ge_iff_le, ne_eq, bc1, c1', bc2, bc3, s1, s2, bs3, al] at hb) <;> first | (obtain rfl : c = true := hb) | (obtain rfl : c = false := hb) | skip) | ((with_reducible refine Br.cs (fun hq => ?_) (fun hq => ?_)) <;> (try simp only [↓reduceIte, reduceCtorEq, Int.reduceEq, Int.reduceLT, Int.reduceLE, eqA, eqAs, cmpI, bl1, toD, toDs, bl0, ge_iff_le, ne_eq, bc1, c1', bc2, bc3, s1, s2, bs3, al] at hq) <;> first | contradiction | subst hq | skip) | ((with_reducible refine Nx.mk ?_ ?_ ?_ ?_) <;> try rfl)))
                  all_goals first | exact hc1 | exact hc2 | exact ⟨hc1, hc2⟩ | rfl
                · have bc1 := decide_eq_true c1
                  have c1' : ¬ (Y.fld 0).int ≤ (X.fld 0).int := by omega
                  have bc2 := decide_eq_true c2
                  have bc3 := decide_eq_false c3
                  have bs3 := decide_eq_true s3
                  have e : explD s X Y = true := by unfold explD explB; simp only [bc1, bc2, bc3, s1, s2, bs3, al, Bool.and_true, Bool.and_false, Bool.true_and, Bool.false_and, Bool.not_true, Bool.not_false, Bool.and_self]
                  rw [e]
                  repeat' (first | (with_reducible first | refine st_seq (fun K' hn he hr => ?_) | refine st_block (fun K' hn he hr => ?_) | refine st_region ?_ | refine st_draw ?_ | refine st_cond ?_ | refine st_loop ?_ | refine st_op (fun G gn => ?_) | refine st_gop ?_ | refine st_dop (fun G gn => ?_) | refine st_gdop ?_ | refine st_tl ?_) | ((conv => whnf); first | (with_reducible first | (refine gn _ _ ?_; clear gn G) | (refine gn _ _ _ _ ?_; clear gn G) | refine Wr.mk ?_ | (refine hn _ _ ?_; clear hn he hr K') | (refine he _ _ _ ?_; clear hn he hr K') | (refine hr _ _ ?_; clear hn he hr K') | refine Bo.yes (by decide) ?_ | refine Bo.no (by decide) ?_ | refine Nd.mk trivial ?_ | refine Nd.mk (by decide) ?_ | refine Nd.mk ?_ ?_ | refine Leaf.mk rfl ?_ | refine Fin.mk ?_ rfl | refine Fin.mk ?_ ?_) | ((with_reducible refine Eqn.mk (fun hq => ?_) ?_) <;> try contradiction) | ((with_reducible refine Bo.gen (fun c hb => ?_)) <;> (try simp only [Nat.reduceAdd, Int.reduceToNat, toD, toDs, bl0] at hb) <;> (try simp only [↓reduceIte, reduceCtorEq, Int.reduceEq, Int.reduceLT, Int.reduceLE, eqA, eqAs, cmpI, bl1, toD, toDs, bl0, ge_iff_le, ne_eq, bc1, c1', bc2, bc3, s1, s2, bs3, al] at hb) <;> first | (obtain rfl : c = true := hb) | (obtain rfl : c = false := hb) | skip) | ((with_reducible refine Br.cs (fun hq => ?_) (fun hq => ?_)) <;> (try simp only [↓reduceIte, reduceCtorEq, Int.reduceEq, Int.reduceLT, Int.reduceLE, eqA, eqAs, cmpI, bl1, toD, toDs, bl0, ge_iff_le, ne_eq, bc1, c1', bc2, bc3, s1, s2, bs3, al] at hq) <;> first | contradiction | subst hq | skip) | ((with_reducible refine Nx.mk ?_ ?_ ?_ ?_) <;> try rfl)))
                  all_goals first | exact hc1 | exact hc2 | exact ⟨hc1, hc2⟩ | rfl
              · have bc1 := decide_eq_true c1
                have c1' : ¬ (Y.fld 0).int ≤ (X.fld 0).int := by omega
                have bc2 := decide_eq_true c2
                have bc3 := decide_eq_false c3
                have bs3 := decide_eq_false s3
                have e : explD s X Y = false := by unfold explD explB; simp only [bc1, bc2, bc3, s1, s2, bs3, Bool.and_true, Bool.and_false, Bool.true_and, Bool.false_and, Bool.not_true, Bool.not_false, Bool.and_self]
                rw [e]
                repeat' (first | (with_reducible first | refine st_seq (fun K' hn he hr => ?_) | refine st_block (fun K' hn he hr => ?_) | refine st_region ?_ | refine st_draw ?_ | refine st_cond ?_ | refine st_loop ?_ | refine st_op (fun G gn => ?_) | refine st_gop ?_ | refine st_dop (fun G gn => ?_) | refine st_gdop ?_ | refine st_tl ?_) | ((conv => whnf); first | (with_reducible first | (refine gn _ _ ?_; clear gn G) | (refine gn _ _ _ _ ?_; clear gn G) | refine Wr.mk ?_ | (refine hn _ _ ?_; clear hn he hr K') | (refine he _ _ _ ?_; clear hn he hr K') | (refine hr _ _ ?_; clear hn he hr K') | refine Bo.yes (by decide) ?_ | refine Bo.no (by decide) ?_ | refine Nd.mk trivial ?_ | refine Nd.mk (by decide) ?_ | refine Nd.mk ?_ ?_ | refine Leaf.mk rfl ?_ | refine Fin.mk ?_ rfl | refine Fin.mk ?_ ?_) | ((with_reducible refine Eqn.mk (fun hq => ?_) ?_) <;> try contradiction) | ((with_reducible refine Bo.gen (fun c hb => ?_)) <;> (try simp only [Nat.reduceAdd, Int.reduceToNat, toD, toDs, bl0] at hb) <;> (try simp only [↓reduceIte, reduceCtorEq, Int.reduceEq, Int.reduceLT, Int.reduceLE, eqA, eqAs, cmpI, bl1, toD, toDs, bl0, ge_iff_le, ne_eq, bc1, c1', bc2, bc3, s1, s2, bs3] at hb) <;> first | (obtain rfl : c = true := hb) | (obtain rfl : c = false := hb) | skip) | ((with_reducible refine Br.cs (fun hq => ?_) (fun hq => ?_)) <;> (try simp only [↓reduceIte, reduceCtorEq, Int.reduceEq, Int.reduceLT, Int.reduceLE, eqA, eqAs, cmpI, bl1, toD, toDs, bl0, ge_iff_le, ne_eq, bc1, c1', bc2, bc3, s1, s2, bs3] at hq) <;> first | contradiction | subst hq | skip) | ((with_reducible refine Nx.mk ?_ ?_ ?_ ?_) <;> try rfl)))
                all_goals first | exact hc1 | exact hc2 | exact ⟨hc1, hc2⟩ | rfl
      · cases s1 : svcOK s (X.fld 1).int (X.fld 2).int (X.fld 3).list
        · have bc1 := decide_eq_true c1
          have c1' : ¬ (Y.fld 0).int ≤ (X.fld 0).int := by omega
          have bc2 := decide_eq_false c2
          have e : explD s X Y = false := by unfold explD explB; simp only [bc1, bc2, s1, Bool.and_true, Bool.and_false, Bool.true_and, Bool.false_and, Bool.not_true, Bool.not_false, Bool.and_self]
          rw [e]
          repeat' (first | (with_reducible first | refine st_seq (fun K' hn he hr => ?_) | refine st_block (fun K' hn he hr => ?_) | refine st_region ?_ | refine st_draw ?_ | refine st_cond ?_ | refine st_loop ?_ | refine st_op (fun G gn => ?_) | refine st_gop ?_ | refine st_dop (fun G gn => ?_) | refine st_gdop ?_ | refine st_tl ?_) | ((conv => whnf); first | (with_reducible first | (refine gn _ _ ?_; clear gn G) | (refine gn _ _ _ _ ?_; clear gn G) | refine Wr.mk ?_ | (refine hn _ _ ?_; clear hn he hr K') | (refine he _ _ _ ?_; clear hn he hr K') | (refine hr _ _ ?_; clear hn he hr K') | refine Bo.yes (by decide) ?_ | refine Bo.no (by decide) ?_ | refine Nd.mk trivial ?_ | refine Nd.mk (by decide) ?_ | refine Nd.mk ?_ ?_ | refine Leaf.mk rfl ?_ | refine Fin.mk ?_ rfl | refine Fin.mk ?_ ?_) | ((with_reducible refine Eqn.mk (fun hq => ?_) ?_) <;> try contradiction) | ((with_reducible refine Bo.gen (fun c hb => ?_)) <;> (try simp only [Nat.reduceAdd, Int.reduceToNat, toD, toDs, bl0] at hb) <;> (try simp only [↓reduceIte, reduceCtorEq, Int.reduceEq, Int.reduceLT, Int.reduceLE, eqA, eqAs, cmpI, bl1, toD, toDs, bl0, ge_iff_le, ne_eq, bc1, c1', bc2, s1] at hb) <;> first | (obtain rfl : c = true := hb) | (obtain rfl : c = false := hb) | skip) | ((with_reducible refine Br.cs (fun hq => ?_) (fun hq => ?_)) <;> (try simp only [↓reduceIte, reduceCtorEq, Int.reduceEq, Int.reduceLT, Int.reduceLE, eqA, eqAs, cmpI, bl1, toD, toDs, bl0, ge_iff_le, ne_eq, bc1, c1', bc2, s1] at hq) <;> first | contradiction | subst hq | skip) | ((with_reducible refine Nx.mk ?_ ?_ ?_ ?_) <;> try rfl)))
          all_goals first | exact hc1 | exact hc2 | exact ⟨hc1, hc2⟩ | rfl
        · cases s2 : svcOK s (Y.fld 1).int (Y.fld 2).int (Y.fld 3).list
          · have bc1 := decide_eq_true c1
            have c1' : ¬ (Y.fld 0).int ≤ (X.fld 0).int := by omega
            have bc2 := decide_eq_false c2
            have e : explD s X Y = false := by unfold explD explB; simp only [bc1, bc2, s1, s2, Bool.and_true, Bool.and_false, Bool.true_and, Bool.false_and, Bool.not_true, Bool.not_false, Bool.and_self]
            rw [e]
            repeat' (first | (with_reducible first | refine st_seq (fun K' hn he hr => ?_) | refine st_block (fun K' hn he hr => ?_) | refine st_region ?_ | refine st_draw ?_ | refine st_cond ?_ | refine st_loop ?_ | refine st_op (fun G gn => ?_) | refine st_gop ?_ | refine st_dop (fun G gn => ?_) | refine st_gdop ?_ | refine st_tl ?_) | ((conv => whnf); first | (with_reducible first | (refine gn _ _ ?_; clear gn G) | (refine gn _ _ _ _ ?_; clear gn G) | refine Wr.mk ?_ | (refine hn _ _ ?_; clear hn he hr K') | (refine he _ _ _ ?_; clear hn he hr K') | (refine hr _ _ ?_; clear hn he hr K') | refine Bo.yes (by decide) ?_ | refine Bo.no (by decide) ?_ | refine Nd.mk trivial ?_ | refine Nd.mk (by decide) ?_ | refine Nd.mk ?_ ?_ | refine Leaf.mk rfl ?_ | refine Fin.mk ?_ rfl | refine Fin.mk ?_ ?_) | ((with_reducible refine Eqn.mk (fun hq => ?_) ?_) <;> try contradiction) | ((with_reducible refine Bo.gen (fun c hb => ?_)) <;> (try simp only [Nat.reduceAdd, Int.reduceToNat, toD, toDs, bl0] at hb) <;> (try simp only [↓reduceIte, reduceCtorEq, Int.reduceEq, Int.reduceLT, Int.reduceLE, eqA, eqAs, cmpI, bl1, toD, toDs, bl0, ge_iff_le, ne_eq, bc1, c1', bc2, s1, s2] at hb) <;> first | (obtain rfl : c = true := hb) | (obtain rfl : c = false := hb) | skip) | ((with_reducible refine Br.cs (fun hq => ?_) (fun hq => ?_)) <;> (try simp only [↓reduceIte, reduceCtorEq, Int.reduceEq, Int.reduceLT, Int.reduceLE, eqA, eqAs, cmpI, bl1, toD, toDs, bl0, ge_iff_le, ne_eq, bc1, c1', bc2, s1, s2] at hq) <;> first | contradiction | subst hq | skip) | ((with_reducible refine Nx.mk ?_ ?_ ?_ ?_) <;> try rfl)))
            all_goals first | exact hc1 | exact hc2 | exact ⟨hc1, hc2⟩ | rfl
          · by_cases s3 : svcV s (X.fld 1).int (X.fld 2).int (X.fld 3).list = svcV s (Y.fld 1).int (Y.fld 2).int (Y.fld 3).list
            · cases al : alikeB (X.fld 3).list (Y.fld 3).list
              · have bc1 := decide_eq_true c1
                have c1' : ¬ (Y.fld 0).int ≤ (X.fld 0).int := by omega
                have bc2 := decide_eq_false c2
                have bs3 := decide_eq_true s3
                have e : explD s X Y = false := by unfold explD explB; simp only [bc1, bc2, s1, s2, bs3, al, Bool.and_true, Bool.and_false, Bool.true_and, Bool.false_and, Bool.not_true, Bool.not_false, Bool.and_self]
                rw [e]
                repeat' (first | (with_reducible first | refine st_seq (fun K' hn he hr => ?_) | refine st_block (fun K' hn he hr => ?_) | refine st_region ?_ | refine st_draw ?_ | refine st_cond ?_ | refine st_loop ?_ | refine st_op (fun G gn => ?_) | refine st_gop ?_ | refine st_dop (fun G gn => ?_) | refine st_gdop ?_ | refine st_tl ?_) | ((conv => whnf); first | (with_reducible first | (refine gn _ _ ?_; clear gn G) | (refine gn _ _ _ _ ?_; clear gn G) | refine Wr.mk ?_ | (refine hn _ _ ?_; clear hn he hr K') | (refine he _ _ _ ?_; clear hn he hr K') | (refine hr _ _ ?_; clear hn he hr K') | refine Bo.yes (by decide) ?_ | refine Bo.no (by decide) ?_ | refine Nd.mk trivial ?_ | refine Nd.mk (by decide) ?_ | refine Nd.mk ?_ ?_ | refine Leaf.mk rfl ?_ | refine Fin.mk ?_ rfl | refine Fin.mk ?_ ?_) | ((with_reducible refine Eqn.mk (fun hq => ?_) ?_) <;> try contradiction) | ((with_reducible refine Bo.gen (fun c hb => ?_)) <;> (try simp only [Nat.reduceAdd, Int.reduceToNat, toD, toDs, bl0] at hb) <;> (try simp only [↓reduceIte, reduceCtorEq, Int.reduceEq, Int.reduceLT, Int.reduceLE, eqA, eqAs, cmpI, bl1, toD, toDs, bl0, ge_iff_le, ne_eq, bc1, c1', bc2, s1, s2, bs3, al] at hb) <;> first | (obtain rfl : c = true := hb) | (obtain rfl : c = false := hb) | skip) | ((with_reducible refine Br.cs (fun hq => ?_) (fun hq => ?_)) <;> (try simp only [↓reduceIte, reduceCtorEq, Int.reduceEq, Int.reduceLT, Int.reduceLE, eqA, eqAs, cmpI, bl1, toD, toDs, bl0, ge_iff_le, ne_eq, bc1, c1', bc2, s1, s2, bs3, al] at hq) <;> first | contradiction | subst hq | skip) | ((with_reducible refine Nx.mk ?_ ?_ ?_ ?_) <;> try rfl)))
                all_goals first | exact hc1 | exact hc2 | exact ⟨hc1, hc2⟩ | rfl
              · have bc1 := decide_eq_true c1
                have c1' : ¬ (Y.fld 0).int ≤ (X.fld 0).int := by omega
                have bc2 := decide_eq_false c2
                have bs3 := decide_eq_true s3
                have e : explD s X Y = true := by unfold explD explB; simp only [bc1, bc2, s1, s2, bs3, al, Bool.and_true, Bool.and_false, Bool.true_and, Bool.false_and, Bool.not_true, Bool.not_false, Bool.and_self]
                rw [e]
                repeat' (first | (with_reducible first | refine st_seq (fun K' hn he hr => ?_) | refine st_block (fun K' hn he hr => ?_) | refine st_region ?_ | refine st_draw ?_ | refine st_cond ?_ | refine st_loop ?_ | refine st_op (fun G gn => ?_) | refine st_gop ?_ | refine st_dop (fun G gn => ?_) | refine st_gdop ?_ | refine st_tl ?_) | ((conv => whnf); first | (with_reducible first | (refine gn _ _ ?_; clear gn G) | (refine gn _ _ _ _ ?_; clear gn G) | refine Wr.mk ?_ | (refine hn _ _ ?_; clear hn he hr K') | (refine he _ _ _ ?_; clear hn he hr K') | (refine hr _ _ ?_; clear hn he hr K') | refine Bo.yes (by decide) ?_ | refine Bo.no (by decide) ?_ | refine Nd.mk trivial ?_ | refine Nd.mk (by decide) ?_ | refine Nd.mk ?_ ?_ | refine Leaf.mk rfl ?_ | refine Fin.mk ?_ rfl | refine Fin.mk ?_ ?_) | ((with_reducible refine Eqn.mk (fun hq => ?_) ?_) <;> try contradiction) | ((with_reducible refine Bo.gen (fun c hb => ?_)) <;> (try simp only [Nat.reduceAdd, Int.reduceToNat, toD, toDs, bl0] at hb) <;> (try simp only [↓reduceIte, reduceCtorEq, Int.reduceEq, Int.reduceLT, Int.reduceLE, eqA, eqAs, cmpI, bl1, toD, toDs, bl0, ge_iff_le, ne_eq, bc1, c1', bc2, s1, s2, bs3, al] at hb) <;> first | (obtain rfl : c = true := hb) | (obtain rfl : c = false := hb) | skip) | ((with_reducible refine Br.cs (fun hq => ?_) (fun hq => ?_)) <;> (try simp only [↓reduceIte, reduceCtorEq, Int.reduceEq, Int.reduceLT, Int.reduceLE, eqA, eqAs, cmpI, bl1, toD, toDs, bl0, ge_iff_le, ne_eq, bc1, c1', bc2, s1, s2, bs3, al] at hq) <;> first | contradiction | subst hq | skip) | ((with_reducible refine Nx.mk ?_ ?_ ?_ ?_) <;> try rfl)))
                all_goals first | exact hc1 | exact hc2 | exact ⟨hc1, hc2⟩ | rfl
            · have bc1 := decide_eq_true c1
              have c1' : ¬ (Y.fld 0).int ≤ (X.fld 0).int := by omega
              have bc2 := decide_eq_false c2
              have bs3 := decide_eq_false s3
              have e : explD s X Y = false := by unfold explD explB; simp only [bc1, bc2, s1, s2, bs3, Bool.and_true, Bool.and_false, Bool.true_and, Bool.false_and, Bool.not_true, Bool.not_false, Bool.and_self]
              rw [e]
              repeat' (first | (with_reducible first | refine st_seq (fun K' hn he hr => ?_) | refine st_block (fun K' hn he hr => ?_) | refine st_region ?_ | refine st_draw ?_ | refine st_cond ?_ | refine st_loop ?_ | refine st_op (fun G gn => ?_) | refine st_gop ?_ | refine st_dop (fun G gn => ?_) | refine st_gdop ?_ | refine st_tl ?_) | ((conv => whnf); first | (with_reducible first | (refine gn _ _ ?_; clear gn G) | (refine gn _ _ _ _ ?_; clear gn G) | refine Wr.mk ?_ | (refine hn _ _ ?_; clear hn he hr K') | (refine he _ _ _ ?_; clear hn he hr K') | (refine hr _ _ ?_; clear hn he hr K') | refine Bo.yes (by decide) ?_ | refine Bo.no (by decide) ?_ | refine Nd.mk trivial ?_ | refine Nd.mk (by decide) ?_ | refine Nd.mk ?_ ?_ | refine Leaf.mk rfl ?_ | refine Fin.mk ?_ rfl | refine Fin.mk ?_ ?_) | ((with_reducible refine Eqn.mk (fun hq => ?_) ?_) <;> try contradiction) | ((with_reducible refine Bo.gen (fun c hb => ?_)) <;> (try simp only [Nat.reduceAdd, Int.reduceToNat, toD, toDs, bl0] at hb) <;> (try simp only [↓reduceIte, reduceCtorEq, Int.reduceEq, Int.reduceLT, Int.reduceLE, eqA, eqAs, cmpI, bl1, toD, toDs, bl0, ge_iff_le, ne_eq, bc1, c1', bc2, s1, s2, bs3] at hb) <;> first | (obtain rfl : c = true := hb) | (obtain rfl : c = false := hb) | skip) | ((with_reducible refine Br.cs (fun hq => ?_) (fun hq => ?_)) <;> (try simp only [↓reduceIte, reduceCtorEq, Int.reduceEq, Int.reduceLT, Int.reduceLE, eqA, eqAs, cmpI, bl1, toD, toDs, bl0, ge_iff_le, ne_eq, bc1, c1', bc2, s1, s2, bs3] at hq) <;> first | contradiction | subst hq | skip) | ((with_reducible refine Nx.mk ?_ ?_ ?_ ?_) <;> try rfl)))
              all_goals first | exact hc1 | exact hc2 | exact ⟨hc1, hc2⟩ | rfl
    · have bc1 := decide_eq_false c1
      have c1' : (Y.fld 0).int ≤ (X.fld 0).int := by omega
      have e : explD s X Y = false := by unfold explD explB; simp only [bc1, Bool.and_true, Bool.and_false, Bool.true_and, Bool.false_and, Bool.not_true, Bool.not_false, Bool.and_self]
      rw [e]
      repeat' (first | (with_reducible first | refine st_seq (fun K' hn he hr => ?_) | refine st_block (fun K' hn he hr => ?_) | refine st_region ?_ | refine st_draw ?_ | refine st_cond ?_ | refine st_loop ?_ | refine st_op (fun G gn => ?_) | refine st_gop ?_ | refine st_dop (fun G gn => ?_) | refine st_gdop ?_ | refine st_tl ?_) | ((conv => whnf); first | (with_reducible first | (refine gn _ _ ?_; clear gn G) | (refine gn _ _ _ _ ?_; clear gn G) | refine Wr.mk ?_ | (refine hn _ _ ?_; clear hn he hr K') | (refine he _ _ _ ?_; clear hn he hr K') | (refine hr _ _ ?_; clear hn he hr K') | refine Bo.yes (by decide) ?_ | refine Bo.no (by decide) ?_ | refine Nd.mk trivial ?_ | refine Nd.mk (by decide) ?_ | refine Nd.mk ?_ ?_ | refine Leaf.mk rfl ?_ | refine Fin.mk ?_ rfl | refine Fin.mk ?_ ?_) | ((with_reducible refine Eqn.mk (fun hq => ?_) ?_) <;> try contradiction) | ((with_reducible refine Bo.gen (fun c hb => ?_)) <;> (try simp only [Nat.reduceAdd, Int.reduceToNat, toD, toDs, bl0] at hb) <;> (try simp only [↓reduceIte, reduceCtorEq, Int.reduceEq, Int.reduceLT, Int.reduceLE, eqA, eqAs, cmpI, bl1, toD, toDs, bl0, ge_iff_le, ne_eq, bc1, c1'] at hb) <;> first | (obtain rfl : c = true := hb) | (obtain rfl : c = false := hb) | skip) | ((with_reducible refine Br.cs (fun hq => ?_) (fun hq => ?_)) <;> (try simp only [↓reduceIte, reduceCtorEq, Int.reduceEq, Int.reduceLT, Int.reduceLE, eqA, eqAs, cmpI, bl1, toD, toDs, bl0, ge_iff_le, ne_eq, bc1, c1'] at hq) <;> first | contradiction | subst hq | skip) | ((with_reducible refine Nx.mk ?_ ?_ ?_ ?_) <;> try rfl)))
      all_goals first | exact hc1 | exact hc2 | exact ⟨hc1, hc2⟩ | rfl
  · trivial
set_option maxRecDepth 20000 in
set_option maxHeartbeats 8000000 in
theorem pok_audit_explained : POK prog orc f_audit_explained := by
  refine pok_of ok_audit_explained mixed (by simp [ac_audit_explained, acP, callsP, pok_audit_Explains]) (by simp [ac_audit_explained, acS, callsS]) fun args hok => ?_
  show Fits orc nt_audit_explained rs_audit_explained ac_audit_explained args (pExplained args)
  unfold ac_audit_explained
  unfold pExplained
  split
  · rename_i s sent ya yb yp ys
    simp only [okAs, okA, maxLen] at hok
    have hl1 := hok.2.1.1
    clear hok
    intro hc
    obtain ⟨hc1, hc2⟩ := hc
    refine ⟨rfl, ?_⟩
    obtain ⟨Y, hY⟩ : ∃ Y, seenD ya yb yp ys = Y := ⟨_, rfl⟩
    have hY2 : toD (.st [.int .i64 ya, .int .i64 yb, .int .i64 yp, .sl (.int .u8) ys .no]) = Y := hY
    have hc3 : lenOK (Y.fld 3).list := by rw [← hY]; exact hc2
    rw [hY]
    refine st_seq (fun K1 hn1 he1 hr1 => ?_)
    repeat' (first | (with_reducible first | refine st_seq (fun K' hn he hr => ?_) | refine st_block (fun K' hn he hr => ?_) | refine st_region ?_ | refine st_draw ?_ | refine st_cond ?_ | refine st_loop ?_ | refine st_op (fun G gn => ?_) | refine st_gop ?_ | refine st_dop (fun G gn => ?_) | refine st_gdop ?_ | refine st_tl ?_) | ((conv => whnf); first | (with_reducible first | (refine gn _ _ ?_; clear gn G) | (refine gn _ _ _ _ ?_; clear gn G) | refine Wr.mk ?_ | (refine hn _ _ ?_; clear hn he hr K') | (refine he _ _ _ ?_; clear hn he hr K') | (refine hr _ _ ?_; clear hn he hr K') | refine Bo.yes (by decide) ?_ | refine Bo.no (by decide) ?_ | refine Nd.mk trivial ?_ | refine Nd.mk (by decide) ?_ | refine Nd.mk ?_ ?_ | refine Leaf.mk rfl ?_ | refine Fin.mk ?_ rfl | refine Fin.mk ?_ ?_) | ((with_reducible refine Eqn.mk (fun hq => ?_) ?_) <;> try contradiction) | ((with_reducible refine Bo.gen (fun c hb => ?_)) <;> (try simp only [Nat.reduceAdd, Int.reduceToNat, toD, toDs, bl0] at hb) <;> (try simp only [↓reduceIte, reduceCtorEq, Int.reduceEq, Int.reduceLT, Int.reduceLE, eqA, eqAs, cmpI, bl1, toD, toDs, bl0] at hb) <;> first | (obtain rfl : c = true := hb) | (obtain rfl : c = false := hb) | skip) | ((with_reducible refine Br.cs (fun hq => ?_) (fun hq => ?_)) <;> (try simp only [↓reduceIte, reduceCtorEq, Int.reduceEq, Int.reduceLT, Int.reduceLE, eqA, eqAs, cmpI, bl1, toD, toDs, bl0] at hq) <;> first | contradiction | subst hq | skip) | ((with_reducible refine Nx.mk ?_ ?_ ?_ ?_) <;> try rfl)))
    refine hn1 _ _ ?_
    clear hn1 he1 hr1 K1
    rw [hY2]
    clear hY hY2 hc2
    repeat' (first | (with_reducible first | refine st_seq (fun K' hn he hr => ?_) | refine st_block (fun K' hn he hr => ?_) | refine st_region ?_ | refine st_draw ?_ | refine st_cond ?_ | refine st_loop ?_ | refine st_op (fun G gn => ?_) | refine st_gop ?_ | refine st_dop (fun G gn => ?_) | refine st_gdop ?_ | refine st_tl ?_) | ((conv => whnf); first | (with_reducible first | (refine gn _ _ ?_; clear gn G) | (refine gn _ _ _ _ ?_; clear gn G) | refine Wr.mk ?_ | (refine hn _ _ ?_; clear hn he hr K') | (refine he _ _ _ ?_; clear hn he hr K') | (refine hr _ _ ?_; clear hn he hr K') | refine Bo.yes (by decide) ?_ | refine Bo.no (by decide) ?_ | refine Nd.mk trivial ?_ | refine Nd.mk (by decide) ?_ | refine Nd.mk ?_ ?_ | refine Leaf.mk rfl ?_ | refine Fin.mk ?_ rfl | refine Fin.mk ?_ ?_) | ((with_reducible refine Eqn.mk (fun hq => ?_) ?_) <;> try contradiction) | ((with_reducible refine Bo.gen (fun c hb => ?_)) <;> (try simp only [Nat.reduceAdd, Int.reduceToNat, toD, toDs, bl0] at hb) <;> (try simp only [↓reduceIte, reduceCtorEq, Int.reduceEq, Int.reduceLT, Int.reduceLE, eqA, eqAs, cmpI, bl1, toD, toDs, bl0] at hb) <;> first | (obtain rfl : c = true := hb) | (obtain rfl : c = false := hb) | skip) | ((with_reducible refine Br.cs (fun hq => ?_) (fun hq => ?_)) <;> (try simp only [↓reduceIte, reduceCtorEq, Int.reduceEq, Int.reduceLT, Int.reduceLE, eqA, eqAs, cmpI, bl1, toD, toDs, bl0] at hq) <;> first | contradiction | subst hq | skip) | ((with_reducible refine Nx.mk ?_ ?_ ?_ ?_) <;> try rfl)))
    have hn0 := hn
    have he0 := he
    have hr0 := hr
    clear hn he hr
    refine loop_of (fun k : Nat => [(0, .sl TySite s .no), (5, .cptr T29 Y), (7, .int .i64 (cntN (fun k => explD s (sent.getD k (.i 0)) Y) k)), (10, .sl TySeen sent .no), (11, .int .i64 sent.length), (12, .int .i64 k)]) (fun k => []) (fun k => k ≤ sent.length) (fun k => sent.length - k) 0 rfl rfl (Nat.zero_le _) (fun _ _ => rfl) ?_
    intro k hk J hJ K' hn he hr
    by_cases hlt : k < sent.length
    · have hlt' : (k : Int) < sent.length := by omega
      have hcl := cnt_len (fun k => explD s (sent.getD k (.i 0)) Y) k
      have hcs : cntN (fun k => explD s (sent.getD k (.i 0)) Y) (k + 1) = cntN (fun k => explD s (sent.getD k (.i 0)) Y) k + (if explD s (sent.getD k (.i 0)) Y = true then 1 else 0) := rfl
      have hw : IntKind.i64.wrap ((k : Int) + 1) = ((k + 1 : Nat) : Int) := wi64_in (by omega) (by omega)
      have hJn : ∀ c : Int, ((cntN (fun k => explD s (sent.getD k (.i 0)) Y) (k + 1) : Nat) : Int) = c → ∀ e0 h0, e0 = [(0, .sl TySite s .no), (5, .cptr T29 Y), (7, .int .i64 c), (10, .sl TySeen sent .no), (11, .int .i64 sent.length), (12, .int .i64 (IntKind.i64.wrap ((k : Int) + 1)))] → h0 = [] → J e0 h0 := fun c hcc e0 h0 he0 hh0 => by
        refine J_of (hJ (k + 1) (by omega) (by omega)) ?_ hh0
        rw [he0, hw, ← hcc]
      obtain ⟨n, hn9⟩ : ∃ n, cntN (fun k => explD s (sent.getD k (.i 0)) Y) k = n := ⟨_, rfl⟩
      obtain ⟨n', hn9'⟩ : ∃ n, cntN (fun k => explD s (sent.getD k (.i 0)) Y) (k + 1) = n := ⟨_, rfl⟩
      rw [hn9, hn9'] at hcs
      rw [hn9] at hcl
      rw [hn9'] at hJn
      rw [hn9]
      have hck := hc1 k
      obtain ⟨d, hd⟩ : ∃ d, sent.getD k (.i 0) = d := ⟨_, rfl⟩
      rw [hd] at hcs hck
      clear hJ
      have hwn : IntKind.i64.wrap ((n : Int) + 1) = ((n + 1 : Nat) : Int) := wi64_in (by omega) (by omega)
      cases hx : explD s d Y
      · rw [hx, if_neg (by decide)] at hcs
        have hx' : explB s (d.fld 0).int (d.fld 1).int (d.fld 2).int (d.fld 3).list (Y.fld 0).int (Y.fld 1).int (Y.fld 2).int (Y.fld 3).list = false := hx
        have hj := hJn n (by rw [hcs]; rfl)
        clear hJn
        repeat' (first | (with_reducible first | refine st_seq (fun K' hn he hr => ?_) | refine st_block (fun K' hn he hr => ?_) | refine st_region ?_ | refine st_draw ?_ | refine st_cond ?_ | refine st_loop ?_ | refine st_op (fun G gn => ?_) | refine st_gop ?_ | refine st_dop (fun G gn => ?_) | refine st_gdop ?_ | refine st_tl ?_) | ((conv => whnf); first | (with_reducible first | (refine gn _ _ ?_; clear gn G) | (refine gn _ _ _ _ ?_; clear gn G) | refine Wr.mk ?_ | (refine hn _ _ ?_; clear hn he hr K') | (refine he _ _ _ ?_; clear hn he hr K') | (refine hr _ _ ?_; clear hn he hr K') | refine Bo.yes (by decide) ?_ | refine Bo.no (by decide) ?_ | refine Nd.mk trivial ?_ | refine Nd.mk (by decide) ?_ | refine Nd.mk ?_ ?_ | refine Leaf.mk rfl ?_ | refine Fin.mk ?_ rfl | refine Fin.mk ?_ ?_) | ((with_reducible refine Eqn.mk (fun hq => ?_) ?_) <;> try contradiction) | ((with_reducible refine Bo.gen (fun c hb => ?_)) <;> (try simp only [Nat.reduceAdd, Int.reduceToNat, toD, toDs, bl0] at hb) <;> (try simp only [↓reduceIte, reduceCtorEq, Int.reduceEq, Int.reduceLT, Int.reduceLE, eqA, eqAs, cmpI, bl1, toD, toDs, bl0, Int.toNat_natCast, hlt', hd, hx'] at hb) <;> first | (obtain rfl : c = true := hb) | (obtain rfl : c = false := hb) | skip) | ((with_reducible refine Br.cs (fun hq => ?_) (fun hq => ?_)) <;> (try simp only [↓reduceIte, reduceCtorEq, Int.reduceEq, Int.reduceLT, Int.reduceLE, eqA, eqAs, cmpI, bl1, toD, toDs, bl0, Int.toNat_natCast, hlt', hd, hx'] at hq) <;> first | contradiction | subst hq | skip) | ((with_reducible refine Nx.mk ?_ ?_ ?_ ?_) <;> try rfl)))
        any_goals first | omega | exact ⟨by subst hd; exact hck, hc3⟩ | exact hj _ _ rfl rfl
      · rw [hx, if_pos rfl] at hcs
        have hx' : explB s (d.fld 0).int (d.fld 1).int (d.fld 2).int (d.fld 3).list (Y.fld 0).int (Y.fld 1).int (Y.fld 2).int (Y.fld 3).list = true := hx
        have hj := hJn (IntKind.i64.wrap ((n : Int) + 1)) (by rw [hwn, hcs])
        clear hJn
        repeat' (first | (with_reducible first | refine st_seq (fun K' hn he hr => ?_) | refine st_block (fun K' hn he hr => ?_) | refine st_region ?_ | refine st_draw ?_ | refine st_cond ?_ | refine st_loop ?_ | refine st_op (fun G gn => ?_) | refine st_gop ?_ | refine st_dop (fun G gn => ?_) | refine st_gdop ?_ | refine st_tl ?_) | ((conv => whnf); first | (with_reducible first | (refine gn _ _ ?_; clear gn G) | (refine gn _ _ _ _ ?_; clear gn G) | refine Wr.mk ?_ | (refine hn _ _ ?_; clear hn he hr K') | (refine he _ _ _ ?_; clear hn he hr K') | (refine hr _ _ ?_; clear hn he hr K') | refine Bo.yes (by decide) ?_ | refine Bo.no (by decide) ?_ | refine Nd.mk trivial ?_ | refine Nd.mk (by decide) ?_ | refine Nd.mk ?_ ?_ | refine Leaf.mk rfl ?_ | refine Fin.mk ?_ rfl | refine Fin.mk ?_ ?_) | ((with_reducible refine Eqn.mk (fun hq => ?_) ?_) <;> try contradiction) | ((with_reducible refine Bo.gen (fun c hb => ?_)) <;> (try simp only [Nat.reduceAdd, Int.reduceToNat, toD, toDs, bl0] at hb) <;> (try simp only [↓reduceIte, reduceCtorEq, Int.reduceEq, Int.reduceLT, Int.reduceLE, eqA, eqAs, cmpI, bl1, toD, toDs, bl0, Int.toNat_natCast, hlt', hd, hx'] at hb) <;> first | (obtain rfl : c = true := hb) | (obtain rfl : c = false := hb) | skip) | ((with_reducible refine Br.cs (fun hq => ?_) (fun hq => ?_)) <;> (try simp only [↓reduceIte, reduceCtorEq, Int.reduceEq, Int.reduceLT, Int.reduceLE, eqA, eqAs, cmpI, bl1, toD, toDs, bl0, Int.toNat_natCast, hlt', hd, hx'] at hq) <;> first | contradiction | subst hq | skip) | ((with_reducible refine Nx.mk ?_ ?_ ?_ ?_) <;> try rfl)))
        any_goals first | omega | exact ⟨by subst hd; exact hck, hc3⟩ | exact hj _ _ rfl rfl
    · have hlt' : ¬ (k : Int) < sent.length := by omega
      have hkl : k = sent.length := by omega
      repeat' (first | (with_reducible first | refine st_seq (fun K' hn he hr => ?_) | refine st_block (fun K' hn he hr => ?_) | refine st_region ?_ | refine st_draw ?_ | refine st_cond ?_ | refine st_loop ?_ | refine st_op (fun G gn => ?_) | refine st_gop ?_ | refine st_dop (fun G gn => ?_) | refine st_gdop ?_ | refine st_tl ?_) | ((conv => whnf); first | (with_reducible first | (refine gn _ _ ?_; clear gn G) | (refine gn _ _ _ _ ?_; clear gn G) | refine Wr.mk ?_ | (refine hn _ _ ?_; clear hn he hr K') | (refine he _ _ _ ?_; clear hn he hr K') | (refine hr _ _ ?_; clear hn he hr K') | refine Bo.yes (by decide) ?_ | refine Bo.no (by decide) ?_ | refine Nd.mk trivial ?_ | refine Nd.mk (by decide) ?_ | refine Nd.mk ?_ ?_ | refine Leaf.mk rfl ?_ | refine Fin.mk ?_ rfl | refine Fin.mk ?_ ?_) | ((with_reducible refine Eqn.mk (fun hq => ?_) ?_) <;> try contradiction) | ((with_reducible refine Bo.gen (fun c hb => ?_)) <;> (try simp only [Nat.reduceAdd, Int.reduceToNat, toD, toDs, bl0] at hb) <;> (try simp only [↓reduceIte, reduceCtorEq, Int.reduceEq, Int.reduceLT, Int.reduceLE, eqA, eqAs, cmpI, bl1, toD, toDs, bl0, hlt'] at hb) <;> first | (obtain rfl : c = true := hb) | (obtain rfl : c = false := hb) | skip) | ((with_reducible refine Br.cs (fun hq => ?_) (fun hq => ?_)) <;> (try simp only [↓reduceIte, reduceCtorEq, Int.reduceEq, Int.reduceLT, Int.reduceLE, eqA, eqAs, cmpI, bl1, toD, toDs, bl0, hlt'] at hq) <;> first | contradiction | subst hq | skip) | ((with_reducible refine Nx.mk ?_ ?_ ?_ ?_) <;> try rfl)))
      refine he0 _ _ _ ?_
      clear he0 hn0 hr0 hJ
      repeat' (first | (with_reducible first | refine st_seq (fun K' hn he hr => ?_) | refine st_block (fun K' hn he hr => ?_) | refine st_region ?_ | refine st_draw ?_ | refine st_cond ?_ | refine st_loop ?_ | refine st_op (fun G gn => ?_) | refine st_gop ?_ | refine st_dop (fun G gn => ?_) | refine st_gdop ?_ | refine st_tl ?_) | ((conv => whnf); first | (with_reducible first | (refine gn _ _ ?_; clear gn G) | (refine gn _ _ _ _ ?_; clear gn G) | refine Wr.mk ?_ | (refine hn _ _ ?_; clear hn he hr K') | (refine he _ _ _ ?_; clear hn he hr K') | (refine hr _ _ ?_; clear hn he hr K') | refine Bo.yes (by decide) ?_ | refine Bo.no (by decide) ?_ | refine Nd.mk trivial ?_ | refine Nd.mk (by decide) ?_ | refine Nd.mk ?_ ?_ | refine Leaf.mk rfl ?_ | refine Fin.mk ?_ rfl | refine Fin.mk ?_ ?_) | ((with_reducible refine Eqn.mk (fun hq => ?_) ?_) <;> try contradiction) | ((with_reducible refine Bo.gen (fun c hb => ?_)) <;> (try simp only [Nat.reduceAdd, Int.reduceToNat, toD, toDs, bl0] at hb) <;> (try simp only [↓reduceIte, reduceCtorEq, Int.reduceEq, Int.reduceLT, Int.reduceLE, eqA, eqAs, cmpI, bl1, toD, toDs, bl0] at hb) <;> first | (obtain rfl : c = true := hb) | (obtain rfl : c = false := hb) | skip) | ((with_reducible refine Br.cs (fun hq => ?_) (fun hq => ?_)) <;> (try simp only [↓reduceIte, reduceCtorEq, Int.reduceEq, Int.reduceLT, Int.reduceLE, eqA, eqAs, cmpI, bl1, toD, toDs, bl0] at hq) <;> first | contradiction | subst hq | skip) | ((with_reducible refine Nx.mk ?_ ?_ ?_ ?_) <;> try rfl)))
      rw [hkl]
      rfl
  · trivial
end Go.Vc.Seat
