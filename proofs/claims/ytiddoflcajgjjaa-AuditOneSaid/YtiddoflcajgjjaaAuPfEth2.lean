/- A part of the proof of the seat's laws: AuPfEth2. It states no claim by itself. -/
import Derived.Test.YtiddoflcajgjjaaAuPfEth1b
import Derived.Test.YtiddoflcajgjjaaAuPfEth1c
set_option linter.unusedVariables false
set_option linter.unusedSimpArgs false
namespace Go.Vc.Seat
open Go.Vc Go.Proofs.Try
theorem z0 : ((zeroD TTag).fld 0).int = 0 := rfl
theorem z1 : ((zeroD TTag).fld 1).bool = false := rfl
theorem z2 : ((zeroD TTag).fld 2).int = 0 := rfl
theorem chk_long {da sa : List D} {t : Bool} {p : Int} {d : Bool} {v : Int} {rest : List D} (h : 1502 < (rest.length : Int)) : frChk da sa t p d v rest = 2 := by
  unfold frChk; rw [if_pos (by omega)]
theorem chk_not {da sa : List D} {t : Bool} {p : Int} {d : Bool} {v : Int} {rest : List D} (h : ¬ 1502 < (rest.length : Int)) (g : frOK da sa t p d v rest = false) : frChk da sa t p d v rest = 30 := by
  unfold frChk; rw [if_neg (by omega), g]; rfl
theorem chk_ok {da sa : List D} {t : Bool} {p : Int} {d : Bool} {v : Int} {rest : List D} (h : ¬ 1502 < (rest.length : Int)) (g : frOK da sa t p d v rest = true) : frChk da sa t p d v rest = 0 := by
  unfold frChk; rw [if_neg (by omega), g]; rfl
theorem frOK_iff {da sa : List D} {t : Bool} {p : Int} {d : Bool} {v : Int} {rest : List D} : frOK da sa t p d v rest = true ↔ macKind sa = 1 ∧ macKind da ≠ 6 ∧ 2 ≤ rest.length ∧ (if t then tagOK p v = true else (p = 0 ∧ d = false ∧ v = 0 ∧ marked rest = false)) := by
  unfold frOK
  cases t <;> simp [and_assoc]
theorem frX (da sa : List D) (t : Bool) (p : Int) (d : Bool) (v : Int) (rest : List D) : ∃ X, toD (frA da sa t p d v rest .no) = X ∧ (X.fld 0).fs = da ∧ (X.fld 1).fs = sa ∧ (X.fld 2).bool = t ∧ ((X.fld 3).fld 0).int = p ∧ ((X.fld 3).fld 1).bool = d ∧ ((X.fld 3).fld 2).int = v ∧ (X.fld 4).list = rest :=
  ⟨_, rfl, rfl, rfl, rfl, rfl, rfl, rfl, rfl⟩
set_option maxRecDepth 20000 in
set_option maxHeartbeats 8000000 in
theorem pok_r03_Check : POK prog orc f_r03_Check := by
  refine pok_of ok_r03_Check mixed (by simp [ac_r03_Check, acP, callsP, pok_r01_Kind, pok_r02_Check, pok_r03_tagged]) (by simp [ac_r03_Check, acS, callsS]) fun args hok => ?_
  show Fits orc nt_r03_Check rs_r03_Check ac_r03_Check args (pFrCheck args)
  unfold ac_r03_Check
  unfold pFrCheck
  split
  · rename_i da sa t p d v rest
    obtain ⟨X, hX, e0, e1, e2, e3, e4, e5, e6⟩ := frX da sa t p d v rest
    refine ⟨rfl, ?_⟩
    clear hok
    obtain ⟨w1, h1⟩ : ∃ b, tagOK p v = b := ⟨_, rfl⟩
    obtain ⟨w2, h2⟩ : ∃ b, marked rest = b := ⟨_, rfl⟩
    cases t
    · cases d
      · cases w2
        all_goals refine st_seq (fun K1 hn1 he1 hr1 => ?_)
        all_goals repeat' (first | (with_reducible first | refine st_seq (fun K' hn he hr => ?_) | refine st_block (fun K' hn he hr => ?_) | refine st_region ?_ | refine st_draw ?_ | refine st_cond ?_ | refine st_loop ?_ | refine st_op (fun G gn => ?_) | refine st_gop ?_ | refine st_dop (fun G gn => ?_) | refine st_gdop ?_ | refine st_tl ?_) | ((conv => whnf); first | (with_reducible first | (refine gn _ _ ?_; clear gn G) | (refine gn _ _ _ _ ?_; clear gn G) | refine Wr.mk ?_ | (refine hn _ _ ?_; clear hn he hr K') | (refine he _ _ _ ?_; clear hn he hr K') | (refine hr _ _ ?_; clear hn he hr K') | refine Bo.yes (by decide) ?_ | refine Bo.no (by decide) ?_ | refine Nd.mk trivial ?_ | refine Nd.mk (by decide) ?_ | refine Nd.mk ?_ ?_ | refine Leaf.mk rfl ?_ | refine Fin.mk ?_ rfl | refine Fin.mk ?_ ?_) | ((with_reducible refine Eqn.mk (fun hq => ?_) ?_) <;> try contradiction) | ((with_reducible refine Bo.gen (fun c hb => ?_)) <;> (try simp only [Nat.reduceAdd, Int.reduceToNat, toD, toDs, bl0] at hb) <;> (try simp only [↓reduceIte, reduceCtorEq, Int.reduceEq, Int.reduceLT, Int.reduceLE, eqA, eqAs, cmpI, bl1, toD, toDs, bl0] at hb) <;> first | (obtain rfl : c = true := hb) | (obtain rfl : c = false := hb) | skip) | ((with_reducible refine Br.cs (fun hq => ?_) (fun hq => ?_)) <;> (try simp only [↓reduceIte, reduceCtorEq, Int.reduceEq, Int.reduceLT, Int.reduceLE, eqA, eqAs, cmpI, bl1, toD, toDs, bl0] at hq) <;> first | contradiction | subst hq | skip) | ((with_reducible refine Nx.mk ?_ ?_ ?_ ?_) <;> try rfl)))
        all_goals refine hn1 _ _ ?_
        all_goals clear hn1 he1 hr1 K1
        all_goals rw [hX]
        all_goals clear hX
        all_goals repeat' (first | (with_reducible first | refine st_seq (fun K' hn he hr => ?_) | refine st_block (fun K' hn he hr => ?_) | refine st_region ?_ | refine st_draw ?_ | refine st_cond ?_ | refine st_loop ?_ | refine st_op (fun G gn => ?_) | refine st_gop ?_ | refine st_dop (fun G gn => ?_) | refine st_gdop ?_ | refine st_tl ?_) | ((conv => whnf); first | (with_reducible first | (refine gn _ _ ?_; clear gn G) | (refine gn _ _ _ _ ?_; clear gn G) | refine Wr.mk ?_ | (refine hn _ _ ?_; clear hn he hr K') | (refine he _ _ _ ?_; clear hn he hr K') | (refine hr _ _ ?_; clear hn he hr K') | refine Bo.yes (by decide) ?_ | refine Bo.no (by decide) ?_ | refine Nd.mk trivial ?_ | refine Nd.mk (by decide) ?_ | refine Nd.mk ?_ ?_ | refine Leaf.mk rfl ?_ | refine Fin.mk ?_ rfl | refine Fin.mk ?_ ?_) | ((with_reducible refine Eqn.mk (fun hq => ?_) ?_) <;> try contradiction) | ((with_reducible refine Bo.gen (fun c hb => ?_)) <;> (try simp only [Nat.reduceAdd, Int.reduceToNat, toD, toDs, bl0] at hb) <;> (try simp only [↓reduceIte, reduceCtorEq, Int.reduceEq, Int.reduceLT, Int.reduceLE, eqA, eqAs, cmpI, bl1, toD, toDs, bl0, e0, e1, e2, e3, e4, e5, e6, h1, h2, z0, z1, z2, ctd, cfd, Bool.not_false, Bool.not_true] at hb) <;> first | (obtain rfl : c = true := hb) | (obtain rfl : c = false := hb) | skip) | ((with_reducible refine Br.cs (fun hq => ?_) (fun hq => ?_)) <;> (try simp only [↓reduceIte, reduceCtorEq, Int.reduceEq, Int.reduceLT, Int.reduceLE, eqA, eqAs, cmpI, bl1, toD, toDs, bl0, e0, e1, e2, e3, e4, e5, e6, h1, h2, z0, z1, z2, ctd, cfd, Bool.not_false, Bool.not_true] at hq) <;> first | contradiction | subst hq | skip) | ((with_reducible refine Nx.mk ?_ ?_ ?_ ?_) <;> try rfl)))
        all_goals simp only [ct_not, cf_not, ctd, cfd, dtd, dfd, ct_and, cf_and] at *
        all_goals first
          | (rw [e6]; omega)
          | (refine congrArg (AV.int .i64) ?_; first
              | (rw [chk_long (by assumption)]; done)
              | (rw [chk_ok (by assumption) (frOK_iff.2 ⟨by assumption, by assumption, by omega, by first | exact h1 | (simp only [Bool.false_eq_true, if_false]; simp_all)⟩)]; done)
              | (rw [chk_not (by assumption) (by rw [← Bool.not_eq_true, frOK_iff]; rintro ⟨g1, g2, g3, g4⟩; first | omega | contradiction | (simp_all; done))]; done))
      · skip
        all_goals refine st_seq (fun K1 hn1 he1 hr1 => ?_)
        all_goals repeat' (first | (with_reducible first | refine st_seq (fun K' hn he hr => ?_) | refine st_block (fun K' hn he hr => ?_) | refine st_region ?_ | refine st_draw ?_ | refine st_cond ?_ | refine st_loop ?_ | refine st_op (fun G gn => ?_) | refine st_gop ?_ | refine st_dop (fun G gn => ?_) | refine st_gdop ?_ | refine st_tl ?_) | ((conv => whnf); first | (with_reducible first | (refine gn _ _ ?_; clear gn G) | (refine gn _ _ _ _ ?_; clear gn G) | refine Wr.mk ?_ | (refine hn _ _ ?_; clear hn he hr K') | (refine he _ _ _ ?_; clear hn he hr K') | (refine hr _ _ ?_; clear hn he hr K') | refine Bo.yes (by decide) ?_ | refine Bo.no (by decide) ?_ | refine Nd.mk trivial ?_ | refine Nd.mk (by decide) ?_ | refine Nd.mk ?_ ?_ | refine Leaf.mk rfl ?_ | refine Fin.mk ?_ rfl | refine Fin.mk ?_ ?_) | ((with_reducible refine Eqn.mk (fun hq => ?_) ?_) <;> try contradiction) | ((with_reducible refine Bo.gen (fun c hb => ?_)) <;> (try simp only [Nat.reduceAdd, Int.reduceToNat, toD, toDs, bl0] at hb) <;> (try simp only [↓reduceIte, reduceCtorEq, Int.reduceEq, Int.reduceLT, Int.reduceLE, eqA, eqAs, cmpI, bl1, toD, toDs, bl0] at hb) <;> first | (obtain rfl : c = true := hb) | (obtain rfl : c = false := hb) | skip) | ((with_reducible refine Br.cs (fun hq => ?_) (fun hq => ?_)) <;> (try simp only [↓reduceIte, reduceCtorEq, Int.reduceEq, Int.reduceLT, Int.reduceLE, eqA, eqAs, cmpI, bl1, toD, toDs, bl0] at hq) <;> first | contradiction | subst hq | skip) | ((with_reducible refine Nx.mk ?_ ?_ ?_ ?_) <;> try rfl)))
        all_goals refine hn1 _ _ ?_
        all_goals clear hn1 he1 hr1 K1
        all_goals rw [hX]
        all_goals clear hX
        all_goals repeat' (first | (with_reducible first | refine st_seq (fun K' hn he hr => ?_) | refine st_block (fun K' hn he hr => ?_) | refine st_region ?_ | refine st_draw ?_ | refine st_cond ?_ | refine st_loop ?_ | refine st_op (fun G gn => ?_) | refine st_gop ?_ | refine st_dop (fun G gn => ?_) | refine st_gdop ?_ | refine st_tl ?_) | ((conv => whnf); first | (with_reducible first | (refine gn _ _ ?_; clear gn G) | (refine gn _ _ _ _ ?_; clear gn G) | refine Wr.mk ?_ | (refine hn _ _ ?_; clear hn he hr K') | (refine he _ _ _ ?_; clear hn he hr K') | (refine hr _ _ ?_; clear hn he hr K') | refine Bo.yes (by decide) ?_ | refine Bo.no (by decide) ?_ | refine Nd.mk trivial ?_ | refine Nd.mk (by decide) ?_ | refine Nd.mk ?_ ?_ | refine Leaf.mk rfl ?_ | refine Fin.mk ?_ rfl | refine Fin.mk ?_ ?_) | ((with_reducible refine Eqn.mk (fun hq => ?_) ?_) <;> try contradiction) | ((with_reducible refine Bo.gen (fun c hb => ?_)) <;> (try simp only [Nat.reduceAdd, Int.reduceToNat, toD, toDs, bl0] at hb) <;> (try simp only [↓reduceIte, reduceCtorEq, Int.reduceEq, Int.reduceLT, Int.reduceLE, eqA, eqAs, cmpI, bl1, toD, toDs, bl0, e0, e1, e2, e3, e4, e5, e6, h1, h2, z0, z1, z2, ctd, cfd, Bool.not_false, Bool.not_true] at hb) <;> first | (obtain rfl : c = true := hb) | (obtain rfl : c = false := hb) | skip) | ((with_reducible refine Br.cs (fun hq => ?_) (fun hq => ?_)) <;> (try simp only [↓reduceIte, reduceCtorEq, Int.reduceEq, Int.reduceLT, Int.reduceLE, eqA, eqAs, cmpI, bl1, toD, toDs, bl0, e0, e1, e2, e3, e4, e5, e6, h1, h2, z0, z1, z2, ctd, cfd, Bool.not_false, Bool.not_true] at hq) <;> first | contradiction | subst hq | skip) | ((with_reducible refine Nx.mk ?_ ?_ ?_ ?_) <;> try rfl)))
        all_goals simp only [ct_not, cf_not, ctd, cfd, dtd, dfd, ct_and, cf_and] at *
        all_goals first
          | (rw [e6]; omega)
          | (refine congrArg (AV.int .i64) ?_; first
              | (rw [chk_long (by assumption)]; done)
              | (rw [chk_ok (by assumption) (frOK_iff.2 ⟨by assumption, by assumption, by omega, by first | exact h1 | (simp only [Bool.false_eq_true, if_false]; simp_all)⟩)]; done)
              | (rw [chk_not (by assumption) (by rw [← Bool.not_eq_true, frOK_iff]; rintro ⟨g1, g2, g3, g4⟩; first | omega | contradiction | (simp_all; done))]; done))
    · cases w1
      all_goals refine st_seq (fun K1 hn1 he1 hr1 => ?_)
      all_goals repeat' (first | (with_reducible first | refine st_seq (fun K' hn he hr => ?_) | refine st_block (fun K' hn he hr => ?_) | refine st_region ?_ | refine st_draw ?_ | refine st_cond ?_ | refine st_loop ?_ | refine st_op (fun G gn => ?_) | refine st_gop ?_ | refine st_dop (fun G gn => ?_) | refine st_gdop ?_ | refine st_tl ?_) | ((conv => whnf); first | (with_reducible first | (refine gn _ _ ?_; clear gn G) | (refine gn _ _ _ _ ?_; clear gn G) | refine Wr.mk ?_ | (refine hn _ _ ?_; clear hn he hr K') | (refine he _ _ _ ?_; clear hn he hr K') | (refine hr _ _ ?_; clear hn he hr K') | refine Bo.yes (by decide) ?_ | refine Bo.no (by decide) ?_ | refine Nd.mk trivial ?_ | refine Nd.mk (by decide) ?_ | refine Nd.mk ?_ ?_ | refine Leaf.mk rfl ?_ | refine Fin.mk ?_ rfl | refine Fin.mk ?_ ?_) | ((with_reducible refine Eqn.mk (fun hq => ?_) ?_) <;> try contradiction) | ((with_reducible refine Bo.gen (fun c hb => ?_)) <;> (try simp only [Nat.reduceAdd, Int.reduceToNat, toD, toDs, bl0] at hb) <;> (try simp only [↓reduceIte, reduceCtorEq, Int.reduceEq, Int.reduceLT, Int.reduceLE, eqA, eqAs, cmpI, bl1, toD, toDs, bl0] at hb) <;> first | (obtain rfl : c = true := hb) | (obtain rfl : c = false := hb) | skip) | ((with_reducible refine Br.cs (fun hq => ?_) (fun hq => ?_)) <;> (try simp only [↓reduceIte, reduceCtorEq, Int.reduceEq, Int.reduceLT, Int.reduceLE, eqA, eqAs, cmpI, bl1, toD, toDs, bl0] at hq) <;> first | contradiction | subst hq | skip) | ((with_reducible refine Nx.mk ?_ ?_ ?_ ?_) <;> try rfl)))
      all_goals refine hn1 _ _ ?_
      all_goals clear hn1 he1 hr1 K1
      all_goals rw [hX]
      all_goals clear hX
      all_goals repeat' (first | (with_reducible first | refine st_seq (fun K' hn he hr => ?_) | refine st_block (fun K' hn he hr => ?_) | refine st_region ?_ | refine st_draw ?_ | refine st_cond ?_ | refine st_loop ?_ | refine st_op (fun G gn => ?_) | refine st_gop ?_ | refine st_dop (fun G gn => ?_) | refine st_gdop ?_ | refine st_tl ?_) | ((conv => whnf); first | (with_reducible first | (refine gn _ _ ?_; clear gn G) | (refine gn _ _ _ _ ?_; clear gn G) | refine Wr.mk ?_ | (refine hn _ _ ?_; clear hn he hr K') | (refine he _ _ _ ?_; clear hn he hr K') | (refine hr _ _ ?_; clear hn he hr K') | refine Bo.yes (by decide) ?_ | refine Bo.no (by decide) ?_ | refine Nd.mk trivial ?_ | refine Nd.mk (by decide) ?_ | refine Nd.mk ?_ ?_ | refine Leaf.mk rfl ?_ | refine Fin.mk ?_ rfl | refine Fin.mk ?_ ?_) | ((with_reducible refine Eqn.mk (fun hq => ?_) ?_) <;> try contradiction) | ((with_reducible refine Bo.gen (fun c hb => ?_)) <;> (try simp only [Nat.reduceAdd, Int.reduceToNat, toD, toDs, bl0] at hb) <;> (try simp only [↓reduceIte, reduceCtorEq, Int.reduceEq, Int.reduceLT, Int.reduceLE, eqA, eqAs, cmpI, bl1, toD, toDs, bl0, e0, e1, e2, e3, e4, e5, e6, h1, h2, z0, z1, z2, ctd, cfd, Bool.not_false, Bool.not_true] at hb) <;> first | (obtain rfl : c = true := hb) | (obtain rfl : c = false := hb) | skip) | ((with_reducible refine Br.cs (fun hq => ?_) (fun hq => ?_)) <;> (try simp only [↓reduceIte, reduceCtorEq, Int.reduceEq, Int.reduceLT, Int.reduceLE, eqA, eqAs, cmpI, bl1, toD, toDs, bl0, e0, e1, e2, e3, e4, e5, e6, h1, h2, z0, z1, z2, ctd, cfd, Bool.not_false, Bool.not_true] at hq) <;> first | contradiction | subst hq | skip) | ((with_reducible refine Nx.mk ?_ ?_ ?_ ?_) <;> try rfl)))
      all_goals simp only [ct_not, cf_not, ctd, cfd, dtd, dfd, ct_and, cf_and] at *
      all_goals first
        | (rw [e6]; omega)
        | (refine congrArg (AV.int .i64) ?_; first
            | (rw [chk_long (by assumption)]; done)
            | (rw [chk_ok (by assumption) (frOK_iff.2 ⟨by assumption, by assumption, by omega, by first | exact h1 | (simp only [Bool.false_eq_true, if_false]; simp_all)⟩)]; done)
            | (rw [chk_not (by assumption) (by rw [← Bool.not_eq_true, frOK_iff]; rintro ⟨g1, g2, g3, g4⟩; first | omega | contradiction | (simp_all; done))]; done))
  · trivial
end Go.Vc.Seat
