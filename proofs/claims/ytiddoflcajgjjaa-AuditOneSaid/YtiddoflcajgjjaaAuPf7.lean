/- A part of the proof of the seat's laws: AuPf7. It states no claim by itself. -/
import Derived.Test.YtiddoflcajgjjaaAuPf6
import Derived.Test.YtiddoflcajgjjaaAuPfEth7
set_option linter.unusedVariables false
set_option linter.unusedSimpArgs false
namespace Go.Vc.Seat
open Go.Vc Go.Proofs.Try

theorem frm_chk {v k : Int} (h : 1 ≤ v ∧ v ≤ 4094) : frChk [.i 2, .i 0, .i 0, .i 0, .i 0, .i 9] [.i 2, .i 0, .i 0, .i 0, .i 0, .i 8] true 0 false v [.i 8, .i 0, .i k] = 0 := by
  unfold frChk frOK tagOK
  rw [decide_eq_true h.1, decide_eq_true h.2]
  rfl
theorem pok_l32_frame : POK prog orc f_l32_frame := by
  refine pok_of ok_l32_frame mixed (by simp [ac_l32_frame, acP, callsP, pok_r03_Encode]) (by simp [ac_l32_frame, acS, callsS]) fun args hok => ?_
  show Fits orc nt_l32_frame rs_l32_frame ac_l32_frame args (pFrame32 args)
  unfold ac_l32_frame
  unfold pFrame32
  split
  · rename_i v k
    clear hok
    intro hc
    refine ⟨rfl, ?_⟩
    have hz : isZ (frChk [.i 2, .i 0, .i 0, .i 0, .i 0, .i 9] [.i 2, .i 0, .i 0, .i 0, .i 0, .i 8] true 0 false v [.i 8, .i 0, .i k]) = true := by
      rw [frm_chk hc]
      rfl
    repeat' (first | (with_reducible first | refine st_seq (fun K' hn he hr => ?_) | refine st_block (fun K' hn he hr => ?_) | refine st_region ?_ | refine st_draw ?_ | refine st_cond ?_ | refine st_loop ?_ | refine st_op (fun G gn => ?_) | refine st_gop ?_ | refine st_dop (fun G gn => ?_) | refine st_gdop ?_ | refine st_tl ?_) | ((conv => whnf); first | (with_reducible first | (refine gn _ _ ?_; clear gn G) | (refine gn _ _ _ _ ?_; clear gn G) | refine Wr.mk ?_ | (refine hn _ _ ?_; clear hn he hr K') | (refine he _ _ _ ?_; clear hn he hr K') | (refine hr _ _ ?_; clear hn he hr K') | refine Bo.yes (by decide) ?_ | refine Bo.no (by decide) ?_ | refine Nd.mk trivial ?_ | refine Nd.mk (by decide) ?_ | refine Nd.mk ?_ ?_ | refine Leaf.mk rfl ?_ | refine Fin.mk ?_ rfl | refine Fin.mk ?_ ?_) | ((with_reducible refine Eqn.mk (fun hq => ?_) ?_) <;> try contradiction) | ((with_reducible refine Bo.gen (fun c hb => ?_)) <;> (try simp only [Nat.reduceAdd, Int.reduceToNat, toD, toDs, bl0] at hb) <;> (try simp only [↓reduceIte, reduceCtorEq, Int.reduceEq, Int.reduceLT, Int.reduceLE, eqA, eqAs, cmpI, bl1, toD, toDs, bl0, hz] at hb) <;> first | (obtain rfl : c = true := hb) | (obtain rfl : c = false := hb) | skip) | ((with_reducible refine Br.cs (fun hq => ?_) (fun hq => ?_)) <;> (try simp only [↓reduceIte, reduceCtorEq, Int.reduceEq, Int.reduceLT, Int.reduceLE, eqA, eqAs, cmpI, bl1, toD, toDs, bl0, hz] at hq) <;> first | contradiction | subst hq | skip) | ((with_reducible refine Nx.mk ?_ ?_ ?_ ?_) <;> try rfl)))
    all_goals first | rfl | exact absurd (hz.symm.trans hq) (by decide)
  · trivial
end Go.Vc.Seat
