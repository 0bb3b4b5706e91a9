/- A part of the proof of the seat's laws: AuPfEth5. It states no claim by itself. -/
import Derived.Test.YtiddoflcajgjjaaAuPfEth4
set_option linter.unusedVariables false
set_option linter.unusedSimpArgs false
namespace Go.Vc.Seat
open Go.Vc Go.Proofs.Try
theorem sameFr_eq (da sa : List D) (t : Bool) (p : Int) (d : Bool) (v : Int) (rest da' sa' : List D) (t' : Bool) (p' : Int) (d' : Bool) (v' : Int) (rest' : List D) :
    sameFr da sa t p d v rest da' sa' t' p' d' v' rest' = (eqDn (eqD (.int .u8)) 6 da da' && eqDn (eqD (.int .u8)) 6 sa sa' && (t == t') && (decide (p = p') && ((d == d') && decide (v = v'))) && sameB rest rest') := rfl
set_option maxRecDepth 20000 in
set_option maxHeartbeats 4000000 in
theorem pok_ether_Same : POK prog orc f_ether_Same := by
  refine pok_of ok_ether_Same mixed (by simp [ac_ether_Same, acP, callsP, pok_slices_Equal_u8]) (by simp [ac_ether_Same, acS, callsS]) fun args hok => ?_
  show Fits orc nt_ether_Same rs_ether_Same ac_ether_Same args (pFrSame args)
  unfold ac_ether_Same
  unfold pFrSame
  split
  · rename_i da sa t p d v rest da' sa' t' p' d' v' rest'
    obtain ⟨X, hX, e0, e1, e2, e3, e4, e5, e6⟩ := frX da sa t p d v rest
    obtain ⟨Y, hY, g0, g1, g2, g3, g4, g5, g6⟩ := frX da' sa' t' p' d' v' rest'
    refine ⟨rfl, ?_⟩
    clear hok
    refine st_seq (fun K1 hn1 he1 hr1 => ?_)
    repeat' (first | (with_reducible first | refine st_seq (fun K' hn he hr => ?_) | refine st_block (fun K' hn he hr => ?_) | refine st_region ?_ | refine st_draw ?_ | refine st_cond ?_ | refine st_loop ?_ | refine st_op (fun G gn => ?_) | refine st_gop ?_ | refine st_dop (fun G gn => ?_) | refine st_gdop ?_ | refine st_tl ?_) | ((conv => whnf); first | (with_reducible first | (refine gn _ _ ?_; clear gn G) | (refine gn _ _ _ _ ?_; clear gn G) | refine Wr.mk ?_ | (refine hn _ _ ?_; clear hn he hr K') | (refine he _ _ _ ?_; clear hn he hr K') | (refine hr _ _ ?_; clear hn he hr K') | refine Bo.yes (by decide) ?_ | refine Bo.no (by decide) ?_ | refine Nd.mk trivial ?_ | refine Nd.mk (by decide) ?_ | refine Nd.mk ?_ ?_ | refine Leaf.mk rfl ?_ | refine Fin.mk ?_ rfl | refine Fin.mk ?_ ?_) | ((with_reducible refine Eqn.mk (fun hq => ?_) ?_) <;> try contradiction) | ((with_reducible refine Bo.gen (fun c hb => ?_)) <;> (try simp only [Nat.reduceAdd, Int.reduceToNat, toD, toDs, bl0] at hb) <;> (try simp only [↓reduceIte, reduceCtorEq, Int.reduceEq, Int.reduceLT, Int.reduceLE, eqA, eqAs, cmpI, bl1, toD, toDs, bl0] at hb) <;> first | (obtain rfl : c = true := hb) | (obtain rfl : c = false := hb) | skip) | ((with_reducible refine Br.cs (fun hq => ?_) (fun hq => ?_)) <;> (try simp only [↓reduceIte, reduceCtorEq, Int.reduceEq, Int.reduceLT, Int.reduceLE, eqA, eqAs, cmpI, bl1, toD, toDs, bl0] at hq) <;> first | contradiction | subst hq | skip) | ((with_reducible refine Nx.mk ?_ ?_ ?_ ?_) <;> try rfl)))
    refine hn1 _ _ ?_
    clear hn1 he1 hr1 K1
    rw [hX, hY]
    clear hX hY
    repeat' (first | (with_reducible first | refine st_seq (fun K' hn he hr => ?_) | refine st_block (fun K' hn he hr => ?_) | refine st_region ?_ | refine st_draw ?_ | refine st_cond ?_ | refine st_loop ?_ | refine st_op (fun G gn => ?_) | refine st_gop ?_ | refine st_dop (fun G gn => ?_) | refine st_gdop ?_ | refine st_tl ?_) | ((conv => whnf); first | (with_reducible first | (refine gn _ _ ?_; clear gn G) | (refine gn _ _ _ _ ?_; clear gn G) | refine Wr.mk ?_ | (refine hn _ _ ?_; clear hn he hr K') | (refine he _ _ _ ?_; clear hn he hr K') | (refine hr _ _ ?_; clear hn he hr K') | refine Bo.yes (by decide) ?_ | refine Bo.no (by decide) ?_ | refine Nd.mk trivial ?_ | refine Nd.mk (by decide) ?_ | refine Nd.mk ?_ ?_ | refine Leaf.mk rfl ?_ | refine Fin.mk ?_ rfl | refine Fin.mk ?_ ?_) | ((with_reducible refine Eqn.mk (fun hq => ?_) ?_) <;> try contradiction) | ((with_reducible refine Bo.gen (fun c hb => ?_)) <;> (try simp only [Nat.reduceAdd, Int.reduceToNat, toD, toDs, bl0] at hb) <;> (try simp only [↓reduceIte, reduceCtorEq, Int.reduceEq, Int.reduceLT, Int.reduceLE, eqA, eqAs, cmpI, bl1, toD, toDs, bl0, e0, e1, e2, e3, e4, e5, e6, g0, g1, g2, g3, g4, g5, g6] at hb) <;> first | (obtain rfl : c = true := hb) | (obtain rfl : c = false := hb) | skip) | ((with_reducible refine Br.cs (fun hq => ?_) (fun hq => ?_)) <;> (try simp only [↓reduceIte, reduceCtorEq, Int.reduceEq, Int.reduceLT, Int.reduceLE, eqA, eqAs, cmpI, bl1, toD, toDs, bl0, e0, e1, e2, e3, e4, e5, e6, g0, g1, g2, g3, g4, g5, g6] at hq) <;> first | contradiction | subst hq | skip) | ((with_reducible refine Nx.mk ?_ ?_ ?_ ?_) <;> try rfl)))
    all_goals (refine congrArg AV.bool ?_; rw [sameFr_eq])
    all_goals first | (simp_all; done) | (simp_all [sameB]; done)
  · trivial
theorem min_take (n : Nat) (xs : List D) : List.take ((if (n : Int) < xs.length then (n : Int) else xs.length).toNat - Int.toNat 0) (List.drop (Int.toNat 0) xs) = xs.take n := by
  show List.take (_ - 0) (List.drop 0 xs) = xs.take n
  rw [Nat.sub_zero, List.drop_zero]
  split
  · simp
  · rw [List.take_of_length_le (by simp), List.take_of_length_le (by omega)]
end Go.Vc.Seat
