/- A part of the proof of the seat's laws: AuPfEth1b. It states no claim by itself. -/
import Derived.Test.YtiddoflcajgjjaaAuPfEth1
set_option linter.unusedVariables false
set_option linter.unusedSimpArgs false
namespace Go.Vc.Seat
open Go.Vc Go.Proofs.Try
def pre5 (m : List D) : Bool := decide (ato m 0 = 1 ∧ ato m 1 = 128 ∧ ato m 2 = 194 ∧ ato m 3 = 0 ∧ ato m 4 = 0)
def pre3 (m : List D) : Bool := decide (ato m 0 = 1 ∧ ato m 1 = 30 ∧ ato m 2 = 131)
theorem bt {a b : Bool} (h : (true = a) = (true = b)) : a = b := by cases a <;> cases b <;> simp_all
theorem k0 (m : List D) : eqDn (eqD (.int .u8)) 6 m (setPartsD (List.replicate 6 (zeroD (.int .u8))) []) = all6 m 0 := bt (by rw [eq6t, all6, ctd]; rfl)
theorem k1 (m : List D) : eqDn (eqD (.int .u8)) 6 m (setPartsD (List.replicate 6 (zeroD (.int .u8))) [(0, .int .u8 255), (1, .int .u8 255), (2, .int .u8 255), (3, .int .u8 255), (4, .int .u8 255), (5, .int .u8 255)]) = all6 m 255 := bt (by rw [eq6t, all6, ctd]; rfl)
theorem k2 (m : List D) (h : m.length = 6) : eqDn (eqD (.int .u8)) 5 (m.take 5) (setPartsD (List.replicate 5 (zeroD (.int .u8))) [(0, .int .u8 1), (1, .int .u8 128), (2, .int .u8 194), (3, .int .u8 0), (4, .int .u8 0)]) = pre5 m := bt (by
  rw [eq5t, pre5, ctd]
  match m, h with
  | [x0, x1, x2, x3, x4, x5], _ => rfl)
theorem k3 (m : List D) (h : m.length = 6) : eqDn (eqD (.int .u8)) 3 (m.take 3) (setPartsD (List.replicate 3 (zeroD (.int .u8))) [(0, .int .u8 1), (1, .int .u8 30), (2, .int .u8 131)]) = pre3 m := bt (by
  rw [eq3t, pre3, ctd]
  match m, h with
  | [x0, x1, x2, x3, x4, x5], _ => rfl)
set_option maxRecDepth 20000 in
set_option maxHeartbeats 4000000 in
theorem pok_mac_Kind : POK prog orc f_mac_Kind := by
  refine pok_of ok_mac_Kind mixed (by simp [ac_mac_Kind, acP, callsP, pok_mac_Many]) (by simp [ac_mac_Kind, acS, callsS]) fun args hok => ?_
  show Fits orc nt_mac_Kind rs_mac_Kind ac_mac_Kind args (pKind args)
  unfold ac_mac_Kind
  unfold pKind
  split
  · rename_i m
    simp only [okAs, okA, maxLen] at hok
    obtain ⟨⟨hl, hm⟩, _⟩ := hok
    have q2 := k2 m hl
    have q3 := k3 m hl
    have f5 : ato m 5 = (m.getD 5 (.i 0)).int := rfl
    refine ⟨rfl, ?_⟩
    repeat' (first | (with_reducible first | refine st_seq (fun K' hn he hr => ?_) | refine st_block (fun K' hn he hr => ?_) | refine st_region ?_ | refine st_draw ?_ | refine st_cond ?_ | refine st_loop ?_ | refine st_op (fun G gn => ?_) | refine st_gop ?_ | refine st_dop (fun G gn => ?_) | refine st_gdop ?_ | refine st_tl ?_) | ((conv => whnf); first | (with_reducible first | (refine gn _ _ ?_; clear gn G) | (refine gn _ _ _ _ ?_; clear gn G) | refine Wr.mk ?_ | (refine hn _ _ ?_; clear hn he hr K') | (refine he _ _ _ ?_; clear hn he hr K') | (refine hr _ _ ?_; clear hn he hr K') | refine Bo.yes (by decide) ?_ | refine Bo.no (by decide) ?_ | refine Nd.mk trivial ?_ | refine Nd.mk (by decide) ?_ | refine Nd.mk ?_ ?_ | refine Leaf.mk rfl ?_ | refine Fin.mk ?_ rfl | refine Fin.mk ?_ ?_) | ((with_reducible refine Eqn.mk (fun hq => ?_) ?_) <;> try contradiction) | ((with_reducible refine Bo.gen (fun c hb => ?_)) <;> (try simp only [Nat.reduceAdd, Int.reduceToNat, toD, toDs, bl0] at hb) <;> (try simp only [↓reduceIte, reduceCtorEq, Int.reduceEq, Int.reduceLT, Int.reduceLE, eqA, eqAs, cmpI, bl1, toD, toDs, bl0, evps, Ar.ev, Nat.sub_zero, List.drop_zero, List.take_take, Nat.min_self, k0, k1, q2, q3] at hb) <;> first | (obtain rfl : c = true := hb) | (obtain rfl : c = false := hb) | skip) | ((with_reducible refine Br.cs (fun hq => ?_) (fun hq => ?_)) <;> (try simp only [↓reduceIte, reduceCtorEq, Int.reduceEq, Int.reduceLT, Int.reduceLE, eqA, eqAs, cmpI, bl1, toD, toDs, bl0, evps, Ar.ev, Nat.sub_zero, List.drop_zero, List.take_take, Nat.min_self, k0, k1, q2, q3] at hq) <;> first | contradiction | subst hq | skip) | ((with_reducible refine Nx.mk ?_ ?_ ?_ ?_) <;> try rfl)))
    all_goals first | exact ⟨by simp [toD, dFs, hl], by decide⟩ | skip
    all_goals (clear hm q2 q3; refine congrArg (AV.int .i64) ?_; simp only [all6, pre5, pre3, odd0, ctd, cfd] at *; unfold macKind; repeat' split)
    all_goals first | rfl | (exfalso; omega)
  · trivial
end Go.Vc.Seat
