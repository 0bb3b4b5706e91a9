/- A part of the proof of the seat's laws: AuPf9. It states no claim by itself. -/
import Derived.Test.YtiddoflcajgjjaaAuPf7
import Derived.Test.YtiddoflcajgjjaaAuPf8
set_option linter.unusedVariables false
set_option linter.unusedSimpArgs false
namespace Go.Vc.Seat
open Go.Vc Go.Proofs.Try

theorem few_ok (l : List D) : rowsOK (fewRows l) := by
  intro i
  unfold fewRows lenOK
  by_cases hi : i < ((l.take 12).map seenC).length
  · rw [List.getD_eq_getElem?_getD, List.getElem?_eq_getElem hi, List.getElem_map]
    show (List.take 1600 _).length ≤ _
    rw [List.length_take]
    omega
  · rw [List.getD_eq_getElem?_getD, List.getElem?_eq_none (by omega)]
    exact Nat.zero_le _
theorem few_len (l : List D) : (fewRows l).length ≤ 12 := by
  unfold fewRows
  rw [List.length_map, List.length_take]
  omega
theorem rows0 : rowsOK [] := fun _ => Nat.zero_le _
theorem frm_len (v k : Int) : (frmB v k).length = 19 := rfl
theorem rows1 (a b c v k : Int) : rowsOK [seenD a b c (frmB v k)] := fun i => by
  match i with
  | 0 => exact Nat.le_trans (Nat.le_of_eq (frm_len v k)) (by decide)
  | i + 1 => exact Nat.zero_le _
theorem len1 (v k : Int) : lenOK (frmB v k) := Nat.le_trans (Nat.le_of_eq (frm_len v k)) (by decide)
set_option maxRecDepth 20000 in
set_option maxHeartbeats 8000000 in
theorem pok_l32_awake : POK prog orc f_l32_awake := by
  refine pok_of ok_l32_awake mixed (by simp [ac_l32_awake, acP, callsP, pok_l32_sites, pok_l32_frame, pok_audit_Apart, pok_audit_Often, pok_audit_Reached]) (by simp [ac_l32_awake, acS, callsS]) fun args hok => ?_
  show Fits orc nt_l32_awake rs_l32_awake ac_l32_awake args (pYes32 args)
  unfold ac_l32_awake
  unfold pYes32
  split
  · refine ⟨rfl, ?_⟩
    clear hok
    repeat' (first | (with_reducible first | refine st_seq (fun K' hn he hr => ?_) | refine st_block (fun K' hn he hr => ?_) | refine st_region ?_ | refine st_draw ?_ | refine st_cond ?_ | refine st_loop ?_ | refine st_op (fun G gn => ?_) | refine st_gop ?_ | refine st_dop (fun G gn => ?_) | refine st_gdop ?_ | refine st_tl ?_) | ((conv => whnf); first | (with_reducible first | (refine gn _ _ ?_; clear gn G) | (refine gn _ _ _ _ ?_; clear gn G) | refine Wr.mk ?_ | (refine hn _ _ ?_; clear hn he hr K') | (refine he _ _ _ ?_; clear hn he hr K') | (refine hr _ _ ?_; clear hn he hr K') | refine Bo.yes (by decide) ?_ | refine Bo.no (by decide) ?_ | refine Nd.mk trivial ?_ | refine Nd.mk (by decide) ?_ | refine Nd.mk ?_ ?_ | refine Leaf.mk rfl ?_ | refine Fin.mk ?_ rfl | refine Fin.mk ?_ ?_) | ((with_reducible refine Eqn.mk (fun hq => ?_) ?_) <;> try contradiction) | ((with_reducible refine Bo.gen (fun c hb => ?_)) <;> (try simp only [Nat.reduceAdd, Int.reduceToNat, toD, toDs, bl0] at hb) <;> (try simp only [↓reduceIte, reduceCtorEq, Int.reduceEq, Int.reduceLT, Int.reduceLE, eqA, eqAs, cmpI, bl1, toD, toDs, bl0] at hb) <;> first | (obtain rfl : c = true := hb) | (obtain rfl : c = false := hb) | skip) | ((with_reducible refine Br.cs (fun hq => ?_) (fun hq => ?_)) <;> (try simp only [↓reduceIte, reduceCtorEq, Int.reduceEq, Int.reduceLT, Int.reduceLE, eqA, eqAs, cmpI, bl1, toD, toDs, bl0] at hq) <;> first | contradiction | subst hq | skip) | ((with_reducible refine Nx.mk ?_ ?_ ?_ ?_) <;> try rfl)))
    all_goals first | rfl | exact ⟨rows0, rows1 3 1 0 101 1⟩ | exact ⟨rows1 1 0 0 100 1, rows1 3 1 0 101 1⟩ | exact ⟨by decide, len1 100 1, rows1 3 1 0 101 1⟩
  · trivial
end Go.Vc.Seat
