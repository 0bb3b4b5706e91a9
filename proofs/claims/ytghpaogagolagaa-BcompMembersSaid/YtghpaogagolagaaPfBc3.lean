/- A part of the proof of the seat's laws: PfBc3. It states no claim by itself. -/
import Derived.Test.YtghpaogagolagaaPfBc2
set_option linter.unusedVariables false
set_option linter.unusedSimpArgs false
namespace Go.Vc.Seat
open Go.Vc Go.Proofs.Try

theorem pok_prov_Ports : POK prog orc f_prov_Ports := by
  refine pok_of ok_prov_Ports mixed (by simp [ac_prov_Ports, acP, callsP, pok_slices_Clone_int_int]) (by simp [ac_prov_Ports, acS, callsS, sok_prov_first_api_Member]) fun args hok => ?_
  show Fits orc nt_prov_Ports rs_prov_Ports ac_prov_Ports args (pPPorts args)
  unfold ac_prov_Ports
  unfold pPPorts
  split
  · rename_i own ks mp cs ms v
    intro hc
    refine ⟨rfl, ?_⟩
    clear hok
    repeat' (first | (with_reducible first | refine st_seq (fun K' hn he hr => ?_) | refine st_block (fun K' hn he hr => ?_) | refine st_region ?_ | refine st_tregion ?_ | refine st_draw ?_ | refine st_cond ?_ | refine st_loop ?_ | refine st_op (fun G gn => ?_) | refine st_gop ?_ | refine st_dop (fun G gn => ?_) | refine st_gdop ?_ | refine st_tl ?_) | ((conv => whnf); first | (with_reducible first | (refine gn _ _ ?_; clear gn G) | (refine gn _ _ _ _ ?_; clear gn G) | refine Wr.mk ?_ | (refine hn _ _ ?_; clear hn he hr K') | (refine he _ _ _ ?_; clear hn he hr K') | (refine hr _ _ ?_; clear hn he hr K') | refine Bo.yes (by decide) ?_ | refine Bo.no (by decide) ?_ | refine Nd.mk trivial ?_ | refine Nd.mk (by decide) ?_ | refine Nd.mk ?_ ?_ | refine Leaf.mk rfl ?_ | refine LeafS.fin rfl ?_ | refine Fin.mk ?_ rfl | refine Fin.mk ?_ ?_) | ((with_reducible refine Eqn.mk (fun hq => ?_) ?_) <;> try contradiction) | ((with_reducible refine Bo.gen (fun c hb => ?_)) <;> (try simp only [Nat.reduceAdd, Int.reduceToNat, toD, toDs, bl0, List.getD_cons_zero, List.getD_cons_succ] at hb) <;> (try simp only [↓reduceIte, reduceCtorEq, Int.reduceEq, Int.reduceLT, Int.reduceLE, eqA, eqAs, cmpI, cond_true, cond_false, beq_self_eq_true, bl1, toD, toDs, bl0, List.getD_cons_zero, List.getD_cons_succ] at hb) <;> first | (obtain rfl : c = true := hb) | (obtain rfl : c = false := hb) | skip) | ((with_reducible refine Br.cs (fun hq => ?_) (fun hq => ?_)) <;> (try simp only [↓reduceIte, reduceCtorEq, Int.reduceEq, Int.reduceLT, Int.reduceLE, eqA, eqAs, cmpI, cond_true, cond_false, beq_self_eq_true, bl1, toD, toDs, bl0, List.getD_cons_zero, List.getD_cons_succ] at hq) <;> first | contradiction | subst hq | skip) | ((with_reducible refine Nx.mk ?_ ?_ ?_ ?_) <;> try rfl)))
    · exact hc
    · exact congrArg (fun b => AV.tup [.sl I64 (portsOf ms v) (.own 0), .bool b]) hb
  · trivial
theorem pok_prov_Carrier : POK prog orc f_prov_Carrier := by
  refine pok_of ok_prov_Carrier mixed (by simp [ac_prov_Carrier, acP, callsP]) (by simp [ac_prov_Carrier, acS, callsS, sok_prov_first_api_Carry]) fun args hok => ?_
  show Fits orc nt_prov_Carrier rs_prov_Carrier ac_prov_Carrier args (pPCarrier args)
  unfold ac_prov_Carrier
  unfold pPCarrier
  split
  · rename_i own ks mp cs ms v
    refine ⟨rfl, ?_⟩
    clear hok
    repeat' (first | (with_reducible first | refine st_seq (fun K' hn he hr => ?_) | refine st_block (fun K' hn he hr => ?_) | refine st_region ?_ | refine st_tregion ?_ | refine st_draw ?_ | refine st_cond ?_ | refine st_loop ?_ | refine st_op (fun G gn => ?_) | refine st_gop ?_ | refine st_dop (fun G gn => ?_) | refine st_gdop ?_ | refine st_tl ?_) | ((conv => whnf); first | (with_reducible first | (refine gn _ _ ?_; clear gn G) | (refine gn _ _ _ _ ?_; clear gn G) | refine Wr.mk ?_ | (refine hn _ _ ?_; clear hn he hr K') | (refine he _ _ _ ?_; clear hn he hr K') | (refine hr _ _ ?_; clear hn he hr K') | refine Bo.yes (by decide) ?_ | refine Bo.no (by decide) ?_ | refine Nd.mk trivial ?_ | refine Nd.mk (by decide) ?_ | refine Nd.mk ?_ ?_ | refine Leaf.mk rfl ?_ | refine LeafS.fin rfl ?_ | refine Fin.mk ?_ rfl | refine Fin.mk ?_ ?_) | ((with_reducible refine Eqn.mk (fun hq => ?_) ?_) <;> try contradiction) | ((with_reducible refine Bo.gen (fun c hb => ?_)) <;> (try simp only [Nat.reduceAdd, Int.reduceToNat, toD, toDs, bl0, List.getD_cons_zero, List.getD_cons_succ] at hb) <;> (try simp only [↓reduceIte, reduceCtorEq, Int.reduceEq, Int.reduceLT, Int.reduceLE, eqA, eqAs, cmpI, cond_true, cond_false, beq_self_eq_true, bl1, toD, toDs, bl0, List.getD_cons_zero, List.getD_cons_succ] at hb) <;> first | (obtain rfl : c = true := hb) | (obtain rfl : c = false := hb) | skip) | ((with_reducible refine Br.cs (fun hq => ?_) (fun hq => ?_)) <;> (try simp only [↓reduceIte, reduceCtorEq, Int.reduceEq, Int.reduceLT, Int.reduceLE, eqA, eqAs, cmpI, cond_true, cond_false, beq_self_eq_true, bl1, toD, toDs, bl0, List.getD_cons_zero, List.getD_cons_succ] at hq) <;> first | contradiction | subst hq | skip) | ((with_reducible refine Nx.mk ?_ ?_ ?_ ?_) <;> try rfl)))
    exact congrArg (fun b => AV.tup [.int .i64 (carrierOf cs v), .bool b]) hb
  · trivial
theorem pok_bcomp_member : POK prog orc f_bcomp_member := by
  refine pok_of ok_bcomp_member mixed (by simp [ac_bcomp_member, acP, callsP, pok_prov_Ports, pok_slices_Contains_int_int]) (by simp [ac_bcomp_member, acS, callsS]) fun args hok => ?_
  show Fits orc nt_bcomp_member rs_bcomp_member ac_bcomp_member args (pMember args)
  unfold ac_bcomp_member
  unfold pMember
  split
  · rename_i own ks mp cs ms p da sa bp bd bv ip id iu is cda csa rest
    intro hc
    refine ⟨rfl, ?_⟩
    clear hok
    repeat' (first | (with_reducible first | refine st_seq (fun K' hn he hr => ?_) | refine st_block (fun K' hn he hr => ?_) | refine st_region ?_ | refine st_tregion ?_ | refine st_draw ?_ | refine st_cond ?_ | refine st_loop ?_ | refine st_op (fun G gn => ?_) | refine st_gop ?_ | refine st_dop (fun G gn => ?_) | refine st_gdop ?_ | refine st_tl ?_) | ((conv => whnf); first | (with_reducible first | (refine gn _ _ ?_; clear gn G) | (refine gn _ _ _ _ ?_; clear gn G) | refine Wr.mk ?_ | (refine hn _ _ ?_; clear hn he hr K') | (refine he _ _ _ ?_; clear hn he hr K') | (refine hr _ _ ?_; clear hn he hr K') | refine Bo.yes (by decide) ?_ | refine Bo.no (by decide) ?_ | refine Nd.mk trivial ?_ | refine Nd.mk (by decide) ?_ | refine Nd.mk ?_ ?_ | refine Leaf.mk rfl ?_ | refine LeafS.fin rfl ?_ | refine Fin.mk ?_ rfl | refine Fin.mk ?_ ?_) | ((with_reducible refine Eqn.mk (fun hq => ?_) ?_) <;> try contradiction) | ((with_reducible refine Bo.gen (fun c hb => ?_)) <;> (try simp only [Nat.reduceAdd, Int.reduceToNat, toD, toDs, bl0, List.getD_cons_zero, List.getD_cons_succ] at hb) <;> (try simp only [↓reduceIte, reduceCtorEq, Int.reduceEq, Int.reduceLT, Int.reduceLE, eqA, eqAs, cmpI, cond_true, cond_false, beq_self_eq_true, bl1, toD, toDs, bl0, List.getD_cons_zero, List.getD_cons_succ] at hb) <;> first | (obtain rfl : c = true := hb) | (obtain rfl : c = false := hb) | skip) | ((with_reducible refine Br.cs (fun hq => ?_) (fun hq => ?_)) <;> (try simp only [↓reduceIte, reduceCtorEq, Int.reduceEq, Int.reduceLT, Int.reduceLE, eqA, eqAs, cmpI, cond_true, cond_false, beq_self_eq_true, bl1, toD, toDs, bl0, List.getD_cons_zero, List.getD_cons_succ] at hq) <;> first | contradiction | subst hq | skip) | ((with_reducible refine Nx.mk ?_ ?_ ?_ ?_) <;> try rfl)))
    all_goals first | exact hc | exact congrArg AV.bool hb | rfl
  · trivial
theorem pok_bcomp_Accept : POK prog orc f_bcomp_Accept := by
  refine pok_of ok_bcomp_Accept mixed (by simp [ac_bcomp_Accept, acP, callsP, pok_prov_Carrier]) (by simp [ac_bcomp_Accept, acS, callsS]) fun args hok => ?_
  show Fits orc nt_bcomp_Accept rs_bcomp_Accept ac_bcomp_Accept args (pBAccept args)
  unfold ac_bcomp_Accept
  unfold pBAccept
  split
  · rename_i own ks mp cs ms da sa bp bd bv ip id iu is cda csa rest
    refine ⟨rfl, ?_⟩
    clear hok
    by_cases h1 : hasV cs 0 is = true
    · by_cases h2 : carrierOf cs is = bv
      · rw [if_pos ⟨h1, h2⟩]
        repeat' (first | (with_reducible first | refine st_seq (fun K' hn he hr => ?_) | refine st_block (fun K' hn he hr => ?_) | refine st_region ?_ | refine st_tregion ?_ | refine st_draw ?_ | refine st_cond ?_ | refine st_loop ?_ | refine st_op (fun G gn => ?_) | refine st_gop ?_ | refine st_dop (fun G gn => ?_) | refine st_gdop ?_ | refine st_tl ?_) | ((conv => whnf); first | (with_reducible first | (refine gn _ _ ?_; clear gn G) | (refine gn _ _ _ _ ?_; clear gn G) | refine Wr.mk ?_ | (refine hn _ _ ?_; clear hn he hr K') | (refine he _ _ _ ?_; clear hn he hr K') | (refine hr _ _ ?_; clear hn he hr K') | refine Bo.yes (by decide) ?_ | refine Bo.no (by decide) ?_ | refine Nd.mk trivial ?_ | refine Nd.mk (by decide) ?_ | refine Nd.mk ?_ ?_ | refine Leaf.mk rfl ?_ | refine LeafS.fin rfl ?_ | refine Fin.mk ?_ rfl | refine Fin.mk ?_ ?_) | ((with_reducible refine Eqn.mk (fun hq => ?_) ?_) <;> try contradiction) | ((with_reducible refine Bo.gen (fun c hb => ?_)) <;> (try simp only [Nat.reduceAdd, Int.reduceToNat, toD, toDs, bl0, List.getD_cons_zero, List.getD_cons_succ] at hb) <;> (try simp only [↓reduceIte, reduceCtorEq, Int.reduceEq, Int.reduceLT, Int.reduceLE, eqA, eqAs, cmpI, cond_true, cond_false, beq_self_eq_true, bl1, toD, toDs, bl0, List.getD_cons_zero, List.getD_cons_succ, h1, h2] at hb) <;> first | (obtain rfl : c = true := hb) | (obtain rfl : c = false := hb) | skip) | ((with_reducible refine Br.cs (fun hq => ?_) (fun hq => ?_)) <;> (try simp only [↓reduceIte, reduceCtorEq, Int.reduceEq, Int.reduceLT, Int.reduceLE, eqA, eqAs, cmpI, cond_true, cond_false, beq_self_eq_true, bl1, toD, toDs, bl0, List.getD_cons_zero, List.getD_cons_succ, h1, h2] at hq) <;> first | contradiction | subst hq | skip) | ((with_reducible refine Nx.mk ?_ ?_ ?_ ?_) <;> try rfl)))
        all_goals first | rfl
      · rw [if_neg (fun h => h2 h.2)]
        repeat' (first | (with_reducible first | refine st_seq (fun K' hn he hr => ?_) | refine st_block (fun K' hn he hr => ?_) | refine st_region ?_ | refine st_tregion ?_ | refine st_draw ?_ | refine st_cond ?_ | refine st_loop ?_ | refine st_op (fun G gn => ?_) | refine st_gop ?_ | refine st_dop (fun G gn => ?_) | refine st_gdop ?_ | refine st_tl ?_) | ((conv => whnf); first | (with_reducible first | (refine gn _ _ ?_; clear gn G) | (refine gn _ _ _ _ ?_; clear gn G) | refine Wr.mk ?_ | (refine hn _ _ ?_; clear hn he hr K') | (refine he _ _ _ ?_; clear hn he hr K') | (refine hr _ _ ?_; clear hn he hr K') | refine Bo.yes (by decide) ?_ | refine Bo.no (by decide) ?_ | refine Nd.mk trivial ?_ | refine Nd.mk (by decide) ?_ | refine Nd.mk ?_ ?_ | refine Leaf.mk rfl ?_ | refine LeafS.fin rfl ?_ | refine Fin.mk ?_ rfl | refine Fin.mk ?_ ?_) | ((with_reducible refine Eqn.mk (fun hq => ?_) ?_) <;> try contradiction) | ((with_reducible refine Bo.gen (fun c hb => ?_)) <;> (try simp only [Nat.reduceAdd, Int.reduceToNat, toD, toDs, bl0, List.getD_cons_zero, List.getD_cons_succ] at hb) <;> (try simp only [↓reduceIte, reduceCtorEq, Int.reduceEq, Int.reduceLT, Int.reduceLE, eqA, eqAs, cmpI, cond_true, cond_false, beq_self_eq_true, bl1, toD, toDs, bl0, List.getD_cons_zero, List.getD_cons_succ, h1, h2] at hb) <;> first | (obtain rfl : c = true := hb) | (obtain rfl : c = false := hb) | skip) | ((with_reducible refine Br.cs (fun hq => ?_) (fun hq => ?_)) <;> (try simp only [↓reduceIte, reduceCtorEq, Int.reduceEq, Int.reduceLT, Int.reduceLE, eqA, eqAs, cmpI, cond_true, cond_false, beq_self_eq_true, bl1, toD, toDs, bl0, List.getD_cons_zero, List.getD_cons_succ, h1, h2] at hq) <;> first | contradiction | subst hq | skip) | ((with_reducible refine Nx.mk ?_ ?_ ?_ ?_) <;> try rfl)))
        all_goals first | rfl
    · rw [if_neg (fun h => h1 h.1)]
      repeat' (first | (with_reducible first | refine st_seq (fun K' hn he hr => ?_) | refine st_block (fun K' hn he hr => ?_) | refine st_region ?_ | refine st_tregion ?_ | refine st_draw ?_ | refine st_cond ?_ | refine st_loop ?_ | refine st_op (fun G gn => ?_) | refine st_gop ?_ | refine st_dop (fun G gn => ?_) | refine st_gdop ?_ | refine st_tl ?_) | ((conv => whnf); first | (with_reducible first | (refine gn _ _ ?_; clear gn G) | (refine gn _ _ _ _ ?_; clear gn G) | refine Wr.mk ?_ | (refine hn _ _ ?_; clear hn he hr K') | (refine he _ _ _ ?_; clear hn he hr K') | (refine hr _ _ ?_; clear hn he hr K') | refine Bo.yes (by decide) ?_ | refine Bo.no (by decide) ?_ | refine Nd.mk trivial ?_ | refine Nd.mk (by decide) ?_ | refine Nd.mk ?_ ?_ | refine Leaf.mk rfl ?_ | refine LeafS.fin rfl ?_ | refine Fin.mk ?_ rfl | refine Fin.mk ?_ ?_) | ((with_reducible refine Eqn.mk (fun hq => ?_) ?_) <;> try contradiction) | ((with_reducible refine Bo.gen (fun c hb => ?_)) <;> (try simp only [Nat.reduceAdd, Int.reduceToNat, toD, toDs, bl0, List.getD_cons_zero, List.getD_cons_succ] at hb) <;> (try simp only [↓reduceIte, reduceCtorEq, Int.reduceEq, Int.reduceLT, Int.reduceLE, eqA, eqAs, cmpI, cond_true, cond_false, beq_self_eq_true, bl1, toD, toDs, bl0, List.getD_cons_zero, List.getD_cons_succ, h1] at hb) <;> first | (obtain rfl : c = true := hb) | (obtain rfl : c = false := hb) | skip) | ((with_reducible refine Br.cs (fun hq => ?_) (fun hq => ?_)) <;> (try simp only [↓reduceIte, reduceCtorEq, Int.reduceEq, Int.reduceLT, Int.reduceLE, eqA, eqAs, cmpI, cond_true, cond_false, beq_self_eq_true, bl1, toD, toDs, bl0, List.getD_cons_zero, List.getD_cons_succ, h1] at hq) <;> first | contradiction | subst hq | skip) | ((with_reducible refine Nx.mk ?_ ?_ ?_ ?_) <;> try rfl)))
      all_goals first | rfl
  · trivial
end Go.Vc.Seat
