/- A part of the proof of the seat's laws: PfBc9. It states no claim by itself. -/
import Derived.Test.YtghpaogagolagaaPfBc3
set_option linter.unusedVariables false
set_option linter.unusedSimpArgs false
namespace Go.Vc.Seat
open Go.Vc Go.Proofs.Try

theorem take_min (xs : List D) {m : Int} {inst : Decidable (m < (xs.length : Int))} (hm : 0 ≤ m) : List.take ((@ite _ (m < (xs.length : Int)) inst m (xs.length : Int)).toNat - Int.toNat 0) (List.drop (Int.toNat 0) xs) = xs.take m.toNat := by
  rw [Int.toNat_zero, Nat.sub_zero, List.drop_zero]
  split
  · rfl
  · rw [Int.toNat_natCast, List.take_length, List.take_of_length_le (by omega)]
theorem map_snoc (f : D → D) (ps : List D) {k : Nat} (h : k < ps.length) : (ps.take (k + 1)).map f = (ps.take k).map f ++ [f (ps.getD k (.i 0))] := by
  rw [List.take_succ_eq_append_getElem h, List.map_append, List.getD_eq_getElem?_getD, List.getElem?_eq_getElem h]
  rfl
theorem map_tlen (f : D → D) (ps : List D) {k : Nat} (h : k ≤ ps.length) : ((ps.take k).map f).length = k := by
  rw [List.length_map, List.length_take]
  omega
theorem pok_l19_cut : POK prog orc f_l19_cut := by
  refine pok_of ok_l19_cut mixed (by simp [ac_l19_cut, acP, callsP]) (by simp [ac_l19_cut, acS, callsS]) fun args hok => ?_
  show Fits orc nt_l19_cut rs_l19_cut ac_l19_cut args (pCut19 args)
  unfold ac_l19_cut
  unfold pCut19
  split
  · rename_i g0
    refine ⟨rfl, ?_⟩
    clear hok
    obtain ⟨g, hg⟩ : ∃ g, g0.take 10 = g := ⟨_, rfl⟩
    have hgl : g.length ≤ 10 := by rw [← hg, List.length_take]; omega
    repeat' (first | (with_reducible first | refine st_seq (fun K' hn he hr => ?_) | refine st_block (fun K' hn he hr => ?_) | refine st_region ?_ | refine st_tregion ?_ | refine st_draw ?_ | refine st_cond ?_ | refine st_loop ?_ | refine st_op (fun G gn => ?_) | refine st_gop ?_ | refine st_dop (fun G gn => ?_) | refine st_gdop ?_ | refine st_tl ?_) | ((conv => whnf); first | (with_reducible first | (refine gn _ _ ?_; clear gn G) | (refine gn _ _ _ _ ?_; clear gn G) | refine Wr.mk ?_ | (refine hn _ _ ?_; clear hn he hr K') | (refine he _ _ _ ?_; clear hn he hr K') | (refine hr _ _ ?_; clear hn he hr K') | refine Bo.yes (by decide) ?_ | refine Bo.no (by decide) ?_ | refine Nd.mk trivial ?_ | refine Nd.mk (by decide) ?_ | refine Nd.mk ?_ ?_ | refine Leaf.mk rfl ?_ | refine LeafS.fin rfl ?_ | refine Fin.mk ?_ rfl | refine Fin.mk ?_ ?_) | ((with_reducible refine Eqn.mk (fun hq => ?_) ?_) <;> try contradiction) | ((with_reducible refine Bo.gen (fun c hb => ?_)) <;> (try simp only [Nat.reduceAdd, Int.reduceToNat, toD, toDs, bl0, List.getD_cons_zero, List.getD_cons_succ] at hb) <;> (try simp only [↓reduceIte, reduceCtorEq, Int.reduceEq, Int.reduceLT, Int.reduceLE, eqA, eqAs, cmpI, cond_true, cond_false, beq_self_eq_true, bl1, toD, toDs, bl0, List.getD_cons_zero, List.getD_cons_succ] at hb) <;> first | (obtain rfl : c = true := hb) | (obtain rfl : c = false := hb) | skip) | ((with_reducible refine Br.cs (fun hq => ?_) (fun hq => ?_)) <;> (try simp only [↓reduceIte, reduceCtorEq, Int.reduceEq, Int.reduceLT, Int.reduceLE, eqA, eqAs, cmpI, cond_true, cond_false, beq_self_eq_true, bl1, toD, toDs, bl0, List.getD_cons_zero, List.getD_cons_succ] at hq) <;> first | contradiction | subst hq | skip) | ((with_reducible refine Nx.mk ?_ ?_ ?_ ?_) <;> try rfl)))
    · unfold cutOK; split <;> omega
    rw [take_min g0 (by decide : (0 : Int) ≤ 10), show g0.take (10 : Int).toNat = g from hg]
    have hn0 := hn
    have he0 := he
    have hr0 := hr
    clear hn he hr
    refine loop_of (fun i : Nat => [(0, .sl TyGate g .no), (4, .sl TyGate ((g.take i).map gcopy) (.own 0)), (5, .int .i64 i)]) (fun i => [.ext TyGate i]) (fun i => i ≤ g.length) (fun i => g.length - i) 0 rfl rfl (Nat.zero_le _) (fun _ _ => rfl) ?_
    intro i hi J hJ K' hn he hr
    have hw : i < g.length → IntKind.i64.wrap ((i : Int) + 1) = ((i + 1 : Nat) : Int) := fun _ => wi64_in (by omega) (by omega)
    by_cases hlt : i < g.length
    · have hlt' : (i : Int) < g.length := by omega
      have hsu := map_snoc gcopy g hlt
      have hml := map_tlen gcopy g (Nat.le_of_lt hlt)
      have hJn : ∀ x, x = gcopy (g.getD i (.i 0)) → ∀ e0 h0, e0 = [(0, .sl TyGate g .no), (4, .sl TyGate ((g.take i).map gcopy ++ [x]) (.own 0)), (5, .int .i64 (IntKind.i64.wrap ((i : Int) + 1)))] → h0 = [.ext TyGate (((g.take i).map gcopy).length + 1)] → J e0 h0 := fun x hx e0 h0 he0 hh0 => by
        refine J_of (hJ (i + 1) (by omega) (by omega)) ?_ ?_
        · rw [he0, hw hlt, hsu, hx]
        · rw [hh0, hml]
      clear hJ hw
      have hgc : gcopy (g.getD i (.i 0)) = .a [.b ((g.getD i (.i 0)).fld 0).bool, .b ((g.getD i (.i 0)).fld 1).bool] := rfl
      cases x0 : ((g.getD i (.i 0)).fld 0).bool <;> cases x1 : ((g.getD i (.i 0)).fld 1).bool
      all_goals
        rw [x0, x1] at hgc
        repeat' (first | (with_reducible first | refine st_seq (fun K' hn he hr => ?_) | refine st_block (fun K' hn he hr => ?_) | refine st_region ?_ | refine st_tregion ?_ | refine st_draw ?_ | refine st_cond ?_ | refine st_loop ?_ | refine st_op (fun G gn => ?_) | refine st_gop ?_ | refine st_dop (fun G gn => ?_) | refine st_gdop ?_ | refine st_tl ?_) | ((conv => whnf); first | (with_reducible first | (refine gn _ _ ?_; clear gn G) | (refine gn _ _ _ _ ?_; clear gn G) | refine Wr.mk ?_ | (refine hn _ _ ?_; clear hn he hr K') | (refine he _ _ _ ?_; clear hn he hr K') | (refine hr _ _ ?_; clear hn he hr K') | refine Bo.yes (by decide) ?_ | refine Bo.no (by decide) ?_ | refine Nd.mk trivial ?_ | refine Nd.mk (by decide) ?_ | refine Nd.mk ?_ ?_ | refine Leaf.mk rfl ?_ | refine LeafS.fin rfl ?_ | refine Fin.mk ?_ rfl | refine Fin.mk ?_ ?_) | ((with_reducible refine Eqn.mk (fun hq => ?_) ?_) <;> try contradiction) | ((with_reducible refine Bo.gen (fun c hb => ?_)) <;> (try simp only [Nat.reduceAdd, Int.reduceToNat, toD, toDs, bl0, List.getD_cons_zero, List.getD_cons_succ] at hb) <;> (try simp only [↓reduceIte, reduceCtorEq, Int.reduceEq, Int.reduceLT, Int.reduceLE, eqA, eqAs, cmpI, cond_true, cond_false, beq_self_eq_true, bl1, toD, toDs, bl0, List.getD_cons_zero, List.getD_cons_succ, Int.toNat_natCast, hlt', x0, x1] at hb) <;> first | (obtain rfl : c = true := hb) | (obtain rfl : c = false := hb) | skip) | ((with_reducible refine Br.cs (fun hq => ?_) (fun hq => ?_)) <;> (try simp only [↓reduceIte, reduceCtorEq, Int.reduceEq, Int.reduceLT, Int.reduceLE, eqA, eqAs, cmpI, cond_true, cond_false, beq_self_eq_true, bl1, toD, toDs, bl0, List.getD_cons_zero, List.getD_cons_succ, Int.toNat_natCast, hlt', x0, x1] at hq) <;> first | contradiction | subst hq | skip) | ((with_reducible refine Nx.mk ?_ ?_ ?_ ?_) <;> try rfl)))
        all_goals first | omega | (exact ⟨hml.symm, by show roomy (((g.take i).map gcopy).length + 1) 2; unfold roomy; omega⟩) | exact hJn _ hgc.symm _ _ rfl rfl
    · have hlt' : ¬ (i : Int) < g.length := by omega
      have : i = g.length := by omega
      subst this
      repeat' (first | (with_reducible first | refine st_seq (fun K' hn he hr => ?_) | refine st_block (fun K' hn he hr => ?_) | refine st_region ?_ | refine st_tregion ?_ | refine st_draw ?_ | refine st_cond ?_ | refine st_loop ?_ | refine st_op (fun G gn => ?_) | refine st_gop ?_ | refine st_dop (fun G gn => ?_) | refine st_gdop ?_ | refine st_tl ?_) | ((conv => whnf); first | (with_reducible first | (refine gn _ _ ?_; clear gn G) | (refine gn _ _ _ _ ?_; clear gn G) | refine Wr.mk ?_ | (refine hn _ _ ?_; clear hn he hr K') | (refine he _ _ _ ?_; clear hn he hr K') | (refine hr _ _ ?_; clear hn he hr K') | refine Bo.yes (by decide) ?_ | refine Bo.no (by decide) ?_ | refine Nd.mk trivial ?_ | refine Nd.mk (by decide) ?_ | refine Nd.mk ?_ ?_ | refine Leaf.mk rfl ?_ | refine LeafS.fin rfl ?_ | refine Fin.mk ?_ rfl | refine Fin.mk ?_ ?_) | ((with_reducible refine Eqn.mk (fun hq => ?_) ?_) <;> try contradiction) | ((with_reducible refine Bo.gen (fun c hb => ?_)) <;> (try simp only [Nat.reduceAdd, Int.reduceToNat, toD, toDs, bl0, List.getD_cons_zero, List.getD_cons_succ] at hb) <;> (try simp only [↓reduceIte, reduceCtorEq, Int.reduceEq, Int.reduceLT, Int.reduceLE, eqA, eqAs, cmpI, cond_true, cond_false, beq_self_eq_true, bl1, toD, toDs, bl0, List.getD_cons_zero, List.getD_cons_succ, hlt'] at hb) <;> first | (obtain rfl : c = true := hb) | (obtain rfl : c = false := hb) | skip) | ((with_reducible refine Br.cs (fun hq => ?_) (fun hq => ?_)) <;> (try simp only [↓reduceIte, reduceCtorEq, Int.reduceEq, Int.reduceLT, Int.reduceLE, eqA, eqAs, cmpI, cond_true, cond_false, beq_self_eq_true, bl1, toD, toDs, bl0, List.getD_cons_zero, List.getD_cons_succ, hlt'] at hq) <;> first | contradiction | subst hq | skip) | ((with_reducible refine Nx.mk ?_ ?_ ?_ ?_) <;> try rfl)))
      refine he0 _ _ _ ?_
      clear he0 hn0 hr0
      repeat' (first | (with_reducible first | refine st_seq (fun K' hn he hr => ?_) | refine st_block (fun K' hn he hr => ?_) | refine st_region ?_ | refine st_tregion ?_ | refine st_draw ?_ | refine st_cond ?_ | refine st_loop ?_ | refine st_op (fun G gn => ?_) | refine st_gop ?_ | refine st_dop (fun G gn => ?_) | refine st_gdop ?_ | refine st_tl ?_) | ((conv => whnf); first | (with_reducible first | (refine gn _ _ ?_; clear gn G) | (refine gn _ _ _ _ ?_; clear gn G) | refine Wr.mk ?_ | (refine hn _ _ ?_; clear hn he hr K') | (refine he _ _ _ ?_; clear hn he hr K') | (refine hr _ _ ?_; clear hn he hr K') | refine Bo.yes (by decide) ?_ | refine Bo.no (by decide) ?_ | refine Nd.mk trivial ?_ | refine Nd.mk (by decide) ?_ | refine Nd.mk ?_ ?_ | refine Leaf.mk rfl ?_ | refine LeafS.fin rfl ?_ | refine Fin.mk ?_ rfl | refine Fin.mk ?_ ?_) | ((with_reducible refine Eqn.mk (fun hq => ?_) ?_) <;> try contradiction) | ((with_reducible refine Bo.gen (fun c hb => ?_)) <;> (try simp only [Nat.reduceAdd, Int.reduceToNat, toD, toDs, bl0, List.getD_cons_zero, List.getD_cons_succ] at hb) <;> (try simp only [↓reduceIte, reduceCtorEq, Int.reduceEq, Int.reduceLT, Int.reduceLE, eqA, eqAs, cmpI, cond_true, cond_false, beq_self_eq_true, bl1, toD, toDs, bl0, List.getD_cons_zero, List.getD_cons_succ] at hb) <;> first | (obtain rfl : c = true := hb) | (obtain rfl : c = false := hb) | skip) | ((with_reducible refine Br.cs (fun hq => ?_) (fun hq => ?_)) <;> (try simp only [↓reduceIte, reduceCtorEq, Int.reduceEq, Int.reduceLT, Int.reduceLE, eqA, eqAs, cmpI, cond_true, cond_false, beq_self_eq_true, bl1, toD, toDs, bl0, List.getD_cons_zero, List.getD_cons_succ] at hq) <;> first | contradiction | subst hq | skip) | ((with_reducible refine Nx.mk ?_ ?_ ?_ ?_) <;> try rfl)))
      · rw [List.take_length, hg]
      · rw [hg, List.length_map]
  · trivial
set_option maxHeartbeats 4000000 in
theorem pok_l19_Few : POK prog orc f_l19_Few := by
  refine pok_of ok_l19_Few mixed (by simp [ac_l19_Few, acP, callsP]) (by simp [ac_l19_Few, acS, callsS]) fun args hok => ?_
  show Fits orc nt_l19_Few rs_l19_Few ac_l19_Few args (pFew19 args)
  unfold ac_l19_Few
  unfold pFew19
  split
  · rename_i own ks0 mp0 cs0 ms
    refine ⟨rfl, ?_⟩
    clear hok
    obtain ⟨ks, hks⟩ : ∃ x, ks0.take 10 = x := ⟨_, rfl⟩
    obtain ⟨mp, hmp⟩ : ∃ x, mp0.take 12 = x := ⟨_, rfl⟩
    obtain ⟨cs, hcs⟩ : ∃ x, cs0.take 12 = x := ⟨_, rfl⟩
    repeat' (first | (with_reducible first | refine st_seq (fun K' hn he hr => ?_) | refine st_block (fun K' hn he hr => ?_) | refine st_region ?_ | refine st_tregion ?_ | refine st_draw ?_ | refine st_cond ?_ | refine st_loop ?_ | refine st_op (fun G gn => ?_) | refine st_gop ?_ | refine st_dop (fun G gn => ?_) | refine st_gdop ?_ | refine st_tl ?_) | ((conv => whnf); first | (with_reducible first | (refine gn _ _ ?_; clear gn G) | (refine gn _ _ _ _ ?_; clear gn G) | refine Wr.mk ?_ | (refine hn _ _ ?_; clear hn he hr K') | (refine he _ _ _ ?_; clear hn he hr K') | (refine hr _ _ ?_; clear hn he hr K') | refine Bo.yes (by decide) ?_ | refine Bo.no (by decide) ?_ | refine Nd.mk trivial ?_ | refine Nd.mk (by decide) ?_ | refine Nd.mk ?_ ?_ | refine Leaf.mk rfl ?_ | refine LeafS.fin rfl ?_ | refine Fin.mk ?_ rfl | refine Fin.mk ?_ ?_) | ((with_reducible refine Eqn.mk (fun hq => ?_) ?_) <;> try contradiction) | ((with_reducible refine Bo.gen (fun c hb => ?_)) <;> (try simp only [Nat.reduceAdd, Int.reduceToNat, toD, toDs, bl0, List.getD_cons_zero, List.getD_cons_succ] at hb) <;> (try simp only [↓reduceIte, reduceCtorEq, Int.reduceEq, Int.reduceLT, Int.reduceLE, eqA, eqAs, cmpI, cond_true, cond_false, beq_self_eq_true, bl1, toD, toDs, bl0, List.getD_cons_zero, List.getD_cons_succ] at hb) <;> first | (obtain rfl : c = true := hb) | (obtain rfl : c = false := hb) | skip) | ((with_reducible refine Br.cs (fun hq => ?_) (fun hq => ?_)) <;> (try simp only [↓reduceIte, reduceCtorEq, Int.reduceEq, Int.reduceLT, Int.reduceLE, eqA, eqAs, cmpI, cond_true, cond_false, beq_self_eq_true, bl1, toD, toDs, bl0, List.getD_cons_zero, List.getD_cons_succ] at hq) <;> first | contradiction | subst hq | skip) | ((with_reducible refine Nx.mk ?_ ?_ ?_ ?_) <;> try rfl)))
    · unfold cutOK; split <;> omega
    · unfold cutOK; split <;> omega
    · unfold cutOK; split <;> omega
    rw [take_min ks0 (by decide : (0 : Int) ≤ 10), take_min mp0 (by decide : (0 : Int) ≤ 12), take_min cs0 (by decide : (0 : Int) ≤ 12), show ks0.take (10 : Int).toNat = ks from hks, show mp0.take (12 : Int).toNat = mp from hmp, show cs0.take (12 : Int).toNat = cs from hcs]
    have hn0 := hn
    have he0 := he
    have hr0 := hr
    clear hn he hr
    refine loop_of (fun i : Nat => [(1, .ptr 0 [] T28), (2, .ptr 1 [] T28), (3, .sl TyMember ((ms.take i).map fewM) (.own 2)), (4, .int .i64 i)]) (fun i => [.var T28 (.st [.arr 6 (.int .u8) own, .sl I64 ks .no, .sl TyMap mp .no, .sl TyCarry cs .no, .sl TyMember ms .no]) false, .var T28 (zeroA T28) false, .ext TyMember i]) (fun i => i ≤ ms.length ∧ i ≤ 12) (fun i => ms.length - i) 0 rfl rfl ⟨Nat.zero_le _, Nat.zero_le _⟩ (fun _ _ => rfl) ?_
    intro i hi J hJ K' hn he hr
    have hw : i < ms.length → IntKind.i64.wrap ((i : Int) + 1) = ((i + 1 : Nat) : Int) := fun _ => wi64_in (by omega) (by omega)
    by_cases hlt : i < ms.length
    · have hlt' : (i : Int) < ms.length := by omega
      by_cases h12 : i < 12
      · have h12' : (i : Int) < 12 := by omega
        have hsu := map_snoc fewM ms hlt
        have hml := map_tlen fewM ms (Nat.le_of_lt hlt)
        have hJn : ∀ x, x = fewM (ms.getD i (.i 0)) → ∀ e0 h0, e0 = [(1, .ptr 0 [] T28), (2, .ptr 1 [] T28), (3, .sl TyMember ((ms.take i).map fewM ++ [x]) (.own 2)), (4, .int .i64 (IntKind.i64.wrap ((i : Int) + 1)))] → h0 = [.var T28 (.st [.arr 6 (.int .u8) own, .sl I64 ks .no, .sl TyMap mp .no, .sl TyCarry cs .no, .sl TyMember ms .no]) false, .var T28 (zeroA T28) false, .ext TyMember (((ms.take i).map fewM).length + 1)] → J e0 h0 := fun x hx e0 h0 he0 hh0 => by
          refine J_of (hJ (i + 1) ⟨by omega, by omega⟩ (by omega)) ?_ ?_
          · rw [he0, hw hlt, hsu, hx]
          · rw [hh0, hml]
        have hx : D.a [.i ((ms.getD i (.i 0)).fld 0).int, .l (List.take ((if (10 : Int) < (((ms.getD i (.i 0)).fld 1).list.length : Int) then 10 else (((ms.getD i (.i 0)).fld 1).list.length : Int)).toNat - Int.toNat 0) (List.drop (Int.toNat 0) ((ms.getD i (.i 0)).fld 1).list))] = fewM (ms.getD i (.i 0)) := by
          rw [take_min _ (by decide : (0 : Int) ≤ 10)]
          rfl
        clear hJ hw
        repeat' (first | (with_reducible first | refine st_seq (fun K' hn he hr => ?_) | refine st_block (fun K' hn he hr => ?_) | refine st_region ?_ | refine st_tregion ?_ | refine st_draw ?_ | refine st_cond ?_ | refine st_loop ?_ | refine st_op (fun G gn => ?_) | refine st_gop ?_ | refine st_dop (fun G gn => ?_) | refine st_gdop ?_ | refine st_tl ?_) | ((conv => whnf); first | (with_reducible first | (refine gn _ _ ?_; clear gn G) | (refine gn _ _ _ _ ?_; clear gn G) | refine Wr.mk ?_ | (refine hn _ _ ?_; clear hn he hr K') | (refine he _ _ _ ?_; clear hn he hr K') | (refine hr _ _ ?_; clear hn he hr K') | refine Bo.yes (by decide) ?_ | refine Bo.no (by decide) ?_ | refine Nd.mk trivial ?_ | refine Nd.mk (by decide) ?_ | refine Nd.mk ?_ ?_ | refine Leaf.mk rfl ?_ | refine LeafS.fin rfl ?_ | refine Fin.mk ?_ rfl | refine Fin.mk ?_ ?_) | ((with_reducible refine Eqn.mk (fun hq => ?_) ?_) <;> try contradiction) | ((with_reducible refine Bo.gen (fun c hb => ?_)) <;> (try simp only [Nat.reduceAdd, Int.reduceToNat, toD, toDs, bl0, List.getD_cons_zero, List.getD_cons_succ] at hb) <;> (try simp only [↓reduceIte, reduceCtorEq, Int.reduceEq, Int.reduceLT, Int.reduceLE, eqA, eqAs, cmpI, cond_true, cond_false, beq_self_eq_true, bl1, toD, toDs, bl0, List.getD_cons_zero, List.getD_cons_succ, Int.toNat_natCast, hlt', h12'] at hb) <;> first | (obtain rfl : c = true := hb) | (obtain rfl : c = false := hb) | skip) | ((with_reducible refine Br.cs (fun hq => ?_) (fun hq => ?_)) <;> (try simp only [↓reduceIte, reduceCtorEq, Int.reduceEq, Int.reduceLT, Int.reduceLE, eqA, eqAs, cmpI, cond_true, cond_false, beq_self_eq_true, bl1, toD, toDs, bl0, List.getD_cons_zero, List.getD_cons_succ, Int.toNat_natCast, hlt', h12'] at hq) <;> first | contradiction | subst hq | skip) | ((with_reducible refine Nx.mk ?_ ?_ ?_ ?_) <;> try rfl)))
        all_goals first | omega | (unfold cutOK; split <;> omega) | (exact ⟨hml.symm, by show roomy (((ms.take i).map fewM).length + 1) 32; unfold roomy; omega⟩) | exact hJn _ hx _ _ rfl rfl
      · have h12' : ¬ (i : Int) < 12 := by omega
        have : i = 12 := by omega
        subst this
        have hfl : (fewMs ms).length = 12 := map_tlen fewM ms (Nat.le_of_lt hlt)
        repeat' (first | (with_reducible first | refine st_seq (fun K' hn he hr => ?_) | refine st_block (fun K' hn he hr => ?_) | refine st_region ?_ | refine st_tregion ?_ | refine st_draw ?_ | refine st_cond ?_ | refine st_loop ?_ | refine st_op (fun G gn => ?_) | refine st_gop ?_ | refine st_dop (fun G gn => ?_) | refine st_gdop ?_ | refine st_tl ?_) | ((conv => whnf); first | (with_reducible first | (refine gn _ _ ?_; clear gn G) | (refine gn _ _ _ _ ?_; clear gn G) | refine Wr.mk ?_ | (refine hn _ _ ?_; clear hn he hr K') | (refine he _ _ _ ?_; clear hn he hr K') | (refine hr _ _ ?_; clear hn he hr K') | refine Bo.yes (by decide) ?_ | refine Bo.no (by decide) ?_ | refine Nd.mk trivial ?_ | refine Nd.mk (by decide) ?_ | refine Nd.mk ?_ ?_ | refine Leaf.mk rfl ?_ | refine LeafS.fin rfl ?_ | refine Fin.mk ?_ rfl | refine Fin.mk ?_ ?_) | ((with_reducible refine Eqn.mk (fun hq => ?_) ?_) <;> try contradiction) | ((with_reducible refine Bo.gen (fun c hb => ?_)) <;> (try simp only [Nat.reduceAdd, Int.reduceToNat, toD, toDs, bl0, List.getD_cons_zero, List.getD_cons_succ] at hb) <;> (try simp only [↓reduceIte, reduceCtorEq, Int.reduceEq, Int.reduceLT, Int.reduceLE, eqA, eqAs, cmpI, cond_true, cond_false, beq_self_eq_true, bl1, toD, toDs, bl0, List.getD_cons_zero, List.getD_cons_succ, hlt', h12'] at hb) <;> first | (obtain rfl : c = true := hb) | (obtain rfl : c = false := hb) | skip) | ((with_reducible refine Br.cs (fun hq => ?_) (fun hq => ?_)) <;> (try simp only [↓reduceIte, reduceCtorEq, Int.reduceEq, Int.reduceLT, Int.reduceLE, eqA, eqAs, cmpI, cond_true, cond_false, beq_self_eq_true, bl1, toD, toDs, bl0, List.getD_cons_zero, List.getD_cons_succ, hlt', h12'] at hq) <;> first | contradiction | subst hq | skip) | ((with_reducible refine Nx.mk ?_ ?_ ?_ ?_) <;> try rfl)))
        refine he0 _ _ _ ?_
        clear he0 hn0 hr0 hJ
        repeat' (first | (with_reducible first | refine st_seq (fun K' hn he hr => ?_) | refine st_block (fun K' hn he hr => ?_) | refine st_region ?_ | refine st_tregion ?_ | refine st_draw ?_ | refine st_cond ?_ | refine st_loop ?_ | refine st_op (fun G gn => ?_) | refine st_gop ?_ | refine st_dop (fun G gn => ?_) | refine st_gdop ?_ | refine st_tl ?_) | ((conv => whnf); first | (with_reducible first | (refine gn _ _ ?_; clear gn G) | (refine gn _ _ _ _ ?_; clear gn G) | refine Wr.mk ?_ | (refine hn _ _ ?_; clear hn he hr K') | (refine he _ _ _ ?_; clear hn he hr K') | (refine hr _ _ ?_; clear hn he hr K') | refine Bo.yes (by decide) ?_ | refine Bo.no (by decide) ?_ | refine Nd.mk trivial ?_ | refine Nd.mk (by decide) ?_ | refine Nd.mk ?_ ?_ | refine Leaf.mk rfl ?_ | refine LeafS.fin rfl ?_ | refine Fin.mk ?_ rfl | refine Fin.mk ?_ ?_) | ((with_reducible refine Eqn.mk (fun hq => ?_) ?_) <;> try contradiction) | ((with_reducible refine Bo.gen (fun c hb => ?_)) <;> (try simp only [Nat.reduceAdd, Int.reduceToNat, toD, toDs, bl0, List.getD_cons_zero, List.getD_cons_succ] at hb) <;> (try simp only [↓reduceIte, reduceCtorEq, Int.reduceEq, Int.reduceLT, Int.reduceLE, eqA, eqAs, cmpI, cond_true, cond_false, beq_self_eq_true, bl1, toD, toDs, bl0, List.getD_cons_zero, List.getD_cons_succ] at hb) <;> first | (obtain rfl : c = true := hb) | (obtain rfl : c = false := hb) | skip) | ((with_reducible refine Br.cs (fun hq => ?_) (fun hq => ?_)) <;> (try simp only [↓reduceIte, reduceCtorEq, Int.reduceEq, Int.reduceLT, Int.reduceLE, eqA, eqAs, cmpI, cond_true, cond_false, beq_self_eq_true, bl1, toD, toDs, bl0, List.getD_cons_zero, List.getD_cons_succ] at hq) <;> first | contradiction | subst hq | skip) | ((with_reducible refine Nx.mk ?_ ?_ ?_ ?_) <;> try rfl)))
        · rw [hks, hmp, hcs]
          rfl
        · rw [hfl]
    · have hlt' : ¬ (i : Int) < ms.length := by omega
      have hil : i = ms.length := by omega
      have hfm : (ms.take i).map fewM = fewMs ms := by
        unfold fewMs
        rw [List.take_of_length_le (by omega), List.take_of_length_le (by omega)]
      rw [hfm, hil]
      repeat' (first | (with_reducible first | refine st_seq (fun K' hn he hr => ?_) | refine st_block (fun K' hn he hr => ?_) | refine st_region ?_ | refine st_tregion ?_ | refine st_draw ?_ | refine st_cond ?_ | refine st_loop ?_ | refine st_op (fun G gn => ?_) | refine st_gop ?_ | refine st_dop (fun G gn => ?_) | refine st_gdop ?_ | refine st_tl ?_) | ((conv => whnf); first | (with_reducible first | (refine gn _ _ ?_; clear gn G) | (refine gn _ _ _ _ ?_; clear gn G) | refine Wr.mk ?_ | (refine hn _ _ ?_; clear hn he hr K') | (refine he _ _ _ ?_; clear hn he hr K') | (refine hr _ _ ?_; clear hn he hr K') | refine Bo.yes (by decide) ?_ | refine Bo.no (by decide) ?_ | refine Nd.mk trivial ?_ | refine Nd.mk (by decide) ?_ | refine Nd.mk ?_ ?_ | refine Leaf.mk rfl ?_ | refine LeafS.fin rfl ?_ | refine Fin.mk ?_ rfl | refine Fin.mk ?_ ?_) | ((with_reducible refine Eqn.mk (fun hq => ?_) ?_) <;> try contradiction) | ((with_reducible refine Bo.gen (fun c hb => ?_)) <;> (try simp only [Nat.reduceAdd, Int.reduceToNat, toD, toDs, bl0, List.getD_cons_zero, List.getD_cons_succ] at hb) <;> (try simp only [↓reduceIte, reduceCtorEq, Int.reduceEq, Int.reduceLT, Int.reduceLE, eqA, eqAs, cmpI, cond_true, cond_false, beq_self_eq_true, bl1, toD, toDs, bl0, List.getD_cons_zero, List.getD_cons_succ, show ¬ ((ms.length : Nat) : Int) < (ms.length : Nat) by omega] at hb) <;> first | (obtain rfl : c = true := hb) | (obtain rfl : c = false := hb) | skip) | ((with_reducible refine Br.cs (fun hq => ?_) (fun hq => ?_)) <;> (try simp only [↓reduceIte, reduceCtorEq, Int.reduceEq, Int.reduceLT, Int.reduceLE, eqA, eqAs, cmpI, cond_true, cond_false, beq_self_eq_true, bl1, toD, toDs, bl0, List.getD_cons_zero, List.getD_cons_succ, show ¬ ((ms.length : Nat) : Int) < (ms.length : Nat) by omega] at hq) <;> first | contradiction | subst hq | skip) | ((with_reducible refine Nx.mk ?_ ?_ ?_ ?_) <;> try rfl)))
      refine he0 _ _ _ ?_
      clear he0 hn0 hr0 hJ
      have hfl : (fewMs ms).length = ms.length := by rw [← hfm, hil, List.length_map, List.take_length]
      repeat' (first | (with_reducible first | refine st_seq (fun K' hn he hr => ?_) | refine st_block (fun K' hn he hr => ?_) | refine st_region ?_ | refine st_tregion ?_ | refine st_draw ?_ | refine st_cond ?_ | refine st_loop ?_ | refine st_op (fun G gn => ?_) | refine st_gop ?_ | refine st_dop (fun G gn => ?_) | refine st_gdop ?_ | refine st_tl ?_) | ((conv => whnf); first | (with_reducible first | (refine gn _ _ ?_; clear gn G) | (refine gn _ _ _ _ ?_; clear gn G) | refine Wr.mk ?_ | (refine hn _ _ ?_; clear hn he hr K') | (refine he _ _ _ ?_; clear hn he hr K') | (refine hr _ _ ?_; clear hn he hr K') | refine Bo.yes (by decide) ?_ | refine Bo.no (by decide) ?_ | refine Nd.mk trivial ?_ | refine Nd.mk (by decide) ?_ | refine Nd.mk ?_ ?_ | refine Leaf.mk rfl ?_ | refine LeafS.fin rfl ?_ | refine Fin.mk ?_ rfl | refine Fin.mk ?_ ?_) | ((with_reducible refine Eqn.mk (fun hq => ?_) ?_) <;> try contradiction) | ((with_reducible refine Bo.gen (fun c hb => ?_)) <;> (try simp only [Nat.reduceAdd, Int.reduceToNat, toD, toDs, bl0, List.getD_cons_zero, List.getD_cons_succ] at hb) <;> (try simp only [↓reduceIte, reduceCtorEq, Int.reduceEq, Int.reduceLT, Int.reduceLE, eqA, eqAs, cmpI, cond_true, cond_false, beq_self_eq_true, bl1, toD, toDs, bl0, List.getD_cons_zero, List.getD_cons_succ] at hb) <;> first | (obtain rfl : c = true := hb) | (obtain rfl : c = false := hb) | skip) | ((with_reducible refine Br.cs (fun hq => ?_) (fun hq => ?_)) <;> (try simp only [↓reduceIte, reduceCtorEq, Int.reduceEq, Int.reduceLT, Int.reduceLE, eqA, eqAs, cmpI, cond_true, cond_false, beq_self_eq_true, bl1, toD, toDs, bl0, List.getD_cons_zero, List.getD_cons_succ] at hq) <;> first | contradiction | subst hq | skip) | ((with_reducible refine Nx.mk ?_ ?_ ?_ ?_) <;> try rfl)))
      · rw [hks, hmp, hcs]
      · rw [hfl]
  · trivial
end Go.Vc.Seat
