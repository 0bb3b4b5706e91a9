/- A part of the proof of the seat's laws: PfSn7. It states no claim by itself. -/
import Derived.Test.YtpdcgjpkcjhbjaaPfSn5
set_option linter.unusedVariables false
set_option linter.unusedSimpArgs false
namespace Go.Vc.Seat
open Go.Vc Go.Proofs.Try

theorem rowL_len (n : Nat) (L : Nat → Span.Lab) (P : Nat → Int) : (rowL n L P).length = n := by simp [rowL]
theorem rowL_at {n v : Nat} {L : Nat → Span.Lab} {P : Nat → Int} (h : v < n) : (rowL n L P).getD v (.i 0) = nodeD (L v) (P v) := by
  simp [rowL, List.getD_eq_getElem?_getD, h]
theorem rowL_succ (n : Nat) (L : Nat → Span.Lab) (P : Nat → Int) : rowL (n + 1) L P = rowL n L P ++ [nodeD (L n) (P n)] := by
  simp [rowL, List.range_succ]
theorem rowL_set {n v : Nat} {L : Nat → Span.Lab} {P : Nat → Int} (x : Span.Lab) (h : v < n) : (rowL n L P).set v (nodeD x (P v)) = rowL n (Span.upd L v x) P := by
  refine List.ext_getElem (by simp [rowL]) fun i h1 h2 => ?_
  rw [List.getElem_set]
  simp only [rowL, List.getElem_map, List.getElem_range, Span.upd]
  by_cases hv : v = i
  · rw [if_pos hv, if_pos hv.symm, hv]
  · rw [if_neg hv, if_neg (fun h => hv h.symm)]
theorem rounds_snoc (s : Span.Side) : ∀ (T : List Span.Side) (L : Nat → Span.Lab), Span.rounds L (T ++ [s]) = Span.relax (Span.rounds L T) s
  | [], L => rfl
  | t :: r, L => rounds_snoc s r (Span.relax L t)
theorem sides_in {n : Nat} {ss : List D} (hc : goodS n ss) : ∀ s ∈ ss.map sideOf, s.me < n ∧ s.you < n ∧ 0 < s.c ∧ s.c ≤ 200000000 := by
  intro s hs
  obtain ⟨d, hd, rfl⟩ := List.mem_map.1 hs
  obtain ⟨i, hi, hg⟩ := List.mem_iff_getElem.1 hd
  have h := hc.2.2.2 i hi
  have e : ss.getD i (.i 0) = d := by rw [List.getD_eq_getElem?_getD, List.getElem?_eq_getElem hi]; simpa using hg
  rw [e] at h
  simp only [sideOf]
  omega
theorem relax_t {n : Nat} {M : Nat → Span.Lab} {P : Nat → Int} {s : D} (h0 : (fi s 0).toNat < n) (h3 : (fi s 3).toNat < n) (hw : IntKind.u32.wrap ((M (fi s 3).toNat).2 + fi s 2) = (M (fi s 3).toNat).2 + fi s 2) (hlt : Span.lt (Span.way M (sideOf s)) (M (sideOf s).me)) :
    (rowL n M P).set (0 + (fi s 0).toNat) (.a [.i (((rowL n M P).getD (0 + (fi s 3).toNat) (.i 0)).fld 0).int, .i (IntKind.u32.wrap ((((rowL n M P).getD (0 + (fi s 3).toNat) (.i 0)).fld 1).int + fi s 2)), .i (((rowL n M P).getD (0 + (fi s 0).toNat) (.i 0)).fld 2).int]) = rowL n (Span.relax M (sideOf s)) P := by
  rw [Nat.zero_add, Nat.zero_add, rowL_at h0, rowL_at h3, Span.relax, if_pos hlt]
  have e : (((nodeD (M (fi s 3).toNat) (P (fi s 3).toNat)).fld 1).int) = (M (fi s 3).toNat).2 := rfl
  rw [e, hw]
  exact rowL_set (Span.way M (sideOf s)) h0
theorem relax_f {M : Nat → Span.Lab} {s : D} (hlt : ¬ Span.lt (Span.way M (sideOf s)) (M (sideOf s).me)) : Span.relax M (sideOf s) = M := by rw [Span.relax, if_neg hlt]
set_option maxHeartbeats 4000000 in
theorem pok_r16_roots : POK prog orc f_r16_roots := by
  refine pok_of ok_r16_roots mixed (by simp [ac_r16_roots, acP, callsP]) (by simp [ac_r16_roots, acS, callsS]) fun args hok => ?_
  show Fits orc nt_r16_roots rs_r16_roots ac_r16_roots args (pRoots args)
  unfold ac_r16_roots
  unfold pRoots
  split
  · rename_i ids ss
    simp only [okAs, okA, maxLen] at hok
    intro hc
    refine ⟨rfl, ?_⟩
    obtain ⟨c1, c2, c3, c4⟩ := hc
    repeat' (first | (with_reducible first | refine st_seq (fun K' hn he hr => ?_) | refine st_block (fun K' hn he hr => ?_) | refine st_region ?_ | refine st_tregion ?_ | refine st_draw ?_ | refine st_cond ?_ | refine st_skip ?_ | refine st_exit ?_ | refine st_ret ?_ | refine st_loop ?_ | refine st_op (fun G gn => ?_) | refine st_nil ?_ | refine st_gop ?_ | refine st_dop (fun G gn => ?_) | refine st_dnil ?_ | refine st_gdop ?_ | refine st_tl ?_) | (with_reducible refine gn _ _ ?_; clear gn G) | (with_reducible refine gn _ _ _ _ ?_; clear gn G) | (with_reducible first | refine Wr.mk ?_) | (with_reducible refine hn _ _ ?_; clear hn he hr K') | (with_reducible refine he _ _ _ ?_; clear hn he hr K') | (with_reducible refine hr _ _ ?_; clear hn he hr K') | ((with_reducible refine Eqn.mk (fun hq => ?_) ?_) <;> first | contradiction | skip) | (with_reducible first | refine Bo.yes (by decide) ?_ | refine Bo.no (by decide) ?_) | ((with_reducible refine Bo.gen (fun c hb => ?_)) <;> (try simp only [Nat.reduceAdd, toD, toDs, dInt, dBool, dStr, dList, dFs, dFld, List.getD_cons_zero, List.getD_cons_succ, Nat.zero_add, Int.reduceToNat] at hb) <;> (try simp only [cond_true, cond_false, toD, toDs, dInt, dBool, dStr, dList, dFs, dFld, List.getD_cons_zero, List.getD_cons_succ, Nat.zero_add, eqA, eqAs, decide_true, decide_false, beq_self_eq_true, Bool.not_true, Bool.not_false, Bool.and_true, Bool.true_and, Bool.and_self, cmpI, ↓reduceIte, Bool.false_eq_true, reduceCtorEq, Int.reduceEq, Int.reduceLT, Int.reduceLE] at hb) <;> first | (obtain rfl : c = true := hb) | (obtain rfl : c = false := hb) | skip) | ((with_reducible refine Br.cs (fun hq => ?_) (fun hq => ?_)) <;> (try simp only [cond_true, cond_false, toD, toDs, dInt, dBool, dStr, dList, dFs, dFld, List.getD_cons_zero, List.getD_cons_succ, Nat.zero_add, eqA, eqAs, decide_true, decide_false, beq_self_eq_true, Bool.not_true, Bool.not_false, Bool.and_true, Bool.true_and, Bool.and_self, cmpI, ↓reduceIte, Bool.false_eq_true, reduceCtorEq, Int.reduceEq, Int.reduceLT, Int.reduceLE] at hq) <;> first | contradiction | subst hq | skip) | (with_reducible first | refine Nd.mk trivial ?_ | refine Nd.mk (by decide) ?_ | refine Nd.mk ?_ ?_ | refine Leaf.mk rfl ?_ | refine LeafS.fin rfl ?_ | refine Fin.mk ?_ rfl | refine Fin.mk ?_ ?_) | ((with_reducible refine Nx.mk ?_ ?_ ?_ ?_) <;> first | rfl | skip) | ((conv => whnf); first | (with_reducible refine gn _ _ ?_; clear gn G) | (with_reducible refine gn _ _ _ _ ?_; clear gn G) | (with_reducible first | refine Wr.mk ?_) | (with_reducible refine hn _ _ ?_; clear hn he hr K') | (with_reducible refine he _ _ _ ?_; clear hn he hr K') | (with_reducible refine hr _ _ ?_; clear hn he hr K') | (with_reducible first | refine Nd.mk trivial ?_ | refine Nd.mk (by decide) ?_ | refine Nd.mk ?_ ?_ | refine Leaf.mk rfl ?_ | refine LeafS.fin rfl ?_ | refine Fin.mk ?_ rfl | refine Fin.mk ?_ ?_) | ((with_reducible refine Nx.mk ?_ ?_ ?_ ?_) <;> first | rfl | skip) | (with_reducible first | show Bo _ _ | show Br _ _ _ | show Eqn _ _ _)))
    refine loop_of (fun i : Nat => [(0, .sl (.int .u64) ids .no), (1, .sl TySide ss .no), (5, .rsl 0 TyNode 0 i), (6, .int .i64 i)]) (fun i => [.grw TyNode (rowL i (fun v => (getI ids v, 0)) fun _ => -1)]) (fun i => i ≤ ids.length) (fun i => ids.length - i) 0 rfl rfl (Nat.zero_le _) (fun _ _ => rfl) ?_
    intro i hi J hJ K' hn he hr
    have hw : i < ids.length → IntKind.i64.wrap ((i : Int) + 1) = ((i + 1 : Nat) : Int) := fun _ => wi64_in (by omega) (by omega)
    by_cases hlt : i < ids.length
    · have hlt' : (i : Int) < ids.length := by omega
      repeat' (first | (with_reducible first | refine st_seq (fun K' hn he hr => ?_) | refine st_block (fun K' hn he hr => ?_) | refine st_region ?_ | refine st_tregion ?_ | refine st_draw ?_ | refine st_cond ?_ | refine st_skip ?_ | refine st_exit ?_ | refine st_ret ?_ | refine st_loop ?_ | refine st_op (fun G gn => ?_) | refine st_nil ?_ | refine st_gop ?_ | refine st_dop (fun G gn => ?_) | refine st_dnil ?_ | refine st_gdop ?_ | refine st_tl ?_) | (with_reducible refine gn _ _ ?_; clear gn G) | (with_reducible refine gn _ _ _ _ ?_; clear gn G) | (with_reducible first | refine Wr.mk ?_) | (with_reducible refine hn _ _ ?_; clear hn he hr K') | (with_reducible refine he _ _ _ ?_; clear hn he hr K') | (with_reducible refine hr _ _ ?_; clear hn he hr K') | ((with_reducible refine Eqn.mk (fun hq => ?_) ?_) <;> first | contradiction | skip) | (with_reducible first | refine Bo.yes (by decide) ?_ | refine Bo.no (by decide) ?_) | ((with_reducible refine Bo.gen (fun c hb => ?_)) <;> (try simp only [Nat.reduceAdd, toD, toDs, dInt, dBool, dStr, dList, dFs, dFld, List.getD_cons_zero, List.getD_cons_succ, Nat.zero_add, Int.reduceToNat] at hb) <;> (try simp only [cond_true, cond_false, toD, toDs, dInt, dBool, dStr, dList, dFs, dFld, List.getD_cons_zero, List.getD_cons_succ, Nat.zero_add, eqA, eqAs, decide_true, decide_false, beq_self_eq_true, Bool.not_true, Bool.not_false, Bool.and_true, Bool.true_and, Bool.and_self, cmpI, ↓reduceIte, Bool.false_eq_true, reduceCtorEq, Int.reduceEq, Int.reduceLT, Int.reduceLE, hlt'] at hb) <;> first | (obtain rfl : c = true := hb) | (obtain rfl : c = false := hb) | skip) | ((with_reducible refine Br.cs (fun hq => ?_) (fun hq => ?_)) <;> (try simp only [cond_true, cond_false, toD, toDs, dInt, dBool, dStr, dList, dFs, dFld, List.getD_cons_zero, List.getD_cons_succ, Nat.zero_add, eqA, eqAs, decide_true, decide_false, beq_self_eq_true, Bool.not_true, Bool.not_false, Bool.and_true, Bool.true_and, Bool.and_self, cmpI, ↓reduceIte, Bool.false_eq_true, reduceCtorEq, Int.reduceEq, Int.reduceLT, Int.reduceLE, hlt'] at hq) <;> first | contradiction | subst hq | skip) | (with_reducible first | refine Nd.mk trivial ?_ | refine Nd.mk (by decide) ?_ | refine Nd.mk ?_ ?_ | refine Leaf.mk rfl ?_ | refine LeafS.fin rfl ?_ | refine Fin.mk ?_ rfl | refine Fin.mk ?_ ?_) | ((with_reducible refine Nx.mk ?_ ?_ ?_ ?_) <;> first | rfl | skip) | ((conv => whnf); first | (with_reducible refine gn _ _ ?_; clear gn G) | (with_reducible refine gn _ _ _ _ ?_; clear gn G) | (with_reducible first | refine Wr.mk ?_) | (with_reducible refine hn _ _ ?_; clear hn he hr K') | (with_reducible refine he _ _ _ ?_; clear hn he hr K') | (with_reducible refine hr _ _ ?_; clear hn he hr K') | (with_reducible first | refine Nd.mk trivial ?_ | refine Nd.mk (by decide) ?_ | refine Nd.mk ?_ ?_ | refine Leaf.mk rfl ?_ | refine LeafS.fin rfl ?_ | refine Fin.mk ?_ rfl | refine Fin.mk ?_ ?_) | ((with_reducible refine Nx.mk ?_ ?_ ?_ ?_) <;> first | rfl | skip) | (with_reducible first | show Bo _ _ | show Br _ _ _ | show Eqn _ _ _)))
      · omega
      · rw [rowL_len]
        exact ⟨rfl, by show roomy (i + 1) 24; unfold roomy; omega⟩
      · refine J_of (hJ (i + 1) (by omega) (by omega)) ?_ ?_
        · rw [hw hlt, rowL_len]
          rfl
        · rw [rowL_succ]
          rfl
    · have hlt' : ¬ (i : Int) < ids.length := by omega
      have : i = ids.length := by omega
      subst this
      clear hJ hi hw hlt
      repeat' (first | (with_reducible first | refine st_seq (fun K' hn he hr => ?_) | refine st_block (fun K' hn he hr => ?_) | refine st_region ?_ | refine st_tregion ?_ | refine st_draw ?_ | refine st_cond ?_ | refine st_skip ?_ | refine st_exit ?_ | refine st_ret ?_ | refine st_loop ?_ | refine st_op (fun G gn => ?_) | refine st_nil ?_ | refine st_gop ?_ | refine st_dop (fun G gn => ?_) | refine st_dnil ?_ | refine st_gdop ?_ | refine st_tl ?_) | (with_reducible refine gn _ _ ?_; clear gn G) | (with_reducible refine gn _ _ _ _ ?_; clear gn G) | (with_reducible first | refine Wr.mk ?_) | (with_reducible refine hn _ _ ?_; clear hn he hr K') | (with_reducible refine he _ _ _ ?_; clear hn he hr K') | (with_reducible refine hr _ _ ?_; clear hn he hr K') | ((with_reducible refine Eqn.mk (fun hq => ?_) ?_) <;> first | contradiction | skip) | (with_reducible first | refine Bo.yes (by decide) ?_ | refine Bo.no (by decide) ?_) | ((with_reducible refine Bo.gen (fun c hb => ?_)) <;> (try simp only [Nat.reduceAdd, toD, toDs, dInt, dBool, dStr, dList, dFs, dFld, List.getD_cons_zero, List.getD_cons_succ, Nat.zero_add, Int.reduceToNat] at hb) <;> (try simp only [cond_true, cond_false, toD, toDs, dInt, dBool, dStr, dList, dFs, dFld, List.getD_cons_zero, List.getD_cons_succ, Nat.zero_add, eqA, eqAs, decide_true, decide_false, beq_self_eq_true, Bool.not_true, Bool.not_false, Bool.and_true, Bool.true_and, Bool.and_self, cmpI, ↓reduceIte, Bool.false_eq_true, reduceCtorEq, Int.reduceEq, Int.reduceLT, Int.reduceLE, hlt'] at hb) <;> first | (obtain rfl : c = true := hb) | (obtain rfl : c = false := hb) | skip) | ((with_reducible refine Br.cs (fun hq => ?_) (fun hq => ?_)) <;> (try simp only [cond_true, cond_false, toD, toDs, dInt, dBool, dStr, dList, dFs, dFld, List.getD_cons_zero, List.getD_cons_succ, Nat.zero_add, eqA, eqAs, decide_true, decide_false, beq_self_eq_true, Bool.not_true, Bool.not_false, Bool.and_true, Bool.true_and, Bool.and_self, cmpI, ↓reduceIte, Bool.false_eq_true, reduceCtorEq, Int.reduceEq, Int.reduceLT, Int.reduceLE, hlt'] at hq) <;> first | contradiction | subst hq | skip) | (with_reducible first | refine Nd.mk trivial ?_ | refine Nd.mk (by decide) ?_ | refine Nd.mk ?_ ?_ | refine Leaf.mk rfl ?_ | refine LeafS.fin rfl ?_ | refine Fin.mk ?_ rfl | refine Fin.mk ?_ ?_) | ((with_reducible refine Nx.mk ?_ ?_ ?_ ?_) <;> first | rfl | skip) | ((conv => whnf); first | (with_reducible refine gn _ _ ?_; clear gn G) | (with_reducible refine gn _ _ _ _ ?_; clear gn G) | (with_reducible first | refine Wr.mk ?_) | (with_reducible refine hn _ _ ?_; clear hn he hr K') | (with_reducible refine he _ _ _ ?_; clear hn he hr K') | (with_reducible refine hr _ _ ?_; clear hn he hr K') | (with_reducible first | refine Nd.mk trivial ?_ | refine Nd.mk (by decide) ?_ | refine Nd.mk ?_ ?_ | refine Leaf.mk rfl ?_ | refine LeafS.fin rfl ?_ | refine Fin.mk ?_ rfl | refine Fin.mk ?_ ?_) | ((with_reducible refine Nx.mk ?_ ?_ ?_ ?_) <;> first | rfl | skip) | (with_reducible first | show Bo _ _ | show Br _ _ _ | show Eqn _ _ _)))
      · rw [rowL_len]
        exact ⟨rfl, by omega⟩
      have hn0 := hn
      have he0 := he
      have hr0 := hr
      clear hn he hr
      obtain ⟨n, hnl⟩ : ∃ n, ids.length = n := ⟨_, rfl⟩
      have hS := sides_in (n := ids.length) ⟨c1, c2, c3, c4⟩
      have hS' : ∀ s ∈ ss.map sideOf, s.me < ids.length ∧ s.you < ids.length ∧ 0 < s.c := fun s h => ⟨(hS s h).1, (hS s h).2.1, (hS s h).2.2.1⟩
      obtain ⟨S, hSs⟩ : ∃ S, ss.map sideOf = S := ⟨_, rfl⟩
      rw [hSs] at hS hS'
      obtain ⟨F, hF⟩ : ∃ F : Nat → Span.Lab, Span.B S (getI ids) ids.length = F := ⟨_, rfl⟩
      have hFf : ∀ s ∈ S, ¬ Span.lt (Span.way F s) (F s.me) := fun s h => hF ▸ Span.F_fix hS' h (by omega)
      refine loop_of (fun a : Nat × (Nat → Span.Lab) => [(0, .sl (.int .u64) ids .no), (1, .sl TySide ss .no), (5, .rsl 1 TyNode 0 ids.length), (7, .int .i64 a.1)]) (fun a => [.dead, .fix TyNode (rowL ids.length a.2 fun _ => -1) false])
        (fun a => a.1 ≤ ids.length ∧ (∀ v, ¬ Span.lt (Span.B S (getI ids) a.1 v) (a.2 v)) ∧ (∀ v, ¬ Span.lt (a.2 v) (F v)) ∧ Span.Small 200000000 ids.length a.2) (fun a => ids.length - a.1) (0, fun v => (getI ids v, 0)) rfl rfl
        ⟨Nat.zero_le _, fun v => Span.lt_irrefl _, fun v => hF ▸ Span.B_le_of S (getI ids) (Nat.zero_le _) v, fun v hv => ⟨Int.le_refl _, Int.mul_nonneg (by omega) (by omega)⟩⟩ (fun _ _ => rfl) ?_
      rintro ⟨k, L⟩ hi J hJ K' hn he hr
      simp only at hi
      obtain ⟨k1, k2, k3, k4⟩ := hi
      have hwk : k < ids.length → IntKind.i64.wrap ((k : Int) + 1) = ((k + 1 : Nat) : Int) := fun _ => wi64_in (by omega) (by omega)
      by_cases hkl : k < ids.length
      · have hkl' : (k : Int) < ids.length := by omega
        repeat' (first | (with_reducible first | refine st_seq (fun K' hn he hr => ?_) | refine st_block (fun K' hn he hr => ?_) | refine st_region ?_ | refine st_tregion ?_ | refine st_draw ?_ | refine st_cond ?_ | refine st_skip ?_ | refine st_exit ?_ | refine st_ret ?_ | refine st_loop ?_ | refine st_op (fun G gn => ?_) | refine st_nil ?_ | refine st_gop ?_ | refine st_dop (fun G gn => ?_) | refine st_dnil ?_ | refine st_gdop ?_ | refine st_tl ?_) | (with_reducible refine gn _ _ ?_; clear gn G) | (with_reducible refine gn _ _ _ _ ?_; clear gn G) | (with_reducible first | refine Wr.mk ?_) | (with_reducible refine hn _ _ ?_; clear hn he hr K') | (with_reducible refine he _ _ _ ?_; clear hn he hr K') | (with_reducible refine hr _ _ ?_; clear hn he hr K') | ((with_reducible refine Eqn.mk (fun hq => ?_) ?_) <;> first | contradiction | skip) | (with_reducible first | refine Bo.yes (by decide) ?_ | refine Bo.no (by decide) ?_) | ((with_reducible refine Bo.gen (fun c hb => ?_)) <;> (try simp only [Nat.reduceAdd, toD, toDs, dInt, dBool, dStr, dList, dFs, dFld, List.getD_cons_zero, List.getD_cons_succ, Nat.zero_add, Int.reduceToNat] at hb) <;> (try simp only [cond_true, cond_false, toD, toDs, dInt, dBool, dStr, dList, dFs, dFld, List.getD_cons_zero, List.getD_cons_succ, Nat.zero_add, eqA, eqAs, decide_true, decide_false, beq_self_eq_true, Bool.not_true, Bool.not_false, Bool.and_true, Bool.true_and, Bool.and_self, cmpI, ↓reduceIte, Bool.false_eq_true, reduceCtorEq, Int.reduceEq, Int.reduceLT, Int.reduceLE, hkl'] at hb) <;> first | (obtain rfl : c = true := hb) | (obtain rfl : c = false := hb) | skip) | ((with_reducible refine Br.cs (fun hq => ?_) (fun hq => ?_)) <;> (try simp only [cond_true, cond_false, toD, toDs, dInt, dBool, dStr, dList, dFs, dFld, List.getD_cons_zero, List.getD_cons_succ, Nat.zero_add, eqA, eqAs, decide_true, decide_false, beq_self_eq_true, Bool.not_true, Bool.not_false, Bool.and_true, Bool.true_and, Bool.and_self, cmpI, ↓reduceIte, Bool.false_eq_true, reduceCtorEq, Int.reduceEq, Int.reduceLT, Int.reduceLE, hkl'] at hq) <;> first | contradiction | subst hq | skip) | (with_reducible first | refine Nd.mk trivial ?_ | refine Nd.mk (by decide) ?_ | refine Nd.mk ?_ ?_ | refine Leaf.mk rfl ?_ | refine LeafS.fin rfl ?_ | refine Fin.mk ?_ rfl | refine Fin.mk ?_ ?_) | ((with_reducible refine Nx.mk ?_ ?_ ?_ ?_) <;> first | rfl | skip) | ((conv => whnf); first | (with_reducible refine gn _ _ ?_; clear gn G) | (with_reducible refine gn _ _ _ _ ?_; clear gn G) | (with_reducible first | refine Wr.mk ?_) | (with_reducible refine hn _ _ ?_; clear hn he hr K') | (with_reducible refine he _ _ _ ?_; clear hn he hr K') | (with_reducible refine hr _ _ ?_; clear hn he hr K') | (with_reducible first | refine Nd.mk trivial ?_ | refine Nd.mk (by decide) ?_ | refine Nd.mk ?_ ?_ | refine Leaf.mk rfl ?_ | refine LeafS.fin rfl ?_ | refine Fin.mk ?_ rfl | refine Fin.mk ?_ ?_) | ((with_reducible refine Nx.mk ?_ ?_ ?_ ?_) <;> first | rfl | skip) | (with_reducible first | show Bo _ _ | show Br _ _ _ | show Eqn _ _ _)))
        refine loop_of (fun i : Nat => [(0, .sl (.int .u64) ids .no), (1, .sl TySide ss .no), (5, .rsl 1 TyNode 0 ids.length), (7, .int .i64 k), (8, .int .i64 i)]) (fun i => [.dead, .fix TyNode (rowL ids.length (Span.rounds L (S.take i)) fun _ => -1) false])
          (fun i => i ≤ ss.length ∧ (∀ v, ¬ Span.lt (Span.rounds L (S.take i) v) (F v)) ∧ Span.Small 200000000 ids.length (Span.rounds L (S.take i))) (fun i => ss.length - i) 0 rfl rfl ⟨Nat.zero_le _, k3, k4⟩ (fun _ _ => rfl) ?_
        intro i hi J2 hJ2 K' hn he hr
        obtain ⟨i1, i2, i3⟩ := hi
        have hwi : i < ss.length → IntKind.i64.wrap ((i : Int) + 1) = ((i + 1 : Nat) : Int) := fun _ => wi64_in (by omega) (by omega)
        by_cases hil : i < ss.length
        · have hil' : (i : Int) < ss.length := by omega
          have hg := c4 i hil
          have hmem : sideOf (ss.getD i (.i 0)) ∈ S := by
            rw [← hSs, List.getD_eq_getElem?_getD, List.getElem?_eq_getElem hil]
            exact List.mem_map_of_mem (List.getElem_mem hil)
          have htk : S.take (i + 1) = S.take i ++ [sideOf (ss.getD i (.i 0))] := by
            have hl : i < S.length := by rw [← hSs, List.length_map]; exact hil
            rw [List.take_succ_eq_append_getElem hl]
            congr 2
            simp only [← hSs, List.getElem_map, List.getD_eq_getElem?_getD, List.getElem?_eq_getElem hil, Option.getD_some]
          obtain ⟨M, hM⟩ : ∃ M, Span.rounds L (S.take i) = M := ⟨_, rfl⟩
          rw [hM] at i2 i3
          rw [hM]
          obtain ⟨s, hs⟩ : ∃ s, ss.getD i (.i 0) = s := ⟨_, rfl⟩
          rw [hs] at hg hmem htk
          unfold fi at hg
          have b0 : (s.fld 0).int.toNat < ids.length := by omega
          have b3 : (s.fld 3).int.toNat < ids.length := by omega
          obtain ⟨me, hme⟩ : ∃ m, M (s.fld 0).int.toNat = m := ⟨_, rfl⟩
          obtain ⟨yo, hyo⟩ : ∃ m, M (s.fld 3).int.toNat = m := ⟨_, rfl⟩
          have b5 := i3.bound (by omega) b3
          have b6 := i3.bound (by omega) b0
          rw [hyo] at b5
          have b7 : IntKind.u32.wrap (yo.2 + (s.fld 2).int) = yo.2 + (s.fld 2).int := by rw [w32]; omega
          have q1 : (((rowL ids.length M fun x => -1).getD (s.fld 3).int.toNat (D.i 0)).fld 0).int = yo.1 := by rw [rowL_at b3, hyo]; rfl
          have q2 : (((rowL ids.length M fun x => -1).getD (s.fld 3).int.toNat (D.i 0)).fld 1).int = yo.2 := by rw [rowL_at b3, hyo]; rfl
          have q3 : (((rowL ids.length M fun x => -1).getD (s.fld 0).int.toNat (D.i 0)).fld 0).int = me.1 := by rw [rowL_at b0, hme]; rfl
          have q4 : (((rowL ids.length M fun x => -1).getD (s.fld 0).int.toNat (D.i 0)).fld 1).int = me.2 := by rw [rowL_at b0, hme]; rfl
          have hway : Span.way M (sideOf s) = (yo.1, yo.2 + (s.fld 2).int) := by
            show ((M (s.fld 3).int.toNat).1, (M (s.fld 3).int.toNat).2 + _) = _
            rw [hyo]
            rfl
          have hlt : ∀ p : Prop, (p ↔ (yo.1 < me.1 ∨ (yo.1 = me.1 ∧ yo.2 + (s.fld 2).int < me.2))) → (p ↔ Span.lt (Span.way M (sideOf s)) (M (sideOf s).me)) := fun p h => by
            rw [h, hway, show M (sideOf s).me = me from hme]
            rfl
          have hT : (yo.1 < me.1 ∨ (yo.1 = me.1 ∧ yo.2 + (s.fld 2).int < me.2)) → _ := fun h => relax_t (P := fun _ => -1) b0 b3 (by show IntKind.u32.wrap ((M (s.fld 3).int.toNat).2 + (s.fld 2).int) = (M (s.fld 3).int.toNat).2 + (s.fld 2).int; rw [hyo]; exact b7) ((hlt _ Iff.rfl).1 h)
          have hFl : ¬ (yo.1 < me.1 ∨ (yo.1 = me.1 ∧ yo.2 + (s.fld 2).int < me.2)) → _ := fun h => relax_f (M := M) (s := s) fun k => h ((hlt _ Iff.rfl).2 k)
          have hJn : ∀ e h, e = [(0, .sl (.int .u64) ids .no), (1, .sl TySide ss .no), (5, .rsl 1 TyNode 0 ids.length), (7, .int .i64 k), (8, .int .i64 (IntKind.i64.wrap ((i : Int) + 1)))] → h = [.dead, .fix TyNode (rowL ids.length (Span.relax M (sideOf s)) fun _ => -1) false] → J2 e h := fun e h he hh => by
            refine J_of (hJ2 (i + 1) ⟨by omega, ?_⟩ (by omega)) ?_ ?_
            · rw [htk, rounds_snoc, hM]
              have := hS _ hmem
              exact ⟨fun v => Span.relax_ge (hFf _ hmem) i2 v, i3.relax this.1 this.2.1 this.2.2⟩
            · rw [he, hwi hil]
            · rw [hh, htk, rounds_snoc, hM]
          clear hJ2 hJ hwi hwk hlt hS hS' hFf i2 i3 k2 k3 k4 htk hmem c4
          repeat' (first | (with_reducible first | refine st_seq (fun K' hn he hr => ?_) | refine st_block (fun K' hn he hr => ?_) | refine st_region ?_ | refine st_tregion ?_ | refine st_draw ?_ | refine st_cond ?_ | refine st_skip ?_ | refine st_exit ?_ | refine st_ret ?_ | refine st_loop ?_ | refine st_op (fun G gn => ?_) | refine st_nil ?_ | refine st_gop ?_ | refine st_dop (fun G gn => ?_) | refine st_dnil ?_ | refine st_gdop ?_ | refine st_tl ?_) | (with_reducible refine gn _ _ ?_; clear gn G) | (with_reducible refine gn _ _ _ _ ?_; clear gn G) | (with_reducible first | refine Wr.mk ?_) | (with_reducible refine hn _ _ ?_; clear hn he hr K') | (with_reducible refine he _ _ _ ?_; clear hn he hr K') | (with_reducible refine hr _ _ ?_; clear hn he hr K') | ((with_reducible refine Eqn.mk (fun hq => ?_) ?_) <;> first | contradiction | skip) | (with_reducible first | refine Bo.yes (by decide) ?_ | refine Bo.no (by decide) ?_) | ((with_reducible refine Bo.gen (fun c hb => ?_)) <;> (try simp only [Nat.reduceAdd, toD, toDs, dInt, dBool, dStr, dList, dFs, dFld, List.getD_cons_zero, List.getD_cons_succ, Nat.zero_add, Int.reduceToNat] at hb) <;> (try simp only [cond_true, cond_false, toD, toDs, dInt, dBool, dStr, dList, dFs, dFld, List.getD_cons_zero, List.getD_cons_succ, Nat.zero_add, eqA, eqAs, decide_true, decide_false, beq_self_eq_true, Bool.not_true, Bool.not_false, Bool.and_true, Bool.true_and, Bool.and_self, cmpI, ↓reduceIte, Bool.false_eq_true, reduceCtorEq, Int.reduceEq, Int.reduceLT, Int.reduceLE, Int.toNat_natCast, hil', hs, q1, q2, q3, q4, b7] at hb) <;> first | (obtain rfl : c = true := hb) | (obtain rfl : c = false := hb) | skip) | ((with_reducible refine Br.cs (fun hq => ?_) (fun hq => ?_)) <;> (try simp only [cond_true, cond_false, toD, toDs, dInt, dBool, dStr, dList, dFs, dFld, List.getD_cons_zero, List.getD_cons_succ, Nat.zero_add, eqA, eqAs, decide_true, decide_false, beq_self_eq_true, Bool.not_true, Bool.not_false, Bool.and_true, Bool.true_and, Bool.and_self, cmpI, ↓reduceIte, Bool.false_eq_true, reduceCtorEq, Int.reduceEq, Int.reduceLT, Int.reduceLE, Int.toNat_natCast, hil', hs, q1, q2, q3, q4, b7] at hq) <;> first | contradiction | subst hq | skip) | (with_reducible first | refine Nd.mk trivial ?_ | refine Nd.mk (by decide) ?_ | refine Nd.mk ?_ ?_ | refine Leaf.mk rfl ?_ | refine LeafS.fin rfl ?_ | refine Fin.mk ?_ rfl | refine Fin.mk ?_ ?_) | ((with_reducible refine Nx.mk ?_ ?_ ?_ ?_) <;> first | rfl | skip) | ((conv => whnf); first | (with_reducible refine gn _ _ ?_; clear gn G) | (with_reducible refine gn _ _ _ _ ?_; clear gn G) | (with_reducible first | refine Wr.mk ?_) | (with_reducible refine hn _ _ ?_; clear hn he hr K') | (with_reducible refine he _ _ _ ?_; clear hn he hr K') | (with_reducible refine hr _ _ ?_; clear hn he hr K') | (with_reducible first | refine Nd.mk trivial ?_ | refine Nd.mk (by decide) ?_ | refine Nd.mk ?_ ?_ | refine Leaf.mk rfl ?_ | refine LeafS.fin rfl ?_ | refine Fin.mk ?_ rfl | refine Fin.mk ?_ ?_) | ((with_reducible refine Nx.mk ?_ ?_ ?_ ?_) <;> first | rfl | skip) | (with_reducible first | show Bo _ _ | show Br _ _ _ | show Eqn _ _ _)))
          any_goals (first | omega | (rw [Int.toNat_natCast, hs]; omega))
          all_goals (subst hs; simp only [ctd, cfd] at *)
          all_goals refine hJn _ _ rfl ?_
          · have e := hT (by omega)
            exact congrArg (fun x => [Blk.dead, .fix TyNode x false]) e
          · have e := hT (by omega)
            exact congrArg (fun x => [Blk.dead, .fix TyNode x false]) e
          · rw [hFl (by omega)]
          · rw [hFl (by omega)]
        · have hil' : ¬ (i : Int) < ss.length := by omega
          have : i = ss.length := by omega
          subst this
          have hall : S.take ss.length = S := by rw [← hSs, ← List.length_map (f := sideOf), List.take_length]
          rw [hall] at i2 i3
          rw [hall]
          repeat' (first | (with_reducible first | refine st_seq (fun K' hn he hr => ?_) | refine st_block (fun K' hn he hr => ?_) | refine st_region ?_ | refine st_tregion ?_ | refine st_draw ?_ | refine st_cond ?_ | refine st_skip ?_ | refine st_exit ?_ | refine st_ret ?_ | refine st_loop ?_ | refine st_op (fun G gn => ?_) | refine st_nil ?_ | refine st_gop ?_ | refine st_dop (fun G gn => ?_) | refine st_dnil ?_ | refine st_gdop ?_ | refine st_tl ?_) | (with_reducible refine gn _ _ ?_; clear gn G) | (with_reducible refine gn _ _ _ _ ?_; clear gn G) | (with_reducible first | refine Wr.mk ?_) | (with_reducible refine hn _ _ ?_; clear hn he hr K') | (with_reducible refine he _ _ _ ?_; clear hn he hr K') | (with_reducible refine hr _ _ ?_; clear hn he hr K') | ((with_reducible refine Eqn.mk (fun hq => ?_) ?_) <;> first | contradiction | skip) | (with_reducible first | refine Bo.yes (by decide) ?_ | refine Bo.no (by decide) ?_) | ((with_reducible refine Bo.gen (fun c hb => ?_)) <;> (try simp only [Nat.reduceAdd, toD, toDs, dInt, dBool, dStr, dList, dFs, dFld, List.getD_cons_zero, List.getD_cons_succ, Nat.zero_add, Int.reduceToNat] at hb) <;> (try simp only [cond_true, cond_false, toD, toDs, dInt, dBool, dStr, dList, dFs, dFld, List.getD_cons_zero, List.getD_cons_succ, Nat.zero_add, eqA, eqAs, decide_true, decide_false, beq_self_eq_true, Bool.not_true, Bool.not_false, Bool.and_true, Bool.true_and, Bool.and_self, cmpI, ↓reduceIte, Bool.false_eq_true, reduceCtorEq, Int.reduceEq, Int.reduceLT, Int.reduceLE, hil'] at hb) <;> first | (obtain rfl : c = true := hb) | (obtain rfl : c = false := hb) | skip) | ((with_reducible refine Br.cs (fun hq => ?_) (fun hq => ?_)) <;> (try simp only [cond_true, cond_false, toD, toDs, dInt, dBool, dStr, dList, dFs, dFld, List.getD_cons_zero, List.getD_cons_succ, Nat.zero_add, eqA, eqAs, decide_true, decide_false, beq_self_eq_true, Bool.not_true, Bool.not_false, Bool.and_true, Bool.true_and, Bool.and_self, cmpI, ↓reduceIte, Bool.false_eq_true, reduceCtorEq, Int.reduceEq, Int.reduceLT, Int.reduceLE, hil'] at hq) <;> first | contradiction | subst hq | skip) | (with_reducible first | refine Nd.mk trivial ?_ | refine Nd.mk (by decide) ?_ | refine Nd.mk ?_ ?_ | refine Leaf.mk rfl ?_ | refine LeafS.fin rfl ?_ | refine Fin.mk ?_ rfl | refine Fin.mk ?_ ?_) | ((with_reducible refine Nx.mk ?_ ?_ ?_ ?_) <;> first | rfl | skip) | ((conv => whnf); first | (with_reducible refine gn _ _ ?_; clear gn G) | (with_reducible refine gn _ _ _ _ ?_; clear gn G) | (with_reducible first | refine Wr.mk ?_) | (with_reducible refine hn _ _ ?_; clear hn he hr K') | (with_reducible refine he _ _ _ ?_; clear hn he hr K') | (with_reducible refine hr _ _ ?_; clear hn he hr K') | (with_reducible first | refine Nd.mk trivial ?_ | refine Nd.mk (by decide) ?_ | refine Nd.mk ?_ ?_ | refine Leaf.mk rfl ?_ | refine LeafS.fin rfl ?_ | refine Fin.mk ?_ rfl | refine Fin.mk ?_ ?_) | ((with_reducible refine Nx.mk ?_ ?_ ?_ ?_) <;> first | rfl | skip) | (with_reducible first | show Bo _ _ | show Br _ _ _ | show Eqn _ _ _)))
          refine J_of (hJ (k + 1, Span.rounds L S) ⟨hkl, Span.rounds_B k2, i2, i3⟩ (by show _ - (k + 1) < _ - k; omega)) ?_ rfl
          rw [hwk hkl]
          try rfl
      · have hkl' : ¬ (k : Int) < ids.length := by omega
        have : k = ids.length := by omega
        subst this
        have hLF : L = labs ids ss := funext fun v => by
          unfold labs
          rw [hSs, hF]
          rw [hF] at k2
          exact Span.eq_of (k2 v) (k3 v)
        subst hLF
        repeat' (first | (with_reducible first | refine st_seq (fun K' hn he hr => ?_) | refine st_block (fun K' hn he hr => ?_) | refine st_region ?_ | refine st_tregion ?_ | refine st_draw ?_ | refine st_cond ?_ | refine st_skip ?_ | refine st_exit ?_ | refine st_ret ?_ | refine st_loop ?_ | refine st_op (fun G gn => ?_) | refine st_nil ?_ | refine st_gop ?_ | refine st_dop (fun G gn => ?_) | refine st_dnil ?_ | refine st_gdop ?_ | refine st_tl ?_) | (with_reducible refine gn _ _ ?_; clear gn G) | (with_reducible refine gn _ _ _ _ ?_; clear gn G) | (with_reducible first | refine Wr.mk ?_) | (with_reducible refine hn _ _ ?_; clear hn he hr K') | (with_reducible refine he _ _ _ ?_; clear hn he hr K') | (with_reducible refine hr _ _ ?_; clear hn he hr K') | ((with_reducible refine Eqn.mk (fun hq => ?_) ?_) <;> first | contradiction | skip) | (with_reducible first | refine Bo.yes (by decide) ?_ | refine Bo.no (by decide) ?_) | ((with_reducible refine Bo.gen (fun c hb => ?_)) <;> (try simp only [Nat.reduceAdd, toD, toDs, dInt, dBool, dStr, dList, dFs, dFld, List.getD_cons_zero, List.getD_cons_succ, Nat.zero_add, Int.reduceToNat] at hb) <;> (try simp only [cond_true, cond_false, toD, toDs, dInt, dBool, dStr, dList, dFs, dFld, List.getD_cons_zero, List.getD_cons_succ, Nat.zero_add, eqA, eqAs, decide_true, decide_false, beq_self_eq_true, Bool.not_true, Bool.not_false, Bool.and_true, Bool.true_and, Bool.and_self, cmpI, ↓reduceIte, Bool.false_eq_true, reduceCtorEq, Int.reduceEq, Int.reduceLT, Int.reduceLE, hkl'] at hb) <;> first | (obtain rfl : c = true := hb) | (obtain rfl : c = false := hb) | skip) | ((with_reducible refine Br.cs (fun hq => ?_) (fun hq => ?_)) <;> (try simp only [cond_true, cond_false, toD, toDs, dInt, dBool, dStr, dList, dFs, dFld, List.getD_cons_zero, List.getD_cons_succ, Nat.zero_add, eqA, eqAs, decide_true, decide_false, beq_self_eq_true, Bool.not_true, Bool.not_false, Bool.and_true, Bool.true_and, Bool.and_self, cmpI, ↓reduceIte, Bool.false_eq_true, reduceCtorEq, Int.reduceEq, Int.reduceLT, Int.reduceLE, hkl'] at hq) <;> first | contradiction | subst hq | skip) | (with_reducible first | refine Nd.mk trivial ?_ | refine Nd.mk (by decide) ?_ | refine Nd.mk ?_ ?_ | refine Leaf.mk rfl ?_ | refine LeafS.fin rfl ?_ | refine Fin.mk ?_ rfl | refine Fin.mk ?_ ?_) | ((with_reducible refine Nx.mk ?_ ?_ ?_ ?_) <;> first | rfl | skip) | ((conv => whnf); first | (with_reducible refine gn _ _ ?_; clear gn G) | (with_reducible refine gn _ _ _ _ ?_; clear gn G) | (with_reducible first | refine Wr.mk ?_) | (with_reducible refine hn _ _ ?_; clear hn he hr K') | (with_reducible refine he _ _ _ ?_; clear hn he hr K') | (with_reducible refine hr _ _ ?_; clear hn he hr K') | (with_reducible first | refine Nd.mk trivial ?_ | refine Nd.mk (by decide) ?_ | refine Nd.mk ?_ ?_ | refine Leaf.mk rfl ?_ | refine LeafS.fin rfl ?_ | refine Fin.mk ?_ rfl | refine Fin.mk ?_ ?_) | ((with_reducible refine Nx.mk ?_ ?_ ?_ ?_) <;> first | rfl | skip) | (with_reducible first | show Bo _ _ | show Br _ _ _ | show Eqn _ _ _)))
        refine he0 _ _ _ ?_
        clear he0 hn0 hr0 hJ
        repeat' (first | (with_reducible first | refine st_seq (fun K' hn he hr => ?_) | refine st_block (fun K' hn he hr => ?_) | refine st_region ?_ | refine st_tregion ?_ | refine st_draw ?_ | refine st_cond ?_ | refine st_skip ?_ | refine st_exit ?_ | refine st_ret ?_ | refine st_loop ?_ | refine st_op (fun G gn => ?_) | refine st_nil ?_ | refine st_gop ?_ | refine st_dop (fun G gn => ?_) | refine st_dnil ?_ | refine st_gdop ?_ | refine st_tl ?_) | (with_reducible refine gn _ _ ?_; clear gn G) | (with_reducible refine gn _ _ _ _ ?_; clear gn G) | (with_reducible first | refine Wr.mk ?_) | (with_reducible refine hn _ _ ?_; clear hn he hr K') | (with_reducible refine he _ _ _ ?_; clear hn he hr K') | (with_reducible refine hr _ _ ?_; clear hn he hr K') | ((with_reducible refine Eqn.mk (fun hq => ?_) ?_) <;> first | contradiction | skip) | (with_reducible first | refine Bo.yes (by decide) ?_ | refine Bo.no (by decide) ?_) | ((with_reducible refine Bo.gen (fun c hb => ?_)) <;> (try simp only [Nat.reduceAdd, toD, toDs, dInt, dBool, dStr, dList, dFs, dFld, List.getD_cons_zero, List.getD_cons_succ, Nat.zero_add, Int.reduceToNat] at hb) <;> (try simp only [cond_true, cond_false, toD, toDs, dInt, dBool, dStr, dList, dFs, dFld, List.getD_cons_zero, List.getD_cons_succ, Nat.zero_add, eqA, eqAs, decide_true, decide_false, beq_self_eq_true, Bool.not_true, Bool.not_false, Bool.and_true, Bool.true_and, Bool.and_self, cmpI, ↓reduceIte, Bool.false_eq_true, reduceCtorEq, Int.reduceEq, Int.reduceLT, Int.reduceLE] at hb) <;> first | (obtain rfl : c = true := hb) | (obtain rfl : c = false := hb) | skip) | ((with_reducible refine Br.cs (fun hq => ?_) (fun hq => ?_)) <;> (try simp only [cond_true, cond_false, toD, toDs, dInt, dBool, dStr, dList, dFs, dFld, List.getD_cons_zero, List.getD_cons_succ, Nat.zero_add, eqA, eqAs, decide_true, decide_false, beq_self_eq_true, Bool.not_true, Bool.not_false, Bool.and_true, Bool.true_and, Bool.and_self, cmpI, ↓reduceIte, Bool.false_eq_true, reduceCtorEq, Int.reduceEq, Int.reduceLT, Int.reduceLE] at hq) <;> first | contradiction | subst hq | skip) | (with_reducible first | refine Nd.mk trivial ?_ | refine Nd.mk (by decide) ?_ | refine Nd.mk ?_ ?_ | refine Leaf.mk rfl ?_ | refine LeafS.fin rfl ?_ | refine Fin.mk ?_ rfl | refine Fin.mk ?_ ?_) | ((with_reducible refine Nx.mk ?_ ?_ ?_ ?_) <;> first | rfl | skip) | ((conv => whnf); first | (with_reducible refine gn _ _ ?_; clear gn G) | (with_reducible refine gn _ _ _ _ ?_; clear gn G) | (with_reducible first | refine Wr.mk ?_) | (with_reducible refine hn _ _ ?_; clear hn he hr K') | (with_reducible refine he _ _ _ ?_; clear hn he hr K') | (with_reducible refine hr _ _ ?_; clear hn he hr K') | (with_reducible first | refine Nd.mk trivial ?_ | refine Nd.mk (by decide) ?_ | refine Nd.mk ?_ ?_ | refine Leaf.mk rfl ?_ | refine LeafS.fin rfl ?_ | refine Fin.mk ?_ rfl | refine Fin.mk ?_ ?_) | ((with_reducible refine Nx.mk ?_ ?_ ?_ ?_) <;> first | rfl | skip) | (with_reducible first | show Bo _ _ | show Br _ _ _ | show Eqn _ _ _)))
        all_goals first | rfl
  · trivial
end Go.Vc.Seat
