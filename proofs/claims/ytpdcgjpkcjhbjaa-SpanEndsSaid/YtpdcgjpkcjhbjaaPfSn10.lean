/- A part of the proof of the seat's laws: PfSn10. It states no claim by itself. -/
import Derived.Test.YtpdcgjpkcjhbjaaPfSn9
set_option linter.unusedVariables false
set_option linter.unusedSimpArgs false
namespace Go.Vc.Seat
open Go.Vc Go.Proofs.Try

def vrow (n : Nat) (B : Nat → V4) : List D := (List.range n).map fun v => vD (B v)
theorem vrow_len (n : Nat) (B : Nat → V4) : (vrow n B).length = n := by simp [vrow]
theorem vrow_at {n v : Nat} {B : Nat → V4} (h : v < n) : (vrow n B).getD v (.i 0) = vD (B v) := by
  simp [vrow, List.getD_eq_getElem?_getD, h]
theorem vrow_succ (n : Nat) (B : Nat → V4) : vrow (n + 1) B = vrow n B ++ [vD (B n)] := by
  simp [vrow, List.range_succ]
theorem vrow_congr {n : Nat} {B B' : Nat → V4} (h : ∀ v, v < n → B v = B' v) : vrow n B = vrow n B' := by
  unfold vrow
  refine List.map_congr_left fun v hv => ?_
  rw [h v (by simpa using hv)]
theorem vrow_set {n v : Nat} {B : Nat → V4} (x : V4) (h : v < n) : (vrow n B).set v (vD x) = vrow n (fun w => if w = v then x else B w) := by
  refine List.ext_getElem (by simp [vrow]) fun i h1 h2 => ?_
  rw [List.getElem_set]
  simp only [vrow, List.getElem_map, List.getElem_range]
  by_cases hv : v = i
  · rw [if_pos hv, if_pos hv.symm]
  · rw [if_neg hv, if_neg (fun h => hv h.symm)]
/-- What each bridge holds for the best after so many sides. -/
def acc2 (ids : List D) (F : Nat → Span.Lab) (ss : List D) (i v : Nat) : Int × V4 := if (F v).1 = getI ids v then (-1, ⟨0, 0, 0, 0⟩) else (ss.take i).foldl (rpS ids F v) (-1, ⟨0, 0, 0, 0⟩)
theorem acc2_other {ids : List D} {F : Nat → Span.Lab} {ss : List D} {i v : Nat} (hi : i < ss.length) (h : fi (ss.getD i (.i 0)) 0 ≠ v ∨ (F v).1 = getI ids v) : acc2 ids F ss (i + 1) v = acc2 ids F ss i v := by
  unfold acc2
  by_cases hr : (F v).1 = getI ids v
  · rw [if_pos hr, if_pos hr]
  · rw [if_neg hr, if_neg hr, foldl_take _ _ _ _ hi, rpS, if_neg (by rcases h with h | h; exact h; exact absurd h hr)]
theorem acc2_me {ids : List D} {F : Nat → Span.Lab} {ss : List D} {i v : Nat} (hi : i < ss.length) (h : fi (ss.getD i (.i 0)) 0 = v) (hr : ¬ (F v).1 = getI ids v) : acc2 ids F ss (i + 1) v = rpStep ids F (acc2 ids F ss i v) (ss.getD i (.i 0)) := by
  unfold acc2
  rw [if_neg hr, if_neg hr, foldl_take _ _ _ _ hi, rpS, if_pos h]
theorem eq4_t {x y : V4} (h : true = (decide (x.r = y.r) && (decide (x.c = y.c) && (decide (x.b = y.b) && decide (x.p = y.p))))) : x = y := by
  have h := h.symm
  simp only [Bool.and_eq_true, decide_eq_true_eq] at h
  obtain ⟨a, b, c, d⟩ := x
  obtain ⟨a', b', c', d'⟩ := y
  simp only at h
  simp [h]
theorem eq4_f {x y : V4} (h : false = (decide (x.r = y.r) && (decide (x.c = y.c) && (decide (x.b = y.b) && decide (x.p = y.p))))) : ¬ x = y := by
  intro e
  subst e
  simp at h
theorem rw_1 {a : Int × V4} {v : V4} {p : Int} (h : a.1 < 0) : rpWins a v p = true := by simp [rpWins, h]
theorem rw_2 {a : Int × V4} {v : V4} {p : Int} (h : true = bet v a.2) : rpWins a v p = true := by simp [rpWins, ← h]
theorem rw_3 {a : Int × V4} {v : V4} {p : Int} (h : v = a.2) (k : p < a.1) : rpWins a v p = true := by simp [rpWins, h, k]
theorem rw_f {a : Int × V4} {v : V4} {p : Int} (h1 : ¬ a.1 < 0) (h2 : false = bet v a.2) (h3 : ¬ v = a.2 ∨ ¬ p < a.1) : rpWins a v p = false := by
  have h4 : ¬ (v = a.2 ∧ p < a.1) := fun h => by rcases h3 with h3 | h3; exact h3 h.1; exact h3 h.2
  simp only [rpWins, ← h2, decide_eq_false h1, decide_eq_false h4, Bool.or_false]
set_option maxHeartbeats 8000000 in
theorem pok_r16_Nodes : POK prog orc f_r16_Nodes := by
  refine pok_of ok_r16_Nodes mixed (by simp [ac_r16_Nodes, acP, callsP, pok_r16_Check, pok_r16_Sides, pok_r16_roots, pok_r16_Told, pok_r06_Add, pok_r06_Better]) (by simp [ac_r16_Nodes, acS, callsS]) fun args hok => ?_
  show Fits orc nt_r16_Nodes rs_r16_Nodes ac_r16_Nodes args (pNodes args)
  unfold ac_r16_Nodes
  unfold pNodes
  split
  · rename_i ids es
    clear hok
    refine ⟨fun hsp => ?_, fun hsp => ?_⟩
    · have hgs := goodS_of hsp
      obtain ⟨c1, c2, c3, c4⟩ := hgs
      have hsl := sidesD_len es
      have hle : es.length ≤ 24 := by omega
      obtain ⟨F, hF⟩ : ∃ F : Nat → Span.Lab, labs ids (sidesD es) = F := ⟨_, rfl⟩
      obtain ⟨ss, hss⟩ : ∃ ss, sidesD es = ss := ⟨_, rfl⟩
      rw [hss] at c3 c4 hsl
      refine ⟨rfl, ?_⟩
      repeat' (first | (with_reducible first | refine st_seq (fun K' hn he hr => ?_) | refine st_block (fun K' hn he hr => ?_) | refine st_region ?_ | refine st_tregion ?_ | refine st_draw ?_ | refine st_cond ?_ | refine st_skip ?_ | refine st_exit ?_ | refine st_ret ?_ | refine st_loop ?_ | refine st_op (fun G gn => ?_) | refine st_nil ?_ | refine st_gop ?_ | refine st_dop (fun G gn => ?_) | refine st_dnil ?_ | refine st_gdop ?_ | refine st_tl ?_) | (with_reducible refine gn _ _ ?_; clear gn G) | (with_reducible refine gn _ _ _ _ ?_; clear gn G) | (with_reducible first | refine Wr.mk ?_) | (with_reducible refine hn _ _ ?_; clear hn he hr K') | (with_reducible refine he _ _ _ ?_; clear hn he hr K') | (with_reducible refine hr _ _ ?_; clear hn he hr K') | ((with_reducible refine Eqn.mk (fun hq => ?_) ?_) <;> first | contradiction | skip) | (with_reducible first | refine Bo.yes (by decide) ?_ | refine Bo.no (by decide) ?_) | ((with_reducible refine Bo.gen (fun c hb => ?_)) <;> (try simp only [Nat.reduceAdd, toD, toDs, dInt, dBool, dStr, dList, dFs, dFld, List.getD_cons_zero, List.getD_cons_succ, Nat.zero_add, Int.reduceToNat] at hb) <;> (try simp only [cond_true, cond_false, toD, toDs, dInt, dBool, dStr, dList, dFs, dFld, List.getD_cons_zero, List.getD_cons_succ, Nat.zero_add, eqA, eqAs, decide_true, decide_false, beq_self_eq_true, Bool.not_true, Bool.not_false, Bool.and_true, Bool.true_and, Bool.and_self, cmpI, ↓reduceIte, Bool.false_eq_true, reduceCtorEq, Int.reduceEq, Int.reduceLT, Int.reduceLE, hsp] at hb) <;> first | (obtain rfl : c = true := hb) | (obtain rfl : c = false := hb) | skip) | ((with_reducible refine Br.cs (fun hq => ?_) (fun hq => ?_)) <;> (try simp only [cond_true, cond_false, toD, toDs, dInt, dBool, dStr, dList, dFs, dFld, List.getD_cons_zero, List.getD_cons_succ, Nat.zero_add, eqA, eqAs, decide_true, decide_false, beq_self_eq_true, Bool.not_true, Bool.not_false, Bool.and_true, Bool.true_and, Bool.and_self, cmpI, ↓reduceIte, Bool.false_eq_true, reduceCtorEq, Int.reduceEq, Int.reduceLT, Int.reduceLE, hsp] at hq) <;> first | contradiction | subst hq | skip) | (with_reducible first | refine Nd.mk trivial ?_ | refine Nd.mk (by decide) ?_ | refine Nd.mk ?_ ?_ | refine Leaf.mk rfl ?_ | refine LeafS.fin rfl ?_ | refine Fin.mk ?_ rfl | refine Fin.mk ?_ ?_) | ((with_reducible refine Nx.mk ?_ ?_ ?_ ?_) <;> first | rfl | skip) | ((conv => whnf); first | (with_reducible refine gn _ _ ?_; clear gn G) | (with_reducible refine gn _ _ _ _ ?_; clear gn G) | (with_reducible first | refine Wr.mk ?_) | (with_reducible refine hn _ _ ?_; clear hn he hr K') | (with_reducible refine he _ _ _ ?_; clear hn he hr K') | (with_reducible refine hr _ _ ?_; clear hn he hr K') | (with_reducible first | refine Nd.mk trivial ?_ | refine Nd.mk (by decide) ?_ | refine Nd.mk ?_ ?_ | refine Leaf.mk rfl ?_ | refine LeafS.fin rfl ?_ | refine Fin.mk ?_ rfl | refine Fin.mk ?_ ?_) | ((with_reducible refine Nx.mk ?_ ?_ ?_ ?_) <;> first | rfl | skip) | (with_reducible first | show Bo _ _ | show Br _ _ _ | show Eqn _ _ _)))
      · exact Nat.le_trans hle (by decide)
      · rw [hss]; exact ⟨c1, c2, c3, c4⟩
      rw [hF, hss]
      refine loop_of (fun i : Nat => [(0, .sl (.int .u64) ids .no), (7, .sl TySide ss (.own 0)), (8, .rsl 1 TyNode 0 ids.length), (9, .rsl 2 TyVec 0 i), (10, .int .i64 i)]) (fun i => [.ext TySide ss.length, .fix TyNode (rowL ids.length F fun _ => -1) false, .grw TyVec (vrow i fun _ => ⟨0, 0, 0, 0⟩)]) (fun i => i ≤ ids.length) (fun i => ids.length - i) 0 rfl rfl (Nat.zero_le _) (fun _ _ => rfl) ?_
      intro i hi J hJ K' hn he hr
      have hw : i < ids.length → IntKind.i64.wrap ((i : Int) + 1) = ((i + 1 : Nat) : Int) := fun _ => wi64_in (by omega) (by omega)
      by_cases hlt : i < ids.length
      · have hlt' : (i : Int) < ids.length := by omega
        repeat' (first | (with_reducible first | refine st_seq (fun K' hn he hr => ?_) | refine st_block (fun K' hn he hr => ?_) | refine st_region ?_ | refine st_tregion ?_ | refine st_draw ?_ | refine st_cond ?_ | refine st_skip ?_ | refine st_exit ?_ | refine st_ret ?_ | refine st_loop ?_ | refine st_op (fun G gn => ?_) | refine st_nil ?_ | refine st_gop ?_ | refine st_dop (fun G gn => ?_) | refine st_dnil ?_ | refine st_gdop ?_ | refine st_tl ?_) | (with_reducible refine gn _ _ ?_; clear gn G) | (with_reducible refine gn _ _ _ _ ?_; clear gn G) | (with_reducible first | refine Wr.mk ?_) | (with_reducible refine hn _ _ ?_; clear hn he hr K') | (with_reducible refine he _ _ _ ?_; clear hn he hr K') | (with_reducible refine hr _ _ ?_; clear hn he hr K') | ((with_reducible refine Eqn.mk (fun hq => ?_) ?_) <;> first | contradiction | skip) | (with_reducible first | refine Bo.yes (by decide) ?_ | refine Bo.no (by decide) ?_) | ((with_reducible refine Bo.gen (fun c hb => ?_)) <;> (try simp only [Nat.reduceAdd, toD, toDs, dInt, dBool, dStr, dList, dFs, dFld, List.getD_cons_zero, List.getD_cons_succ, Nat.zero_add, Int.reduceToNat] at hb) <;> (try simp only [cond_true, cond_false, toD, toDs, dInt, dBool, dStr, dList, dFs, dFld, List.getD_cons_zero, List.getD_cons_succ, Nat.zero_add, eqA, eqAs, decide_true, decide_false, beq_self_eq_true, Bool.not_true, Bool.not_false, Bool.and_true, Bool.true_and, Bool.and_self, cmpI, ↓reduceIte, Bool.false_eq_true, reduceCtorEq, Int.reduceEq, Int.reduceLT, Int.reduceLE, hlt'] at hb) <;> first | (obtain rfl : c = true := hb) | (obtain rfl : c = false := hb) | skip) | ((with_reducible refine Br.cs (fun hq => ?_) (fun hq => ?_)) <;> (try simp only [cond_true, cond_false, toD, toDs, dInt, dBool, dStr, dList, dFs, dFld, List.getD_cons_zero, List.getD_cons_succ, Nat.zero_add, eqA, eqAs, decide_true, decide_false, beq_self_eq_true, Bool.not_true, Bool.not_false, Bool.and_true, Bool.true_and, Bool.and_self, cmpI, ↓reduceIte, Bool.false_eq_true, reduceCtorEq, Int.reduceEq, Int.reduceLT, Int.reduceLE, hlt'] at hq) <;> first | contradiction | subst hq | skip) | (with_reducible first | refine Nd.mk trivial ?_ | refine Nd.mk (by decide) ?_ | refine Nd.mk ?_ ?_ | refine Leaf.mk rfl ?_ | refine LeafS.fin rfl ?_ | refine Fin.mk ?_ rfl | refine Fin.mk ?_ ?_) | ((with_reducible refine Nx.mk ?_ ?_ ?_ ?_) <;> first | rfl | skip) | ((conv => whnf); first | (with_reducible refine gn _ _ ?_; clear gn G) | (with_reducible refine gn _ _ _ _ ?_; clear gn G) | (with_reducible first | refine Wr.mk ?_) | (with_reducible refine hn _ _ ?_; clear hn he hr K') | (with_reducible refine he _ _ _ ?_; clear hn he hr K') | (with_reducible refine hr _ _ ?_; clear hn he hr K') | (with_reducible first | refine Nd.mk trivial ?_ | refine Nd.mk (by decide) ?_ | refine Nd.mk ?_ ?_ | refine Leaf.mk rfl ?_ | refine LeafS.fin rfl ?_ | refine Fin.mk ?_ rfl | refine Fin.mk ?_ ?_) | ((with_reducible refine Nx.mk ?_ ?_ ?_ ?_) <;> first | rfl | skip) | (with_reducible first | show Bo _ _ | show Br _ _ _ | show Eqn _ _ _)))
        · rw [vrow_len]
          exact ⟨rfl, by show roomy (i + 1) 32; unfold roomy; omega⟩
        · refine J_of (hJ (i + 1) (by omega) (by omega)) ?_ ?_
          · rw [hw hlt, vrow_len]
            rfl
          · rw [vrow_succ]
            rfl
      · have hlt' : ¬ (i : Int) < ids.length := by omega
        have : i = ids.length := by omega
        subst this
        clear hJ hi hw hlt
        repeat' (first | (with_reducible first | refine st_seq (fun K' hn he hr => ?_) | refine st_block (fun K' hn he hr => ?_) | refine st_region ?_ | refine st_tregion ?_ | refine st_draw ?_ | refine st_cond ?_ | refine st_skip ?_ | refine st_exit ?_ | refine st_ret ?_ | refine st_loop ?_ | refine st_op (fun G gn => ?_) | refine st_nil ?_ | refine st_gop ?_ | refine st_dop (fun G gn => ?_) | refine st_dnil ?_ | refine st_gdop ?_ | refine st_tl ?_) | (with_reducible refine gn _ _ ?_; clear gn G) | (with_reducible refine gn _ _ _ _ ?_; clear gn G) | (with_reducible first | refine Wr.mk ?_) | (with_reducible refine hn _ _ ?_; clear hn he hr K') | (with_reducible refine he _ _ _ ?_; clear hn he hr K') | (with_reducible refine hr _ _ ?_; clear hn he hr K') | ((with_reducible refine Eqn.mk (fun hq => ?_) ?_) <;> first | contradiction | skip) | (with_reducible first | refine Bo.yes (by decide) ?_ | refine Bo.no (by decide) ?_) | ((with_reducible refine Bo.gen (fun c hb => ?_)) <;> (try simp only [Nat.reduceAdd, toD, toDs, dInt, dBool, dStr, dList, dFs, dFld, List.getD_cons_zero, List.getD_cons_succ, Nat.zero_add, Int.reduceToNat] at hb) <;> (try simp only [cond_true, cond_false, toD, toDs, dInt, dBool, dStr, dList, dFs, dFld, List.getD_cons_zero, List.getD_cons_succ, Nat.zero_add, eqA, eqAs, decide_true, decide_false, beq_self_eq_true, Bool.not_true, Bool.not_false, Bool.and_true, Bool.true_and, Bool.and_self, cmpI, ↓reduceIte, Bool.false_eq_true, reduceCtorEq, Int.reduceEq, Int.reduceLT, Int.reduceLE, hlt'] at hb) <;> first | (obtain rfl : c = true := hb) | (obtain rfl : c = false := hb) | skip) | ((with_reducible refine Br.cs (fun hq => ?_) (fun hq => ?_)) <;> (try simp only [cond_true, cond_false, toD, toDs, dInt, dBool, dStr, dList, dFs, dFld, List.getD_cons_zero, List.getD_cons_succ, Nat.zero_add, eqA, eqAs, decide_true, decide_false, beq_self_eq_true, Bool.not_true, Bool.not_false, Bool.and_true, Bool.true_and, Bool.and_self, cmpI, ↓reduceIte, Bool.false_eq_true, reduceCtorEq, Int.reduceEq, Int.reduceLT, Int.reduceLE, hlt'] at hq) <;> first | contradiction | subst hq | skip) | (with_reducible first | refine Nd.mk trivial ?_ | refine Nd.mk (by decide) ?_ | refine Nd.mk ?_ ?_ | refine Leaf.mk rfl ?_ | refine LeafS.fin rfl ?_ | refine Fin.mk ?_ rfl | refine Fin.mk ?_ ?_) | ((with_reducible refine Nx.mk ?_ ?_ ?_ ?_) <;> first | rfl | skip) | ((conv => whnf); first | (with_reducible refine gn _ _ ?_; clear gn G) | (with_reducible refine gn _ _ _ _ ?_; clear gn G) | (with_reducible first | refine Wr.mk ?_) | (with_reducible refine hn _ _ ?_; clear hn he hr K') | (with_reducible refine he _ _ _ ?_; clear hn he hr K') | (with_reducible refine hr _ _ ?_; clear hn he hr K') | (with_reducible first | refine Nd.mk trivial ?_ | refine Nd.mk (by decide) ?_ | refine Nd.mk ?_ ?_ | refine Leaf.mk rfl ?_ | refine LeafS.fin rfl ?_ | refine Fin.mk ?_ rfl | refine Fin.mk ?_ ?_) | ((with_reducible refine Nx.mk ?_ ?_ ?_ ?_) <;> first | rfl | skip) | (with_reducible first | show Bo _ _ | show Br _ _ _ | show Eqn _ _ _)))
        · rw [vrow_len]
          exact ⟨rfl, by omega⟩
        have hn0 := hn
        have he0 := he
        have hr0 := hr
        clear hn he hr
        refine loop_of (fun i : Nat => [(0, .sl (.int .u64) ids .no), (7, .sl TySide ss (.own 0)), (8, .rsl 1 TyNode 0 ids.length), (9, .rsl 3 TyVec 0 ids.length), (11, .int .i64 i)]) (fun i => [.ext TySide ss.length, .fix TyNode (rowL ids.length F fun v => (acc2 ids F ss i v).1) false, .dead, .fix TyVec (vrow ids.length fun v => (acc2 ids F ss i v).2) false]) (fun i => i ≤ ss.length) (fun i => ss.length - i) 0 rfl ?_ (Nat.zero_le _) (fun _ _ => rfl) ?_
        · have a1 : rowL ids.length F (fun _ => -1) = rowL ids.length F fun v => (acc2 ids F ss 0 v).1 := rowL_congr fun v _ => ⟨rfl, by unfold acc2; split <;> rfl⟩
          have a2 : (vrow ids.length fun _ => ⟨0, 0, 0, 0⟩) = vrow ids.length fun v => (acc2 ids F ss 0 v).2 := vrow_congr fun v _ => by unfold acc2; split <;> rfl
          rw [← a1, ← a2]
        intro i hi J hJ K' hn he hr
        have hw : i < ss.length → IntKind.i64.wrap ((i : Int) + 1) = ((i + 1 : Nat) : Int) := fun _ => wi64_in (by omega) (by omega)
        by_cases hlt : i < ss.length
        · have hlt' : (i : Int) < ss.length := by omega
          obtain ⟨A, hA⟩ : ∃ A, acc2 ids F ss i = A := ⟨_, rfl⟩
          obtain ⟨s, hs⟩ : ∃ s, ss.getD i (.i 0) = s := ⟨_, rfl⟩
          have hg := c4 i hlt
          rw [hs] at hg
          unfold fi at hg
          have b0 : (s.fld 0).int.toNat < ids.length := by omega
          have b3 : (s.fld 3).int.toNat < ids.length := by omega
          rw [show acc2 ids F ss i = A from hA]
          have q1 : (((rowL ids.length F fun v => (A v).1).getD (s.fld 0).int.toNat (D.i 0)).fld 0).int = (F (s.fld 0).int.toNat).1 := by rw [rowL_at b0]; rfl
          have q2 : (((rowL ids.length F fun v => (A v).1).getD (s.fld 0).int.toNat (D.i 0)).fld 1).int = (F (s.fld 0).int.toNat).2 := by rw [rowL_at b0]; rfl
          have q3 : (((rowL ids.length F fun v => (A v).1).getD (s.fld 0).int.toNat (D.i 0)).fld 2).int = (A (s.fld 0).int.toNat).1 := by rw [rowL_at b0]; rfl
          have htk : List.take ids.length (List.drop 0 (rowL ids.length F fun v => (A v).1)) = rowL ids.length F fun v => (A v).1 := by
            rw [List.drop_zero]
            exact List.take_of_length_le (by rw [rowL_len]; omega)
          have htk2 : List.take ids.length (rowL ids.length F fun v => (A v).1) = rowL ids.length F fun v => (A v).1 := List.take_of_length_le (by rw [rowL_len]; omega)
          have q4 : fi ((rowL ids.length F fun v => (A v).1).getD (s.fld 3).int.toNat (D.i 0)) 0 = (F (s.fld 3).int.toNat).1 := by rw [rowL_at b3]; rfl
          have q5 : fi ((rowL ids.length F fun v => (A v).1).getD (s.fld 3).int.toNat (D.i 0)) 1 = (F (s.fld 3).int.toNat).2 := by rw [rowL_at b3]; rfl
          have r0 : (((vrow ids.length fun v => (A v).2).getD (s.fld 0).int.toNat (D.i 0)).fld 0).int = (A (s.fld 0).int.toNat).2.r := by rw [vrow_at b0]; rfl
          have r1 : (((vrow ids.length fun v => (A v).2).getD (s.fld 0).int.toNat (D.i 0)).fld 1).int = (A (s.fld 0).int.toNat).2.c := by rw [vrow_at b0]; rfl
          have r2 : (((vrow ids.length fun v => (A v).2).getD (s.fld 0).int.toNat (D.i 0)).fld 2).int = (A (s.fld 0).int.toNat).2.b := by rw [vrow_at b0]; rfl
          have r3 : (((vrow ids.length fun v => (A v).2).getD (s.fld 0).int.toNat (D.i 0)).fld 3).int = (A (s.fld 0).int.toNat).2.p := by rw [vrow_at b0]; rfl
          have hoth : ∀ v, v ≠ (s.fld 0).int.toNat → acc2 ids F ss (i + 1) v = A v := fun v hne => by
            rw [← hA]
            refine acc2_other hlt (.inl ?_)
            rw [hs]
            intro h
            have : (s.fld 0).int = v := h
            omega
          have hJ0 : acc2 ids F ss (i + 1) (s.fld 0).int.toNat = A (s.fld 0).int.toNat → ∀ e0 h0, e0 = [(0, .sl (.int .u64) ids .no), (7, .sl TySide ss (.own 0)), (8, .rsl 1 TyNode 0 ids.length), (9, .rsl 3 TyVec 0 ids.length), (11, .int .i64 (IntKind.i64.wrap ((i : Int) + 1)))] → h0 = [.ext TySide ss.length, .fix TyNode (rowL ids.length F fun v => (A v).1) false, .dead, .fix TyVec (vrow ids.length fun v => (A v).2) false] → J e0 h0 := fun hme e0 h0 he0 hh0 => by
            have hall : ∀ v, acc2 ids F ss (i + 1) v = A v := fun v => by
              by_cases h : v = (s.fld 0).int.toNat
              · rw [h, hme]
              · exact hoth v h
            refine J_of (hJ (i + 1) (by omega) (by omega)) ?_ ?_
            · rw [he0, hw hlt]
            · rw [hh0]
              simp only [hall]
          by_cases hroot : (F (s.fld 0).int.toNat).1 = (ids.getD (s.fld 0).int.toNat (.i 0)).int
          · have hme : acc2 ids F ss (i + 1) (s.fld 0).int.toNat = A (s.fld 0).int.toNat := by rw [← hA]; exact acc2_other hlt (.inr hroot)
            clear hw hJ
            repeat' (first | (with_reducible first | refine st_seq (fun K' hn he hr => ?_) | refine st_block (fun K' hn he hr => ?_) | refine st_region ?_ | refine st_tregion ?_ | refine st_draw ?_ | refine st_cond ?_ | refine st_skip ?_ | refine st_exit ?_ | refine st_ret ?_ | refine st_loop ?_ | refine st_op (fun G gn => ?_) | refine st_nil ?_ | refine st_gop ?_ | refine st_dop (fun G gn => ?_) | refine st_dnil ?_ | refine st_gdop ?_ | refine st_tl ?_) | (with_reducible refine gn _ _ ?_; clear gn G) | (with_reducible refine gn _ _ _ _ ?_; clear gn G) | (with_reducible first | refine Wr.mk ?_) | (with_reducible refine hn _ _ ?_; clear hn he hr K') | (with_reducible refine he _ _ _ ?_; clear hn he hr K') | (with_reducible refine hr _ _ ?_; clear hn he hr K') | ((with_reducible refine Eqn.mk (fun hq => ?_) ?_) <;> first | contradiction | skip) | (with_reducible first | refine Bo.yes (by decide) ?_ | refine Bo.no (by decide) ?_) | ((with_reducible refine Bo.gen (fun c hb => ?_)) <;> (try simp only [Nat.reduceAdd, toD, toDs, dInt, dBool, dStr, dList, dFs, dFld, List.getD_cons_zero, List.getD_cons_succ, Nat.zero_add, Int.reduceToNat] at hb) <;> (try simp only [cond_true, cond_false, toD, toDs, dInt, dBool, dStr, dList, dFs, dFld, List.getD_cons_zero, List.getD_cons_succ, Nat.zero_add, eqA, eqAs, decide_true, decide_false, beq_self_eq_true, Bool.not_true, Bool.not_false, Bool.and_true, Bool.true_and, Bool.and_self, cmpI, ↓reduceIte, Bool.false_eq_true, reduceCtorEq, Int.reduceEq, Int.reduceLT, Int.reduceLE, Int.toNat_natCast, hlt', hs, q1, q2, q3, hroot] at hb) <;> first | (obtain rfl : c = true := hb) | (obtain rfl : c = false := hb) | skip) | ((with_reducible refine Br.cs (fun hq => ?_) (fun hq => ?_)) <;> (try simp only [cond_true, cond_false, toD, toDs, dInt, dBool, dStr, dList, dFs, dFld, List.getD_cons_zero, List.getD_cons_succ, Nat.zero_add, eqA, eqAs, decide_true, decide_false, beq_self_eq_true, Bool.not_true, Bool.not_false, Bool.and_true, Bool.true_and, Bool.and_self, cmpI, ↓reduceIte, Bool.false_eq_true, reduceCtorEq, Int.reduceEq, Int.reduceLT, Int.reduceLE, Int.toNat_natCast, hlt', hs, q1, q2, q3, hroot] at hq) <;> first | contradiction | subst hq | skip) | (with_reducible first | refine Nd.mk trivial ?_ | refine Nd.mk (by decide) ?_ | refine Nd.mk ?_ ?_ | refine Leaf.mk rfl ?_ | refine LeafS.fin rfl ?_ | refine Fin.mk ?_ rfl | refine Fin.mk ?_ ?_) | ((with_reducible refine Nx.mk ?_ ?_ ?_ ?_) <;> first | rfl | skip) | ((conv => whnf); first | (with_reducible refine gn _ _ ?_; clear gn G) | (with_reducible refine gn _ _ _ _ ?_; clear gn G) | (with_reducible first | refine Wr.mk ?_) | (with_reducible refine hn _ _ ?_; clear hn he hr K') | (with_reducible refine he _ _ _ ?_; clear hn he hr K') | (with_reducible refine hr _ _ ?_; clear hn he hr K') | (with_reducible first | refine Nd.mk trivial ?_ | refine Nd.mk (by decide) ?_ | refine Nd.mk ?_ ?_ | refine Leaf.mk rfl ?_ | refine LeafS.fin rfl ?_ | refine Fin.mk ?_ rfl | refine Fin.mk ?_ ?_) | ((with_reducible refine Nx.mk ?_ ?_ ?_ ?_) <;> first | rfl | skip) | (with_reducible first | show Bo _ _ | show Br _ _ _ | show Eqn _ _ _)))
            any_goals (first | omega | (rw [Int.toNat_natCast, hs]; omega))
            exact hJ0 hme _ _ rfl rfl
          · have hme : acc2 ids F ss (i + 1) (s.fld 0).int.toNat = rpStep ids F (A (s.fld 0).int.toNat) s := by
              rw [← hA]
              have := acc2_me (ids := ids) (F := F) (v := (s.fld 0).int.toNat) hlt (by rw [hs]; show (s.fld 0).int = _; omega) hroot
              rw [hs] at this
              exact this
            have hlose : rpWins (A (s.fld 0).int.toNat) (addV ids F s) (fi s 1) = false → acc2 ids F ss (i + 1) (s.fld 0).int.toNat = A (s.fld 0).int.toNat := fun h => by
              rw [hme, rpStep, h]
              rfl
            have hJ1 : rpWins (A (s.fld 0).int.toNat) (addV ids F s) (fi s 1) = true → ∀ e0 h0, e0 = [(0, .sl (.int .u64) ids .no), (7, .sl TySide ss (.own 0)), (8, .rsl 1 TyNode 0 ids.length), (9, .rsl 3 TyVec 0 ids.length), (11, .int .i64 (IntKind.i64.wrap ((i : Int) + 1)))] → h0 = [.ext TySide ss.length,
                .fix TyNode ((rowL ids.length F fun v => (A v).1).set (0 + (s.fld 0).int.toNat) (.a [.i (((rowL ids.length F fun v => (A v).1).getD (0 + (s.fld 0).int.toNat) (.i 0)).fld 0).int, .i (((rowL ids.length F fun v => (A v).1).getD (0 + (s.fld 0).int.toNat) (.i 0)).fld 1).int, .i (s.fld 1).int])) false, .dead,
                .fix TyVec ((vrow ids.length fun v => (A v).2).set (0 + (s.fld 0).int.toNat) (.a [.i (fi ((List.take ids.length (List.drop 0 (rowL ids.length F fun v => (A v).1))).getD (s.fld 3).int.toNat (.i 0)) 0), .i (IntKind.u32.wrap (fi ((List.take ids.length (List.drop 0 (rowL ids.length F fun v => (A v).1))).getD (s.fld 3).int.toNat (.i 0)) 1 + (s.fld 2).int)), .i (getI ids (s.fld 3).int.toNat), .i (portID (s.fld 4).int)])) false] → J e0 h0 := fun hwn e0 h0 he0 hh0 => by
              have hX : acc2 ids F ss (i + 1) (s.fld 0).int.toNat = (fi s 1, addV ids F s) := by
                rw [hme, rpStep, hwn]
                rfl
              have hall : ∀ v, acc2 ids F ss (i + 1) v = if v = (s.fld 0).int.toNat then (fi s 1, addV ids F s) else A v := fun v => by
                by_cases h : v = (s.fld 0).int.toNat
                · rw [if_pos h, h, hX]
                · rw [if_neg h, hoth v h]
              refine J_of (hJ (i + 1) (by omega) (by omega)) ?_ ?_
              · rw [he0, hw hlt]
              · have p1 : (rowL ids.length F fun v => (acc2 ids F ss (i + 1) v).1) = (rowL ids.length F fun v => (A v).1).set (s.fld 0).int.toNat (nodeD (F (s.fld 0).int.toNat) (fi s 1)) := by
                  rw [rowL_setP _ b0]
                  refine rowL_congr fun v _ => ⟨rfl, ?_⟩
                  rw [hall]
                  split <;> rfl
                have p2 : (vrow ids.length fun v => (acc2 ids F ss (i + 1) v).2) = (vrow ids.length fun v => (A v).2).set (s.fld 0).int.toNat (vD (addV ids F s)) := by
                  rw [vrow_set _ b0]
                  refine vrow_congr fun v _ => ?_
                  rw [hall]
                  split <;> rfl
                rw [hh0, p1, p2, htk, q4, q5, Nat.zero_add, rowL_at b0]
                rfl
            clear hw hJ
            repeat' (first | (with_reducible first | refine st_seq (fun K' hn he hr => ?_) | refine st_block (fun K' hn he hr => ?_) | refine st_region ?_ | refine st_tregion ?_ | refine st_draw ?_ | refine st_cond ?_ | refine st_skip ?_ | refine st_exit ?_ | refine st_ret ?_ | refine st_loop ?_ | refine st_op (fun G gn => ?_) | refine st_nil ?_ | refine st_gop ?_ | refine st_dop (fun G gn => ?_) | refine st_dnil ?_ | refine st_gdop ?_ | refine st_tl ?_) | (with_reducible refine gn _ _ ?_; clear gn G) | (with_reducible refine gn _ _ _ _ ?_; clear gn G) | (with_reducible first | refine Wr.mk ?_) | (with_reducible refine hn _ _ ?_; clear hn he hr K') | (with_reducible refine he _ _ _ ?_; clear hn he hr K') | (with_reducible refine hr _ _ ?_; clear hn he hr K') | ((with_reducible refine Eqn.mk (fun hq => ?_) ?_) <;> first | contradiction | skip) | (with_reducible first | refine Bo.yes (by decide) ?_ | refine Bo.no (by decide) ?_) | ((with_reducible refine Bo.gen (fun c hb => ?_)) <;> (try simp only [Nat.reduceAdd, toD, toDs, dInt, dBool, dStr, dList, dFs, dFld, List.getD_cons_zero, List.getD_cons_succ, Nat.zero_add, Int.reduceToNat] at hb) <;> (try simp only [cond_true, cond_false, toD, toDs, dInt, dBool, dStr, dList, dFs, dFld, List.getD_cons_zero, List.getD_cons_succ, Nat.zero_add, eqA, eqAs, decide_true, decide_false, beq_self_eq_true, Bool.not_true, Bool.not_false, Bool.and_true, Bool.true_and, Bool.and_self, cmpI, ↓reduceIte, Bool.false_eq_true, reduceCtorEq, Int.reduceEq, Int.reduceLT, Int.reduceLE, Int.toNat_natCast, hlt', hs, q1, q2, q3, q4, q5, r0, r1, r2, r3, hroot, htk, htk2, List.drop_zero] at hb) <;> first | (obtain rfl : c = true := hb) | (obtain rfl : c = false := hb) | skip) | ((with_reducible refine Br.cs (fun hq => ?_) (fun hq => ?_)) <;> (try simp only [cond_true, cond_false, toD, toDs, dInt, dBool, dStr, dList, dFs, dFld, List.getD_cons_zero, List.getD_cons_succ, Nat.zero_add, eqA, eqAs, decide_true, decide_false, beq_self_eq_true, Bool.not_true, Bool.not_false, Bool.and_true, Bool.true_and, Bool.and_self, cmpI, ↓reduceIte, Bool.false_eq_true, reduceCtorEq, Int.reduceEq, Int.reduceLT, Int.reduceLE, Int.toNat_natCast, hlt', hs, q1, q2, q3, q4, q5, r0, r1, r2, r3, hroot, htk, htk2, List.drop_zero] at hq) <;> first | contradiction | subst hq | skip) | (with_reducible first | refine Nd.mk trivial ?_ | refine Nd.mk (by decide) ?_ | refine Nd.mk ?_ ?_ | refine Leaf.mk rfl ?_ | refine LeafS.fin rfl ?_ | refine Fin.mk ?_ rfl | refine Fin.mk ?_ ?_) | ((with_reducible refine Nx.mk ?_ ?_ ?_ ?_) <;> first | rfl | skip) | ((conv => whnf); first | (with_reducible refine gn _ _ ?_; clear gn G) | (with_reducible refine gn _ _ _ _ ?_; clear gn G) | (with_reducible first | refine Wr.mk ?_) | (with_reducible refine hn _ _ ?_; clear hn he hr K') | (with_reducible refine he _ _ _ ?_; clear hn he hr K') | (with_reducible refine hr _ _ ?_; clear hn he hr K') | (with_reducible first | refine Nd.mk trivial ?_ | refine Nd.mk (by decide) ?_ | refine Nd.mk ?_ ?_ | refine Leaf.mk rfl ?_ | refine LeafS.fin rfl ?_ | refine Fin.mk ?_ rfl | refine Fin.mk ?_ ?_) | ((with_reducible refine Nx.mk ?_ ?_ ?_ ?_) <;> first | rfl | skip) | (with_reducible first | show Bo _ _ | show Br _ _ _ | show Eqn _ _ _)))
            any_goals (first | omega | (rw [Int.toNat_natCast, hs]; omega) | (rw [Int.toNat_natCast, hs, htk, rowL_len]; show 0 ≤ (s.fld 3).int ∧ (s.fld 3).int < _ ∧ (s.fld 3).int < _; omega))
            all_goals (subst hs; simp only [ctd, cfd] at *)
            all_goals first
              | refine hJ1 (rw_1 (by assumption)) _ _ rfl rfl
              | refine hJ1 (rw_2 (by assumption)) _ _ rfl rfl
              | refine hJ1 (rw_3 (eq4_t (by assumption)) (by assumption)) _ _ rfl rfl
              | refine hJ0 (hlose (rw_f (by assumption) (by assumption) (.inr (by assumption)))) _ _ rfl rfl
              | refine hJ0 (hlose (rw_f (by assumption) (by assumption) (.inl (eq4_f (by assumption))))) _ _ rfl rfl
        · have hlt' : ¬ (i : Int) < ss.length := by omega
          have : i = ss.length := by omega
          subst this
          repeat' (first | (with_reducible first | refine st_seq (fun K' hn he hr => ?_) | refine st_block (fun K' hn he hr => ?_) | refine st_region ?_ | refine st_tregion ?_ | refine st_draw ?_ | refine st_cond ?_ | refine st_skip ?_ | refine st_exit ?_ | refine st_ret ?_ | refine st_loop ?_ | refine st_op (fun G gn => ?_) | refine st_nil ?_ | refine st_gop ?_ | refine st_dop (fun G gn => ?_) | refine st_dnil ?_ | refine st_gdop ?_ | refine st_tl ?_) | (with_reducible refine gn _ _ ?_; clear gn G) | (with_reducible refine gn _ _ _ _ ?_; clear gn G) | (with_reducible first | refine Wr.mk ?_) | (with_reducible refine hn _ _ ?_; clear hn he hr K') | (with_reducible refine he _ _ _ ?_; clear hn he hr K') | (with_reducible refine hr _ _ ?_; clear hn he hr K') | ((with_reducible refine Eqn.mk (fun hq => ?_) ?_) <;> first | contradiction | skip) | (with_reducible first | refine Bo.yes (by decide) ?_ | refine Bo.no (by decide) ?_) | ((with_reducible refine Bo.gen (fun c hb => ?_)) <;> (try simp only [Nat.reduceAdd, toD, toDs, dInt, dBool, dStr, dList, dFs, dFld, List.getD_cons_zero, List.getD_cons_succ, Nat.zero_add, Int.reduceToNat] at hb) <;> (try simp only [cond_true, cond_false, toD, toDs, dInt, dBool, dStr, dList, dFs, dFld, List.getD_cons_zero, List.getD_cons_succ, Nat.zero_add, eqA, eqAs, decide_true, decide_false, beq_self_eq_true, Bool.not_true, Bool.not_false, Bool.and_true, Bool.true_and, Bool.and_self, cmpI, ↓reduceIte, Bool.false_eq_true, reduceCtorEq, Int.reduceEq, Int.reduceLT, Int.reduceLE, hlt'] at hb) <;> first | (obtain rfl : c = true := hb) | (obtain rfl : c = false := hb) | skip) | ((with_reducible refine Br.cs (fun hq => ?_) (fun hq => ?_)) <;> (try simp only [cond_true, cond_false, toD, toDs, dInt, dBool, dStr, dList, dFs, dFld, List.getD_cons_zero, List.getD_cons_succ, Nat.zero_add, eqA, eqAs, decide_true, decide_false, beq_self_eq_true, Bool.not_true, Bool.not_false, Bool.and_true, Bool.true_and, Bool.and_self, cmpI, ↓reduceIte, Bool.false_eq_true, reduceCtorEq, Int.reduceEq, Int.reduceLT, Int.reduceLE, hlt'] at hq) <;> first | contradiction | subst hq | skip) | (with_reducible first | refine Nd.mk trivial ?_ | refine Nd.mk (by decide) ?_ | refine Nd.mk ?_ ?_ | refine Leaf.mk rfl ?_ | refine LeafS.fin rfl ?_ | refine Fin.mk ?_ rfl | refine Fin.mk ?_ ?_) | ((with_reducible refine Nx.mk ?_ ?_ ?_ ?_) <;> first | rfl | skip) | ((conv => whnf); first | (with_reducible refine gn _ _ ?_; clear gn G) | (with_reducible refine gn _ _ _ _ ?_; clear gn G) | (with_reducible first | refine Wr.mk ?_) | (with_reducible refine hn _ _ ?_; clear hn he hr K') | (with_reducible refine he _ _ _ ?_; clear hn he hr K') | (with_reducible refine hr _ _ ?_; clear hn he hr K') | (with_reducible first | refine Nd.mk trivial ?_ | refine Nd.mk (by decide) ?_ | refine Nd.mk ?_ ?_ | refine Leaf.mk rfl ?_ | refine LeafS.fin rfl ?_ | refine Fin.mk ?_ rfl | refine Fin.mk ?_ ?_) | ((with_reducible refine Nx.mk ?_ ?_ ?_ ?_) <;> first | rfl | skip) | (with_reducible first | show Bo _ _ | show Br _ _ _ | show Eqn _ _ _)))
          refine he0 _ _ _ ?_
          clear he0 hn0 hr0 hJ
          have hall : (rowL ids.length F fun v => (acc2 ids F ss ss.length v).1) = nodesD ids es := by
            have hF' : labs ids ss = F := hss ▸ hF
            unfold nodesD
            rw [hss, hF']
            refine rowL_congr fun v hv => ⟨rfl, ?_⟩
            unfold acc2 rpN rpOf
            rw [List.take_length, hF']
            split <;> rfl
          have hnl : (nodesD ids es).length = ids.length := rowL_len _ _ _
          repeat' (first | (with_reducible first | refine st_seq (fun K' hn he hr => ?_) | refine st_block (fun K' hn he hr => ?_) | refine st_region ?_ | refine st_tregion ?_ | refine st_draw ?_ | refine st_cond ?_ | refine st_skip ?_ | refine st_exit ?_ | refine st_ret ?_ | refine st_loop ?_ | refine st_op (fun G gn => ?_) | refine st_nil ?_ | refine st_gop ?_ | refine st_dop (fun G gn => ?_) | refine st_dnil ?_ | refine st_gdop ?_ | refine st_tl ?_) | (with_reducible refine gn _ _ ?_; clear gn G) | (with_reducible refine gn _ _ _ _ ?_; clear gn G) | (with_reducible first | refine Wr.mk ?_) | (with_reducible refine hn _ _ ?_; clear hn he hr K') | (with_reducible refine he _ _ _ ?_; clear hn he hr K') | (with_reducible refine hr _ _ ?_; clear hn he hr K') | ((with_reducible refine Eqn.mk (fun hq => ?_) ?_) <;> first | contradiction | skip) | (with_reducible first | refine Bo.yes (by decide) ?_ | refine Bo.no (by decide) ?_) | ((with_reducible refine Bo.gen (fun c hb => ?_)) <;> (try simp only [Nat.reduceAdd, toD, toDs, dInt, dBool, dStr, dList, dFs, dFld, List.getD_cons_zero, List.getD_cons_succ, Nat.zero_add, Int.reduceToNat] at hb) <;> (try simp only [cond_true, cond_false, toD, toDs, dInt, dBool, dStr, dList, dFs, dFld, List.getD_cons_zero, List.getD_cons_succ, Nat.zero_add, eqA, eqAs, decide_true, decide_false, beq_self_eq_true, Bool.not_true, Bool.not_false, Bool.and_true, Bool.true_and, Bool.and_self, cmpI, ↓reduceIte, Bool.false_eq_true, reduceCtorEq, Int.reduceEq, Int.reduceLT, Int.reduceLE] at hb) <;> first | (obtain rfl : c = true := hb) | (obtain rfl : c = false := hb) | skip) | ((with_reducible refine Br.cs (fun hq => ?_) (fun hq => ?_)) <;> (try simp only [cond_true, cond_false, toD, toDs, dInt, dBool, dStr, dList, dFs, dFld, List.getD_cons_zero, List.getD_cons_succ, Nat.zero_add, eqA, eqAs, decide_true, decide_false, beq_self_eq_true, Bool.not_true, Bool.not_false, Bool.and_true, Bool.true_and, Bool.and_self, cmpI, ↓reduceIte, Bool.false_eq_true, reduceCtorEq, Int.reduceEq, Int.reduceLT, Int.reduceLE] at hq) <;> first | contradiction | subst hq | skip) | (with_reducible first | refine Nd.mk trivial ?_ | refine Nd.mk (by decide) ?_ | refine Nd.mk ?_ ?_ | refine Leaf.mk rfl ?_ | refine LeafS.fin rfl ?_ | refine Fin.mk ?_ rfl | refine Fin.mk ?_ ?_) | ((with_reducible refine Nx.mk ?_ ?_ ?_ ?_) <;> first | rfl | skip) | ((conv => whnf); first | (with_reducible refine gn _ _ ?_; clear gn G) | (with_reducible refine gn _ _ _ _ ?_; clear gn G) | (with_reducible first | refine Wr.mk ?_) | (with_reducible refine hn _ _ ?_; clear hn he hr K') | (with_reducible refine he _ _ _ ?_; clear hn he hr K') | (with_reducible refine hr _ _ ?_; clear hn he hr K') | (with_reducible first | refine Nd.mk trivial ?_ | refine Nd.mk (by decide) ?_ | refine Nd.mk ?_ ?_ | refine Leaf.mk rfl ?_ | refine LeafS.fin rfl ?_ | refine Fin.mk ?_ rfl | refine Fin.mk ?_ ?_) | ((with_reducible refine Nx.mk ?_ ?_ ?_ ?_) <;> first | rfl | skip) | (with_reducible first | show Bo _ _ | show Br _ _ _ | show Eqn _ _ _)))
          · rw [hall]
            exact hnl.symm
          · rw [hall]
          · rw [hall]
    · refine ⟨rfl, ?_⟩
      repeat' (first | (with_reducible first | refine st_seq (fun K' hn he hr => ?_) | refine st_block (fun K' hn he hr => ?_) | refine st_region ?_ | refine st_tregion ?_ | refine st_draw ?_ | refine st_cond ?_ | refine st_skip ?_ | refine st_exit ?_ | refine st_ret ?_ | refine st_loop ?_ | refine st_op (fun G gn => ?_) | refine st_nil ?_ | refine st_gop ?_ | refine st_dop (fun G gn => ?_) | refine st_dnil ?_ | refine st_gdop ?_ | refine st_tl ?_) | (with_reducible refine gn _ _ ?_; clear gn G) | (with_reducible refine gn _ _ _ _ ?_; clear gn G) | (with_reducible first | refine Wr.mk ?_) | (with_reducible refine hn _ _ ?_; clear hn he hr K') | (with_reducible refine he _ _ _ ?_; clear hn he hr K') | (with_reducible refine hr _ _ ?_; clear hn he hr K') | ((with_reducible refine Eqn.mk (fun hq => ?_) ?_) <;> first | contradiction | skip) | (with_reducible first | refine Bo.yes (by decide) ?_ | refine Bo.no (by decide) ?_) | ((with_reducible refine Bo.gen (fun c hb => ?_)) <;> (try simp only [Nat.reduceAdd, toD, toDs, dInt, dBool, dStr, dList, dFs, dFld, List.getD_cons_zero, List.getD_cons_succ, Nat.zero_add, Int.reduceToNat] at hb) <;> (try simp only [cond_true, cond_false, toD, toDs, dInt, dBool, dStr, dList, dFs, dFld, List.getD_cons_zero, List.getD_cons_succ, Nat.zero_add, eqA, eqAs, decide_true, decide_false, beq_self_eq_true, Bool.not_true, Bool.not_false, Bool.and_true, Bool.true_and, Bool.and_self, cmpI, ↓reduceIte, Bool.false_eq_true, reduceCtorEq, Int.reduceEq, Int.reduceLT, Int.reduceLE, hsp] at hb) <;> first | (obtain rfl : c = true := hb) | (obtain rfl : c = false := hb) | skip) | ((with_reducible refine Br.cs (fun hq => ?_) (fun hq => ?_)) <;> (try simp only [cond_true, cond_false, toD, toDs, dInt, dBool, dStr, dList, dFs, dFld, List.getD_cons_zero, List.getD_cons_succ, Nat.zero_add, eqA, eqAs, decide_true, decide_false, beq_self_eq_true, Bool.not_true, Bool.not_false, Bool.and_true, Bool.true_and, Bool.and_self, cmpI, ↓reduceIte, Bool.false_eq_true, reduceCtorEq, Int.reduceEq, Int.reduceLT, Int.reduceLE, hsp] at hq) <;> first | contradiction | subst hq | skip) | (with_reducible first | refine Nd.mk trivial ?_ | refine Nd.mk (by decide) ?_ | refine Nd.mk ?_ ?_ | refine Leaf.mk rfl ?_ | refine LeafS.fin rfl ?_ | refine Fin.mk ?_ rfl | refine Fin.mk ?_ ?_) | ((with_reducible refine Nx.mk ?_ ?_ ?_ ?_) <;> first | rfl | skip) | ((conv => whnf); first | (with_reducible refine gn _ _ ?_; clear gn G) | (with_reducible refine gn _ _ _ _ ?_; clear gn G) | (with_reducible first | refine Wr.mk ?_) | (with_reducible refine hn _ _ ?_; clear hn he hr K') | (with_reducible refine he _ _ _ ?_; clear hn he hr K') | (with_reducible refine hr _ _ ?_; clear hn he hr K') | (with_reducible first | refine Nd.mk trivial ?_ | refine Nd.mk (by decide) ?_ | refine Nd.mk ?_ ?_ | refine Leaf.mk rfl ?_ | refine LeafS.fin rfl ?_ | refine Fin.mk ?_ rfl | refine Fin.mk ?_ ?_) | ((with_reducible refine Nx.mk ?_ ?_ ?_ ?_) <;> first | rfl | skip) | (with_reducible first | show Bo _ _ | show Br _ _ _ | show Eqn _ _ _)))
      rw [hsp]
      rfl
  · trivial
end Go.Vc.Seat
