/- A part of the proof of the seat's laws: PfSn8. It states no claim by itself. -/
import Derived.Test.YtpdcgjpkcjhbjaaPfSn7
set_option linter.unusedVariables false
set_option linter.unusedSimpArgs false
namespace Go.Vc.Seat
open Go.Vc Go.Proofs.Try

theorem foldl_take {α : Type} (f : α → D → α) (a : α) (l : List D) (k : Nat) (h : k < l.length) : (l.take (k + 1)).foldl f a = f ((l.take k).foldl f a) (l.getD k (.i 0)) := by
  rw [List.take_succ_eq_append_getElem h, List.foldl_append, List.getD_eq_getElem?_getD, List.getElem?_eq_getElem h]
  rfl
def vA (x : V4) : AV := .st [.int .u64 x.r, .int .u32 x.c, .int .u64 x.b, .int .u16 x.p]
def cmpX (x y : V4) : Int := cmpV x.r x.c x.b x.p y.r y.c y.b y.p
theorem cmp_lt (x y : V4) : cmpX x y < 0 ↔ bet x y = true := by
  unfold cmpX cmpV bet
  cases betterV x.r x.c x.b x.p y.r y.c y.b y.p
  · cases betterV y.r y.c y.b y.p x.r x.c x.b x.p <;> simp
  · simp
theorem cmp_eq (x y : V4) : cmpX x y = 0 ↔ x = y := by
  obtain ⟨a, b, c, d⟩ := x
  obtain ⟨a', b', c', d'⟩ := y
  simp only [V4.mk.injEq]
  unfold cmpX cmpV betterV
  simp only
  by_cases h1 : a = a'
  · by_cases h2 : b = b'
    · by_cases h3 : c = c'
      · by_cases h4 : d = d'
        · simp [h1, h2, h3, h4]
        · subst h1; subst h2; subst h3
          rcases Int.lt_or_gt_of_ne h4 with h | h
          · simp [h4, h]
          · simp [h4, h, Int.lt_asymm h]
      · subst h1; subst h2
        rcases Int.lt_or_gt_of_ne h3 with h | h
        · simp [h3, h]
        · have k : ¬ c' = c := fun e => h3 e.symm
          simp [h3, k, h, Int.lt_asymm h]
    · subst h1
      rcases Int.lt_or_gt_of_ne h2 with h | h
      · simp [h2, h]
      · have k : ¬ b' = b := fun e => h2 e.symm
        simp [h2, k, h, Int.lt_asymm h]
  · rcases Int.lt_or_gt_of_ne h1 with h | h
    · simp [h1, h]
    · have k : ¬ a' = a := fun e => h1 e.symm
      simp [h1, k, h, Int.lt_asymm h]
theorem wins_t {a : Int × V4} {v : V4} {p : Int} (h : a.1 < 0 ∨ cmpX v a.2 < 0 ∨ (cmpX v a.2 = 0 ∧ p < a.1)) : rpWins a v p = true := by
  unfold rpWins
  rw [cmp_lt, cmp_eq] at h
  rcases h with h | h | h <;> simp [h]
theorem wins_f {a : Int × V4} {v : V4} {p : Int} (h1 : ¬ a.1 < 0) (h2 : ¬ cmpX v a.2 < 0) (h3 : ¬ (cmpX v a.2 = 0 ∧ p < a.1)) : rpWins a v p = false := by
  unfold rpWins
  rw [cmp_lt] at h2
  rw [cmp_eq] at h3
  simp only [Bool.not_eq_true] at h2
  simp [h2, h1]
  intro h
  have : ¬ p < a.1 := fun k => h3 ⟨h, k⟩
  omega
def accK (ids ns : List D) (me : Int) (ss : List D) (k : Nat) : Int × V4 := (ss.take k).foldl (rpS ids (labOf ns) me) (-1, ⟨0, 0, 0, 0⟩)
set_option maxHeartbeats 4000000 in
theorem pok_span_rootPort : POK prog orc f_span_rootPort := by
  refine pok_of ok_span_rootPort mixed (by simp [ac_span_rootPort, acP, callsP, pok_span_sides, pok_span_told, pok_vector_Add, pok_vector_Compare]) (by simp [ac_span_rootPort, acS, callsS]) fun args hok => ?_
  show Fits orc nt_span_rootPort rs_span_rootPort ac_span_rootPort args (pRootPort args)
  unfold ac_span_rootPort
  unfold pRootPort
  split
  · rename_i ids es ns me
    simp only [okAs, okA, maxLen] at hok
    rintro ⟨⟨c1, c2, c3, c4⟩, c5⟩
    refine ⟨rfl, ?_⟩
    have hsl := sidesD_length es
    repeat' (first | (with_reducible first | refine st_seq (fun K' hn he hr => ?_) | refine st_block (fun K' hn he hr => ?_) | refine st_region ?_ | refine st_tregion ?_ | refine st_draw ?_ | refine st_cond ?_ | refine st_skip ?_ | refine st_exit ?_ | refine st_ret ?_ | refine st_loop ?_ | refine st_op (fun G gn => ?_) | refine st_nil ?_ | refine st_gop ?_ | refine st_dop (fun G gn => ?_) | refine st_dnil ?_ | refine st_gdop ?_ | refine st_tl ?_) | (with_reducible refine gn _ _ ?_; clear gn G) | (with_reducible refine gn _ _ _ _ ?_; clear gn G) | (with_reducible first | refine Wr.mk ?_) | (with_reducible refine hn _ _ ?_; clear hn he hr K') | (with_reducible refine he _ _ _ ?_; clear hn he hr K') | (with_reducible refine hr _ _ ?_; clear hn he hr K') | ((with_reducible refine Eqn.mk (fun hq => ?_) ?_) <;> first | contradiction | skip) | (with_reducible first | refine Bo.yes (by decide) ?_ | refine Bo.no (by decide) ?_) | ((with_reducible refine Bo.gen (fun c hb => ?_)) <;> (try simp only [Nat.reduceAdd, toD, toDs, dInt, dBool, dStr, dList, dFs, dFld, List.getD_cons_zero, List.getD_cons_succ, Nat.zero_add, Int.reduceToNat] at hb) <;> (try simp only [cond_true, cond_false, toD, toDs, dInt, dBool, dStr, dList, dFs, dFld, List.getD_cons_zero, List.getD_cons_succ, Nat.zero_add, eqA, eqAs, decide_true, decide_false, beq_self_eq_true, Bool.not_true, Bool.not_false, Bool.and_true, Bool.true_and, Bool.and_self, cmpI, ↓reduceIte, Bool.false_eq_true, reduceCtorEq, Int.reduceEq, Int.reduceLT, Int.reduceLE] at hb) <;> first | (obtain rfl : c = true := hb) | (obtain rfl : c = false := hb) | skip) | ((with_reducible refine Br.cs (fun hq => ?_) (fun hq => ?_)) <;> (try simp only [cond_true, cond_false, toD, toDs, dInt, dBool, dStr, dList, dFs, dFld, List.getD_cons_zero, List.getD_cons_succ, Nat.zero_add, eqA, eqAs, decide_true, decide_false, beq_self_eq_true, Bool.not_true, Bool.not_false, Bool.and_true, Bool.true_and, Bool.and_self, cmpI, ↓reduceIte, Bool.false_eq_true, reduceCtorEq, Int.reduceEq, Int.reduceLT, Int.reduceLE] at hq) <;> first | contradiction | subst hq | skip) | (with_reducible first | refine Nd.mk trivial ?_ | refine Nd.mk (by decide) ?_ | refine Nd.mk ?_ ?_ | refine Leaf.mk rfl ?_ | refine LeafS.fin rfl ?_ | refine Fin.mk ?_ rfl | refine Fin.mk ?_ ?_) | ((with_reducible refine Nx.mk ?_ ?_ ?_ ?_) <;> first | rfl | skip) | ((conv => whnf); first | (with_reducible refine gn _ _ ?_; clear gn G) | (with_reducible refine gn _ _ _ _ ?_; clear gn G) | (with_reducible first | refine Wr.mk ?_) | (with_reducible refine hn _ _ ?_; clear hn he hr K') | (with_reducible refine he _ _ _ ?_; clear hn he hr K') | (with_reducible refine hr _ _ ?_; clear hn he hr K') | (with_reducible first | refine Nd.mk trivial ?_ | refine Nd.mk (by decide) ?_ | refine Nd.mk ?_ ?_ | refine Leaf.mk rfl ?_ | refine LeafS.fin rfl ?_ | refine Fin.mk ?_ rfl | refine Fin.mk ?_ ?_) | ((with_reducible refine Nx.mk ?_ ?_ ?_ ?_) <;> first | rfl | skip) | (with_reducible first | show Bo _ _ | show Br _ _ _ | show Eqn _ _ _)))
    have hn0 := hn
    have he0 := he
    have hr0 := hr
    clear hn he hr
    refine loop_of (fun i : Nat => [(0, .sl (.int .u64) ids .no), (2, .sl TyNode ns .no), (3, .int .i64 me), (9, .int .i64 (accK ids ns me (sidesD es) (2 * i)).1), (10, .ptr 0 [] TyVec), (17, .sl TyEdge es .no), (18, .int .i64 es.length), (19, .int .i64 i)]) (fun i => [.var TyVec (vA (accK ids ns me (sidesD es) (2 * i)).2) false]) (fun i => i ≤ es.length) (fun i => es.length - i) 0 rfl rfl (Nat.zero_le _) (fun _ _ => rfl) ?_
    intro i hi J hJ K' hn he hr
    have hw : i < es.length → IntKind.i64.wrap ((i : Int) + 1) = ((i + 1 : Nat) : Int) := fun _ => wi64_in (by omega) (by omega)
    by_cases hlt : i < es.length
    · have hlt' : (i : Int) < es.length := by omega
      obtain ⟨a1, a2⟩ := sides_at es i hlt
      obtain ⟨e, hes⟩ : ∃ e, es.getD i (.i 0) = e := ⟨_, rfl⟩
      rw [hes] at a1 a2
      obtain ⟨ac, hac⟩ : ∃ ac, accK ids ns me (sidesD es) (2 * i) = ac := ⟨_, rfl⟩
      rw [hac]
      repeat' (first | (with_reducible first | refine st_seq (fun K' hn he hr => ?_) | refine st_block (fun K' hn he hr => ?_) | refine st_region ?_ | refine st_tregion ?_ | refine st_draw ?_ | refine st_cond ?_ | refine st_skip ?_ | refine st_exit ?_ | refine st_ret ?_ | refine st_loop ?_ | refine st_op (fun G gn => ?_) | refine st_nil ?_ | refine st_gop ?_ | refine st_dop (fun G gn => ?_) | refine st_dnil ?_ | refine st_gdop ?_ | refine st_tl ?_) | (with_reducible refine gn _ _ ?_; clear gn G) | (with_reducible refine gn _ _ _ _ ?_; clear gn G) | (with_reducible first | refine Wr.mk ?_) | (with_reducible refine hn _ _ ?_; clear hn he hr K') | (with_reducible refine he _ _ _ ?_; clear hn he hr K') | (with_reducible refine hr _ _ ?_; clear hn he hr K') | ((with_reducible refine Eqn.mk (fun hq => ?_) ?_) <;> first | contradiction | skip) | (with_reducible first | refine Bo.yes (by decide) ?_ | refine Bo.no (by decide) ?_) | ((with_reducible refine Bo.gen (fun c hb => ?_)) <;> (try simp only [Nat.reduceAdd, toD, toDs, dInt, dBool, dStr, dList, dFs, dFld, List.getD_cons_zero, List.getD_cons_succ, Nat.zero_add, Int.reduceToNat] at hb) <;> (try simp only [cond_true, cond_false, toD, toDs, dInt, dBool, dStr, dList, dFs, dFld, List.getD_cons_zero, List.getD_cons_succ, Nat.zero_add, eqA, eqAs, decide_true, decide_false, beq_self_eq_true, Bool.not_true, Bool.not_false, Bool.and_true, Bool.true_and, Bool.and_self, cmpI, ↓reduceIte, Bool.false_eq_true, reduceCtorEq, Int.reduceEq, Int.reduceLT, Int.reduceLE, Int.toNat_natCast, hlt', hes] at hb) <;> first | (obtain rfl : c = true := hb) | (obtain rfl : c = false := hb) | skip) | ((with_reducible refine Br.cs (fun hq => ?_) (fun hq => ?_)) <;> (try simp only [cond_true, cond_false, toD, toDs, dInt, dBool, dStr, dList, dFs, dFld, List.getD_cons_zero, List.getD_cons_succ, Nat.zero_add, eqA, eqAs, decide_true, decide_false, beq_self_eq_true, Bool.not_true, Bool.not_false, Bool.and_true, Bool.true_and, Bool.and_self, cmpI, ↓reduceIte, Bool.false_eq_true, reduceCtorEq, Int.reduceEq, Int.reduceLT, Int.reduceLE, Int.toNat_natCast, hlt', hes] at hq) <;> first | contradiction | subst hq | skip) | (with_reducible first | refine Nd.mk trivial ?_ | refine Nd.mk (by decide) ?_ | refine Nd.mk ?_ ?_ | refine Leaf.mk rfl ?_ | refine LeafS.fin rfl ?_ | refine Fin.mk ?_ rfl | refine Fin.mk ?_ ?_) | ((with_reducible refine Nx.mk ?_ ?_ ?_ ?_) <;> first | rfl | skip) | ((conv => whnf); first | (with_reducible refine gn _ _ ?_; clear gn G) | (with_reducible refine gn _ _ _ _ ?_; clear gn G) | (with_reducible first | refine Wr.mk ?_) | (with_reducible refine hn _ _ ?_; clear hn he hr K') | (with_reducible refine he _ _ _ ?_; clear hn he hr K') | (with_reducible refine hr _ _ ?_; clear hn he hr K') | (with_reducible first | refine Nd.mk trivial ?_ | refine Nd.mk (by decide) ?_ | refine Nd.mk ?_ ?_ | refine Leaf.mk rfl ?_ | refine LeafS.fin rfl ?_ | refine Fin.mk ?_ rfl | refine Fin.mk ?_ ?_) | ((with_reducible refine Nx.mk ?_ ?_ ?_ ?_) <;> first | rfl | skip) | (with_reducible first | show Bo _ _ | show Br _ _ _ | show Eqn _ _ _)))
      · omega
      obtain ⟨ys, hys⟩ : ∃ ys : List D, ys = [.a [.a [.i (fi e 0), .i (fi e 1)], .i (fi e 4), .a [.i (fi e 2), .i (fi e 3)]], .a [.a [.i (fi e 2), .i (fi e 3)], .i (fi e 5), .a [.i (fi e 0), .i (fi e 1)]]] := ⟨_, rfl⟩
      refine loop_of (fun j : Nat => [(0, .sl (.int .u64) ids .no), (2, .sl TyNode ns .no), (3, .int .i64 me), (9, .int .i64 (accK ids ns me (sidesD es) (2 * i + j)).1), (10, .ptr 0 [] TyVec), (17, .sl TyEdge es .no), (18, .int .i64 es.length), (19, .int .i64 i), (24, .arr 2 TyPSide ys), (25, .int .i64 j)]) (fun j => [.var TyVec (vA (accK ids ns me (sidesD es) (2 * i + j)).2) false, .var TyEdge (ofD TyEdge e) false])
        (fun j => j ≤ 2) (fun j => 2 - j) 0 ?_ ?_ (by omega) (fun _ _ => rfl) ?_
      · have hac' : accK ids ns me (sidesD es) (2 * i + 0) = ac := hac
        rw [hac', hys]
        unfold fi
        rw [← hes]
        rfl
      · have hac' : accK ids ns me (sidesD es) (2 * i + 0) = ac := hac
        rw [hac', ← hes]
        rfl
      intro j hj J2 hJ2 K' hn he hr
      have hwj : j < 2 → IntKind.i64.wrap ((j : Int) + 1) = ((j + 1 : Nat) : Int) := fun _ => wi64_in (by omega) (by omega)
      by_cases hjl : j < 2
      · have hjl' : (j : Int) < 2 := by omega
        obtain ⟨s, hs⟩ : ∃ s, (sidesD es).getD (2 * i + j) (.i 0) = s := ⟨_, rfl⟩
        obtain ⟨y, hy⟩ : ∃ y, ys.getD j (.i 0) = y := ⟨_, rfl⟩
        have hx : 2 * i + j < (sidesD es).length := by omega
        have hyy : ((y.fld 0).fld 0).int = (s.fld 0).int ∧ ((y.fld 0).fld 1).int = (s.fld 1).int ∧ (y.fld 1).int = (s.fld 2).int ∧ ((y.fld 2).fld 0).int = (s.fld 3).int ∧ ((y.fld 2).fld 1).int = (s.fld 4).int := by
          rcases (by omega : j = 0 ∨ j = 1) with rfl | rfl
          · rw [Nat.add_zero, a1] at hs
            subst hs; subst hy; subst hys
            exact ⟨rfl, rfl, rfl, rfl, rfl⟩
          · rw [a2] at hs
            subst hs; subst hy; subst hys
            exact ⟨rfl, rfl, rfl, rfl, rfl⟩
        obtain ⟨y0, y1, y2, y3, y4⟩ := hyy
        have hg := c4 _ hx
        rw [hs] at hg
        unfold fi at hg
        have hsn := foldl_take (rpS ids (labOf ns) me) (-1, ⟨0, 0, 0, 0⟩) (sidesD es) _ hx
        rw [hs] at hsn
        have hsn' : accK ids ns me (sidesD es) (2 * i + (j + 1)) = rpS ids (labOf ns) me (accK ids ns me (sidesD es) (2 * i + j)) s := hsn
        clear hsn
        obtain ⟨ac, hac⟩ : ∃ ac, accK ids ns me (sidesD es) (2 * i + j) = ac := ⟨_, rfl⟩
        rw [hac] at hsn'
        rw [hac]
        have hJn : ∀ ac' : Int × V4, rpS ids (labOf ns) me ac s = ac' → ∀ e0 h0, e0 = [(0, .sl (.int .u64) ids .no), (2, .sl TyNode ns .no), (3, .int .i64 me), (9, .int .i64 ac'.1), (10, .ptr 0 [] TyVec), (17, .sl TyEdge es .no), (18, .int .i64 es.length), (19, .int .i64 i), (24, .arr 2 TyPSide ys), (25, .int .i64 (IntKind.i64.wrap ((j : Int) + 1)))] → h0 = [.var TyVec (vA ac'.2) false, .var TyEdge (ofD TyEdge e) false] → J2 e0 h0 := fun ac' ha e0 h0 he0 hh0 => by
          refine J_of (hJ2 (j + 1) (by omega) (by omega)) ?_ ?_
          · rw [hsn', ha, he0, hwj hjl]
          · rw [hsn', ha, hh0]
        clear hJ2 hJ hw hwj hsn'
        by_cases hme : (s.fld 0).int = me
        · have e1 : rpS ids (labOf ns) me ac s = rpStep ids (labOf ns) ac s := if_pos hme
          have e2 : addV ids (labOf ns) s = ⟨fi (ns.getD ((y.fld 2).fld 0).int.toNat (.i 0)) 0, IntKind.u32.wrap (fi (ns.getD ((y.fld 2).fld 0).int.toNat (.i 0)) 1 + (y.fld 1).int), getI ids ((y.fld 2).fld 0).int.toNat, portID ((y.fld 2).fld 1).int⟩ := by
            rw [y2, y3, y4]
            rfl
          have hwin : (ac.1 < 0 ∨ cmpX (addV ids (labOf ns) s) ac.2 < 0 ∨ (cmpX (addV ids (labOf ns) s) ac.2 = 0 ∧ (s.fld 1).int < ac.1)) → rpS ids (labOf ns) me ac s = (((y.fld 0).fld 1).int, ⟨fi (ns.getD ((y.fld 2).fld 0).int.toNat (.i 0)) 0, IntKind.u32.wrap (fi (ns.getD ((y.fld 2).fld 0).int.toNat (.i 0)) 1 + (y.fld 1).int), getI ids ((y.fld 2).fld 0).int.toNat, portID ((y.fld 2).fld 1).int⟩) := fun h => by
            rw [e1, rpStep, show rpWins ac (addV ids (labOf ns) s) (fi s 1) = true from wins_t h, if_pos rfl, y1, ← e2]
            rfl
          have hlose : ¬ ac.1 < 0 → ¬ cmpX (addV ids (labOf ns) s) ac.2 < 0 → (¬ cmpX (addV ids (labOf ns) s) ac.2 = 0 ∨ ¬ (s.fld 1).int < ac.1) → rpS ids (labOf ns) me ac s = ac := fun h1 h2 h3 => by
            rw [e1, rpStep, show rpWins ac (addV ids (labOf ns) s) (fi s 1) = false from wins_f h1 h2 (fun h => by rcases h3 with h3 | h3; exact h3 h.1; exact h3 h.2)]
            rfl
          clear e1 e2
          repeat' (first | (with_reducible first | refine st_seq (fun K' hn he hr => ?_) | refine st_block (fun K' hn he hr => ?_) | refine st_region ?_ | refine st_tregion ?_ | refine st_draw ?_ | refine st_cond ?_ | refine st_skip ?_ | refine st_exit ?_ | refine st_ret ?_ | refine st_loop ?_ | refine st_op (fun G gn => ?_) | refine st_nil ?_ | refine st_gop ?_ | refine st_dop (fun G gn => ?_) | refine st_dnil ?_ | refine st_gdop ?_ | refine st_tl ?_) | (with_reducible refine gn _ _ ?_; clear gn G) | (with_reducible refine gn _ _ _ _ ?_; clear gn G) | (with_reducible first | refine Wr.mk ?_) | (with_reducible refine hn _ _ ?_; clear hn he hr K') | (with_reducible refine he _ _ _ ?_; clear hn he hr K') | (with_reducible refine hr _ _ ?_; clear hn he hr K') | ((with_reducible refine Eqn.mk (fun hq => ?_) ?_) <;> first | contradiction | skip) | (with_reducible first | refine Bo.yes (by decide) ?_ | refine Bo.no (by decide) ?_) | ((with_reducible refine Bo.gen (fun c hb => ?_)) <;> (try simp only [Nat.reduceAdd, toD, toDs, dInt, dBool, dStr, dList, dFs, dFld, List.getD_cons_zero, List.getD_cons_succ, Nat.zero_add, Int.reduceToNat] at hb) <;> (try simp only [cond_true, cond_false, toD, toDs, dInt, dBool, dStr, dList, dFs, dFld, List.getD_cons_zero, List.getD_cons_succ, Nat.zero_add, eqA, eqAs, decide_true, decide_false, beq_self_eq_true, Bool.not_true, Bool.not_false, Bool.and_true, Bool.true_and, Bool.and_self, cmpI, ↓reduceIte, Bool.false_eq_true, reduceCtorEq, Int.reduceEq, Int.reduceLT, Int.reduceLE, Int.toNat_natCast, hjl', hy, y0, y1, y2, y3, y4, hme] at hb) <;> first | (obtain rfl : c = true := hb) | (obtain rfl : c = false := hb) | skip) | ((with_reducible refine Br.cs (fun hq => ?_) (fun hq => ?_)) <;> (try simp only [cond_true, cond_false, toD, toDs, dInt, dBool, dStr, dList, dFs, dFld, List.getD_cons_zero, List.getD_cons_succ, Nat.zero_add, eqA, eqAs, decide_true, decide_false, beq_self_eq_true, Bool.not_true, Bool.not_false, Bool.and_true, Bool.true_and, Bool.and_self, cmpI, ↓reduceIte, Bool.false_eq_true, reduceCtorEq, Int.reduceEq, Int.reduceLT, Int.reduceLE, Int.toNat_natCast, hjl', hy, y0, y1, y2, y3, y4, hme] at hq) <;> first | contradiction | subst hq | skip) | (with_reducible first | refine Nd.mk trivial ?_ | refine Nd.mk (by decide) ?_ | refine Nd.mk ?_ ?_ | refine Leaf.mk rfl ?_ | refine LeafS.fin rfl ?_ | refine Fin.mk ?_ rfl | refine Fin.mk ?_ ?_) | ((with_reducible refine Nx.mk ?_ ?_ ?_ ?_) <;> first | rfl | skip) | ((conv => whnf); first | (with_reducible refine gn _ _ ?_; clear gn G) | (with_reducible refine gn _ _ _ _ ?_; clear gn G) | (with_reducible first | refine Wr.mk ?_) | (with_reducible refine hn _ _ ?_; clear hn he hr K') | (with_reducible refine he _ _ _ ?_; clear hn he hr K') | (with_reducible refine hr _ _ ?_; clear hn he hr K') | (with_reducible first | refine Nd.mk trivial ?_ | refine Nd.mk (by decide) ?_ | refine Nd.mk ?_ ?_ | refine Leaf.mk rfl ?_ | refine LeafS.fin rfl ?_ | refine Fin.mk ?_ rfl | refine Fin.mk ?_ ?_) | ((with_reducible refine Nx.mk ?_ ?_ ?_ ?_) <;> first | rfl | skip) | (with_reducible first | show Bo _ _ | show Br _ _ _ | show Eqn _ _ _)))
          any_goals (first | omega | (rw [Int.toNat_natCast, hy, y3]; omega))
          all_goals (subst hy; simp only [ctd, cfd] at *)
          all_goals first
            | refine hJn _ (hwin (.inl (by assumption))) _ _ rfl rfl
            | refine hJn _ (hwin (.inr (.inl (by assumption)))) _ _ rfl rfl
            | refine hJn _ (hwin (.inr (.inr ⟨by assumption, by assumption⟩))) _ _ rfl rfl
            | refine hJn _ (hlose (by assumption) (by assumption) (.inl (by assumption))) _ _ rfl rfl
            | refine hJn _ (hlose (by assumption) (by assumption) (.inr (by assumption))) _ _ rfl rfl
        · have e1 : rpS ids (labOf ns) me ac s = ac := if_neg hme
          repeat' (first | (with_reducible first | refine st_seq (fun K' hn he hr => ?_) | refine st_block (fun K' hn he hr => ?_) | refine st_region ?_ | refine st_tregion ?_ | refine st_draw ?_ | refine st_cond ?_ | refine st_skip ?_ | refine st_exit ?_ | refine st_ret ?_ | refine st_loop ?_ | refine st_op (fun G gn => ?_) | refine st_nil ?_ | refine st_gop ?_ | refine st_dop (fun G gn => ?_) | refine st_dnil ?_ | refine st_gdop ?_ | refine st_tl ?_) | (with_reducible refine gn _ _ ?_; clear gn G) | (with_reducible refine gn _ _ _ _ ?_; clear gn G) | (with_reducible first | refine Wr.mk ?_) | (with_reducible refine hn _ _ ?_; clear hn he hr K') | (with_reducible refine he _ _ _ ?_; clear hn he hr K') | (with_reducible refine hr _ _ ?_; clear hn he hr K') | ((with_reducible refine Eqn.mk (fun hq => ?_) ?_) <;> first | contradiction | skip) | (with_reducible first | refine Bo.yes (by decide) ?_ | refine Bo.no (by decide) ?_) | ((with_reducible refine Bo.gen (fun c hb => ?_)) <;> (try simp only [Nat.reduceAdd, toD, toDs, dInt, dBool, dStr, dList, dFs, dFld, List.getD_cons_zero, List.getD_cons_succ, Nat.zero_add, Int.reduceToNat] at hb) <;> (try simp only [cond_true, cond_false, toD, toDs, dInt, dBool, dStr, dList, dFs, dFld, List.getD_cons_zero, List.getD_cons_succ, Nat.zero_add, eqA, eqAs, decide_true, decide_false, beq_self_eq_true, Bool.not_true, Bool.not_false, Bool.and_true, Bool.true_and, Bool.and_self, cmpI, ↓reduceIte, Bool.false_eq_true, reduceCtorEq, Int.reduceEq, Int.reduceLT, Int.reduceLE, Int.toNat_natCast, hjl', hy, y0, y1, y2, y3, y4, hme] at hb) <;> first | (obtain rfl : c = true := hb) | (obtain rfl : c = false := hb) | skip) | ((with_reducible refine Br.cs (fun hq => ?_) (fun hq => ?_)) <;> (try simp only [cond_true, cond_false, toD, toDs, dInt, dBool, dStr, dList, dFs, dFld, List.getD_cons_zero, List.getD_cons_succ, Nat.zero_add, eqA, eqAs, decide_true, decide_false, beq_self_eq_true, Bool.not_true, Bool.not_false, Bool.and_true, Bool.true_and, Bool.and_self, cmpI, ↓reduceIte, Bool.false_eq_true, reduceCtorEq, Int.reduceEq, Int.reduceLT, Int.reduceLE, Int.toNat_natCast, hjl', hy, y0, y1, y2, y3, y4, hme] at hq) <;> first | contradiction | subst hq | skip) | (with_reducible first | refine Nd.mk trivial ?_ | refine Nd.mk (by decide) ?_ | refine Nd.mk ?_ ?_ | refine Leaf.mk rfl ?_ | refine LeafS.fin rfl ?_ | refine Fin.mk ?_ rfl | refine Fin.mk ?_ ?_) | ((with_reducible refine Nx.mk ?_ ?_ ?_ ?_) <;> first | rfl | skip) | ((conv => whnf); first | (with_reducible refine gn _ _ ?_; clear gn G) | (with_reducible refine gn _ _ _ _ ?_; clear gn G) | (with_reducible first | refine Wr.mk ?_) | (with_reducible refine hn _ _ ?_; clear hn he hr K') | (with_reducible refine he _ _ _ ?_; clear hn he hr K') | (with_reducible refine hr _ _ ?_; clear hn he hr K') | (with_reducible first | refine Nd.mk trivial ?_ | refine Nd.mk (by decide) ?_ | refine Nd.mk ?_ ?_ | refine Leaf.mk rfl ?_ | refine LeafS.fin rfl ?_ | refine Fin.mk ?_ rfl | refine Fin.mk ?_ ?_) | ((with_reducible refine Nx.mk ?_ ?_ ?_ ?_) <;> first | rfl | skip) | (with_reducible first | show Bo _ _ | show Br _ _ _ | show Eqn _ _ _)))
          · omega
          · exact hJn _ e1 _ _ rfl rfl
      · have hjl' : ¬ (j : Int) < 2 := by omega
        repeat' (first | (with_reducible first | refine st_seq (fun K' hn he hr => ?_) | refine st_block (fun K' hn he hr => ?_) | refine st_region ?_ | refine st_tregion ?_ | refine st_draw ?_ | refine st_cond ?_ | refine st_skip ?_ | refine st_exit ?_ | refine st_ret ?_ | refine st_loop ?_ | refine st_op (fun G gn => ?_) | refine st_nil ?_ | refine st_gop ?_ | refine st_dop (fun G gn => ?_) | refine st_dnil ?_ | refine st_gdop ?_ | refine st_tl ?_) | (with_reducible refine gn _ _ ?_; clear gn G) | (with_reducible refine gn _ _ _ _ ?_; clear gn G) | (with_reducible first | refine Wr.mk ?_) | (with_reducible refine hn _ _ ?_; clear hn he hr K') | (with_reducible refine he _ _ _ ?_; clear hn he hr K') | (with_reducible refine hr _ _ ?_; clear hn he hr K') | ((with_reducible refine Eqn.mk (fun hq => ?_) ?_) <;> first | contradiction | skip) | (with_reducible first | refine Bo.yes (by decide) ?_ | refine Bo.no (by decide) ?_) | ((with_reducible refine Bo.gen (fun c hb => ?_)) <;> (try simp only [Nat.reduceAdd, toD, toDs, dInt, dBool, dStr, dList, dFs, dFld, List.getD_cons_zero, List.getD_cons_succ, Nat.zero_add, Int.reduceToNat] at hb) <;> (try simp only [cond_true, cond_false, toD, toDs, dInt, dBool, dStr, dList, dFs, dFld, List.getD_cons_zero, List.getD_cons_succ, Nat.zero_add, eqA, eqAs, decide_true, decide_false, beq_self_eq_true, Bool.not_true, Bool.not_false, Bool.and_true, Bool.true_and, Bool.and_self, cmpI, ↓reduceIte, Bool.false_eq_true, reduceCtorEq, Int.reduceEq, Int.reduceLT, Int.reduceLE, hjl'] at hb) <;> first | (obtain rfl : c = true := hb) | (obtain rfl : c = false := hb) | skip) | ((with_reducible refine Br.cs (fun hq => ?_) (fun hq => ?_)) <;> (try simp only [cond_true, cond_false, toD, toDs, dInt, dBool, dStr, dList, dFs, dFld, List.getD_cons_zero, List.getD_cons_succ, Nat.zero_add, eqA, eqAs, decide_true, decide_false, beq_self_eq_true, Bool.not_true, Bool.not_false, Bool.and_true, Bool.true_and, Bool.and_self, cmpI, ↓reduceIte, Bool.false_eq_true, reduceCtorEq, Int.reduceEq, Int.reduceLT, Int.reduceLE, hjl'] at hq) <;> first | contradiction | subst hq | skip) | (with_reducible first | refine Nd.mk trivial ?_ | refine Nd.mk (by decide) ?_ | refine Nd.mk ?_ ?_ | refine Leaf.mk rfl ?_ | refine LeafS.fin rfl ?_ | refine Fin.mk ?_ rfl | refine Fin.mk ?_ ?_) | ((with_reducible refine Nx.mk ?_ ?_ ?_ ?_) <;> first | rfl | skip) | ((conv => whnf); first | (with_reducible refine gn _ _ ?_; clear gn G) | (with_reducible refine gn _ _ _ _ ?_; clear gn G) | (with_reducible first | refine Wr.mk ?_) | (with_reducible refine hn _ _ ?_; clear hn he hr K') | (with_reducible refine he _ _ _ ?_; clear hn he hr K') | (with_reducible refine hr _ _ ?_; clear hn he hr K') | (with_reducible first | refine Nd.mk trivial ?_ | refine Nd.mk (by decide) ?_ | refine Nd.mk ?_ ?_ | refine Leaf.mk rfl ?_ | refine LeafS.fin rfl ?_ | refine Fin.mk ?_ rfl | refine Fin.mk ?_ ?_) | ((with_reducible refine Nx.mk ?_ ?_ ?_ ?_) <;> first | rfl | skip) | (with_reducible first | show Bo _ _ | show Br _ _ _ | show Eqn _ _ _)))
        have : j = 2 := by omega
        subst this
        refine J_of (hJ (i + 1) (by omega) (by omega)) ?_ rfl
        rw [hw hlt]
        try rfl
    · have hlt' : ¬ (i : Int) < es.length := by omega
      repeat' (first | (with_reducible first | refine st_seq (fun K' hn he hr => ?_) | refine st_block (fun K' hn he hr => ?_) | refine st_region ?_ | refine st_tregion ?_ | refine st_draw ?_ | refine st_cond ?_ | refine st_skip ?_ | refine st_exit ?_ | refine st_ret ?_ | refine st_loop ?_ | refine st_op (fun G gn => ?_) | refine st_nil ?_ | refine st_gop ?_ | refine st_dop (fun G gn => ?_) | refine st_dnil ?_ | refine st_gdop ?_ | refine st_tl ?_) | (with_reducible refine gn _ _ ?_; clear gn G) | (with_reducible refine gn _ _ _ _ ?_; clear gn G) | (with_reducible first | refine Wr.mk ?_) | (with_reducible refine hn _ _ ?_; clear hn he hr K') | (with_reducible refine he _ _ _ ?_; clear hn he hr K') | (with_reducible refine hr _ _ ?_; clear hn he hr K') | ((with_reducible refine Eqn.mk (fun hq => ?_) ?_) <;> first | contradiction | skip) | (with_reducible first | refine Bo.yes (by decide) ?_ | refine Bo.no (by decide) ?_) | ((with_reducible refine Bo.gen (fun c hb => ?_)) <;> (try simp only [Nat.reduceAdd, toD, toDs, dInt, dBool, dStr, dList, dFs, dFld, List.getD_cons_zero, List.getD_cons_succ, Nat.zero_add, Int.reduceToNat] at hb) <;> (try simp only [cond_true, cond_false, toD, toDs, dInt, dBool, dStr, dList, dFs, dFld, List.getD_cons_zero, List.getD_cons_succ, Nat.zero_add, eqA, eqAs, decide_true, decide_false, beq_self_eq_true, Bool.not_true, Bool.not_false, Bool.and_true, Bool.true_and, Bool.and_self, cmpI, ↓reduceIte, Bool.false_eq_true, reduceCtorEq, Int.reduceEq, Int.reduceLT, Int.reduceLE, hlt'] at hb) <;> first | (obtain rfl : c = true := hb) | (obtain rfl : c = false := hb) | skip) | ((with_reducible refine Br.cs (fun hq => ?_) (fun hq => ?_)) <;> (try simp only [cond_true, cond_false, toD, toDs, dInt, dBool, dStr, dList, dFs, dFld, List.getD_cons_zero, List.getD_cons_succ, Nat.zero_add, eqA, eqAs, decide_true, decide_false, beq_self_eq_true, Bool.not_true, Bool.not_false, Bool.and_true, Bool.true_and, Bool.and_self, cmpI, ↓reduceIte, Bool.false_eq_true, reduceCtorEq, Int.reduceEq, Int.reduceLT, Int.reduceLE, hlt'] at hq) <;> first | contradiction | subst hq | skip) | (with_reducible first | refine Nd.mk trivial ?_ | refine Nd.mk (by decide) ?_ | refine Nd.mk ?_ ?_ | refine Leaf.mk rfl ?_ | refine LeafS.fin rfl ?_ | refine Fin.mk ?_ rfl | refine Fin.mk ?_ ?_) | ((with_reducible refine Nx.mk ?_ ?_ ?_ ?_) <;> first | rfl | skip) | ((conv => whnf); first | (with_reducible refine gn _ _ ?_; clear gn G) | (with_reducible refine gn _ _ _ _ ?_; clear gn G) | (with_reducible first | refine Wr.mk ?_) | (with_reducible refine hn _ _ ?_; clear hn he hr K') | (with_reducible refine he _ _ _ ?_; clear hn he hr K') | (with_reducible refine hr _ _ ?_; clear hn he hr K') | (with_reducible first | refine Nd.mk trivial ?_ | refine Nd.mk (by decide) ?_ | refine Nd.mk ?_ ?_ | refine Leaf.mk rfl ?_ | refine LeafS.fin rfl ?_ | refine Fin.mk ?_ rfl | refine Fin.mk ?_ ?_) | ((with_reducible refine Nx.mk ?_ ?_ ?_ ?_) <;> first | rfl | skip) | (with_reducible first | show Bo _ _ | show Br _ _ _ | show Eqn _ _ _)))
      have : i = es.length := by omega
      subst this
      have hall : accK ids ns me (sidesD es) (2 * es.length) = rpOf ids (labOf ns) me (sidesD es) := by
        unfold accK rpOf
        rw [← hsl, List.take_length]
      refine he0 _ _ _ ?_
      clear he0 hn0 hr0
      repeat' (first | (with_reducible first | refine st_seq (fun K' hn he hr => ?_) | refine st_block (fun K' hn he hr => ?_) | refine st_region ?_ | refine st_tregion ?_ | refine st_draw ?_ | refine st_cond ?_ | refine st_skip ?_ | refine st_exit ?_ | refine st_ret ?_ | refine st_loop ?_ | refine st_op (fun G gn => ?_) | refine st_nil ?_ | refine st_gop ?_ | refine st_dop (fun G gn => ?_) | refine st_dnil ?_ | refine st_gdop ?_ | refine st_tl ?_) | (with_reducible refine gn _ _ ?_; clear gn G) | (with_reducible refine gn _ _ _ _ ?_; clear gn G) | (with_reducible first | refine Wr.mk ?_) | (with_reducible refine hn _ _ ?_; clear hn he hr K') | (with_reducible refine he _ _ _ ?_; clear hn he hr K') | (with_reducible refine hr _ _ ?_; clear hn he hr K') | ((with_reducible refine Eqn.mk (fun hq => ?_) ?_) <;> first | contradiction | skip) | (with_reducible first | refine Bo.yes (by decide) ?_ | refine Bo.no (by decide) ?_) | ((with_reducible refine Bo.gen (fun c hb => ?_)) <;> (try simp only [Nat.reduceAdd, toD, toDs, dInt, dBool, dStr, dList, dFs, dFld, List.getD_cons_zero, List.getD_cons_succ, Nat.zero_add, Int.reduceToNat] at hb) <;> (try simp only [cond_true, cond_false, toD, toDs, dInt, dBool, dStr, dList, dFs, dFld, List.getD_cons_zero, List.getD_cons_succ, Nat.zero_add, eqA, eqAs, decide_true, decide_false, beq_self_eq_true, Bool.not_true, Bool.not_false, Bool.and_true, Bool.true_and, Bool.and_self, cmpI, ↓reduceIte, Bool.false_eq_true, reduceCtorEq, Int.reduceEq, Int.reduceLT, Int.reduceLE] at hb) <;> first | (obtain rfl : c = true := hb) | (obtain rfl : c = false := hb) | skip) | ((with_reducible refine Br.cs (fun hq => ?_) (fun hq => ?_)) <;> (try simp only [cond_true, cond_false, toD, toDs, dInt, dBool, dStr, dList, dFs, dFld, List.getD_cons_zero, List.getD_cons_succ, Nat.zero_add, eqA, eqAs, decide_true, decide_false, beq_self_eq_true, Bool.not_true, Bool.not_false, Bool.and_true, Bool.true_and, Bool.and_self, cmpI, ↓reduceIte, Bool.false_eq_true, reduceCtorEq, Int.reduceEq, Int.reduceLT, Int.reduceLE] at hq) <;> first | contradiction | subst hq | skip) | (with_reducible first | refine Nd.mk trivial ?_ | refine Nd.mk (by decide) ?_ | refine Nd.mk ?_ ?_ | refine Leaf.mk rfl ?_ | refine LeafS.fin rfl ?_ | refine Fin.mk ?_ rfl | refine Fin.mk ?_ ?_) | ((with_reducible refine Nx.mk ?_ ?_ ?_ ?_) <;> first | rfl | skip) | ((conv => whnf); first | (with_reducible refine gn _ _ ?_; clear gn G) | (with_reducible refine gn _ _ _ _ ?_; clear gn G) | (with_reducible first | refine Wr.mk ?_) | (with_reducible refine hn _ _ ?_; clear hn he hr K') | (with_reducible refine he _ _ _ ?_; clear hn he hr K') | (with_reducible refine hr _ _ ?_; clear hn he hr K') | (with_reducible first | refine Nd.mk trivial ?_ | refine Nd.mk (by decide) ?_ | refine Nd.mk ?_ ?_ | refine Leaf.mk rfl ?_ | refine LeafS.fin rfl ?_ | refine Fin.mk ?_ rfl | refine Fin.mk ?_ ?_) | ((with_reducible refine Nx.mk ?_ ?_ ?_ ?_) <;> first | rfl | skip) | (with_reducible first | show Bo _ _ | show Br _ _ _ | show Eqn _ _ _)))
      rw [hall]
      try rfl
  · trivial
end Go.Vc.Seat
