/- A part of the proof of the seat's laws: AuPf2. It states no claim by itself. -/
import Derived.Test.YtiddoflcajgjjaaAuPf1
set_option linter.unusedVariables false
set_option linter.unusedSimpArgs false
namespace Go.Vc.Seat
open Go.Vc Go.Proofs.Try

theorem rise_b (b a : Int) : -1 ≤ riseI b a ∧ riseI b a ≤ 2 := by
  unfold riseI
  split
  · omega
  · split
    · omega
    · split <;> omega
theorem rise_n (b a : Int) : riseI b a < 0 ↔ a < b := by
  unfold riseI
  split
  · simp_all
  · split
    · simp_all
    · split <;> simp_all
theorem sum_b (b a : List D) (w : Int) (k : Nat) : ∀ n, (∀ j, j < n → ¬ gI a j < gI b j) → 0 ≤ sumC b a w k n ∧ sumC b a w k n ≤ 2 * n
  | 0, _ => ⟨Int.le_refl _, Int.le_refl _⟩
  | n + 1, h => by
    have h1 := sum_b b a w k n fun j hj => h j (by omega)
    have h2 := rise_b (gI b n) (gI a n)
    have h3 := rise_n (gI b n) (gI a n)
    have h4 := h n (by omega)
    unfold sumC
    split <;> omega
theorem fall_t {b a : List D} {i : Nat} (hi : i < 15) (h : gI a i < gI b i) : fallB b a = true := by
  unfold fallB
  rw [Bool.not_eq_true', List.all_eq_false]
  exact ⟨i, List.mem_range.2 hi, by simp; exact h⟩
theorem fall_f {b a : List D} (h : ∀ j, j < 15 → ¬ gI a j < gI b j) : fallB b a = false := by
  unfold fallB
  rw [Bool.not_eq_false', List.all_eq_true]
  exact fun i hi => decide_eq_true (Int.not_lt.1 (h i (List.mem_range.1 hi)))
theorem arg_f {b a : List D} {w : Int} (h : ¬ (b.length = 15 ∧ a.length = 15 ∧ (w = 1 ∨ w = 2))) : countE b a w = 1 := by
  unfold countE argOK
  rw [decide_eq_false h]
  rfl
theorem gI_rng {xs : List D} {t : Tok} (h : okA (.sl (.int .i64) xs t)) (i : Nat) : -9223372036854775808 ≤ gI xs i ∧ gI xs i ≤ 9223372036854775807 := by
  unfold gI
  by_cases hi : i < xs.length
  · have hm : xs.getD i (.i 0) ∈ xs := by
      rw [List.getD_eq_getElem?_getD, List.getElem?_eq_getElem hi]
      exact List.getElem_mem hi
    have := h.2 _ hm
    cases hd : xs.getD i (.i 0) with
    | i n =>
      rw [hd] at this
      exact has_i64 this.1
    | _ => simp [D.int]
  · rw [List.getD_eq_getElem?_getD, List.getElem?_eq_none (by omega)]
    simp [D.int]
theorem sum0 (b a : List D) (m : Nat) (hm : m = 1 ∨ m = 2) : ∀ n, sumC b a (m : Int) 0 n = if m < n then riseI (gI b m) (gI a m) else 0
  | 0 => rfl
  | n + 1 => by
    unfold sumC
    rw [sum0 b a m hm n]
    by_cases h : n = m
    · subst h
      have c : clsN (n : Int) n = 0 := by unfold clsN; rw [if_pos rfl]
      rw [c, if_neg (Nat.lt_irrefl _), if_pos rfl, if_pos (by omega)]
      omega
    · have c : ¬ clsN (m : Int) n = 0 := by
        unfold clsN
        rw [if_neg (by omega)]
        split
        · omega
        · split <;> omega
      rw [if_neg c]
      by_cases g : m < n
      · rw [if_pos g, if_pos (by omega)]
        omega
      · rw [if_neg g, if_neg (by omega)]
        rfl
abbrev cntP (o t c r : Int) : Prop := o = 0 ∧ ((t = 0 ∧ c = 0 ∧ r = 1) ∨ (t = 1 ∧ ((r = 0 ∧ 0 < c) ∨ r = 1)))
theorem count_t {b a : List D} {w : Int} (ha : argOK b a w = true) (hf : fallB b a = false) {o t c r : Int} (h0 : riseI (gI b w.toNat) (gI a w.toNat) = t) (h1 : sumC b a w 1 15 = o) (h2 : sumC b a w 2 15 = c) (h3 : sumC b a w 3 15 = r) :
    (cntP o t c r → countE b a w = 0) ∧ (¬ cntP o t c r → countE b a w = 320) := by
  have e : cntOK b a w = decide (cntP o t c r) := by
    unfold cntOK cntP
    rw [h0, h1, h2, h3]
  unfold countE
  rw [if_pos ha, hf, e]
  constructor
  · intro h
    rw [decide_eq_true h]
    rfl
  · intro h
    rw [decide_eq_false h]
    rfl
theorem count_fall {b a : List D} {w : Int} (ha : argOK b a w = true) {i : Nat} (hi : i < 15) (h : gI a i < gI b i) : countE b a w = 320 := by
  unfold countE
  rw [if_pos ha, fall_t hi h]
  rfl
set_option maxRecDepth 20000 in
set_option maxHeartbeats 8000000 in
theorem pok_audit_Count : POK prog orc f_audit_Count := by
  refine pok_of ok_audit_Count mixed (by simp [ac_audit_Count, acP, callsP, pok_audit_rise]) (by simp [ac_audit_Count, acS, callsS]) fun args hok => ?_
  show Fits orc nt_audit_Count rs_audit_Count ac_audit_Count args (pCount32 args)
  unfold ac_audit_Count
  unfold pCount32
  split
  · rename_i b a w
    refine ⟨rfl, ?_⟩
    by_cases h1 : b.length = 15
    · by_cases h2 : a.length = 15
      · have h1' : (b.length : Int) = 15 := by omega
        have h2' : (a.length : Int) = 15 := by omega
        by_cases h3 : w = 1 ∨ w = 2
        · have ha : argOK b a w = true := decide_eq_true ⟨h1, h2, h3⟩
          have hr64 : ∀ i, -9223372036854775808 ≤ gI b i ∧ gI b i ≤ 9223372036854775807 := fun i => gI_rng hok.1 i
          have hs64 : ∀ i, -9223372036854775808 ≤ gI a i ∧ gI a i ≤ 9223372036854775807 := fun i => gI_rng hok.2.1 i
          clear hok
          obtain ⟨m, hm, rfl⟩ : ∃ m : Nat, (m = 1 ∨ m = 2) ∧ (m : Int) = w := ⟨w.toNat, by omega, by omega⟩
          clear h3
          have hs0 := sum0 b a m hm 15
          have hm0 : ¬ (m : Int) < 0 := by omega
          have hm15 : m < 15 := by omega
          rw [if_pos hm15] at hs0
          have hmm : m = 1 ∨ m = 2 := hm
          have q1 : (m : Int) = 1 ∨ (m : Int) = 2 := by omega
          have hct := fun hf {o t c r} => count_t (b := b) (a := a) (w := (m : Int)) ha hf (o := o) (t := t) (c := c) (r := r)
          rw [Int.toNat_natCast] at hct
          have hcf := fun {i} => count_fall (b := b) (a := a) (w := (m : Int)) ha (i := i)
          rcases q1 with hM0 | hM0
          · have hM : (m : Int) = 1 := hM0
            have hM2 : True := trivial
            repeat' (first | (with_reducible first | refine st_seq (fun K' hn he hr => ?_) | refine st_block (fun K' hn he hr => ?_) | refine st_region ?_ | refine st_draw ?_ | refine st_cond ?_ | refine st_loop ?_ | refine st_op (fun G gn => ?_) | refine st_gop ?_ | refine st_dop (fun G gn => ?_) | refine st_gdop ?_ | refine st_tl ?_) | ((conv => whnf); first | (with_reducible first | (refine gn _ _ ?_; clear gn G) | (refine gn _ _ _ _ ?_; clear gn G) | refine Wr.mk ?_ | (refine hn _ _ ?_; clear hn he hr K') | (refine he _ _ _ ?_; clear hn he hr K') | (refine hr _ _ ?_; clear hn he hr K') | refine Bo.yes (by decide) ?_ | refine Bo.no (by decide) ?_ | refine Nd.mk trivial ?_ | refine Nd.mk (by decide) ?_ | refine Nd.mk ?_ ?_ | refine Leaf.mk rfl ?_ | refine Fin.mk ?_ rfl | refine Fin.mk ?_ ?_) | ((with_reducible refine Eqn.mk (fun hq => ?_) ?_) <;> try contradiction) | ((with_reducible refine Bo.gen (fun c hb => ?_)) <;> (try simp only [Nat.reduceAdd, Int.reduceToNat, toD, toDs, bl0] at hb) <;> (try simp only [↓reduceIte, reduceCtorEq, Int.reduceEq, Int.reduceLT, Int.reduceLE, eqA, eqAs, cmpI, bl1, toD, toDs, bl0, h1', h2', hM, hM2] at hb) <;> first | (obtain rfl : c = true := hb) | (obtain rfl : c = false := hb) | skip) | ((with_reducible refine Br.cs (fun hq => ?_) (fun hq => ?_)) <;> (try simp only [↓reduceIte, reduceCtorEq, Int.reduceEq, Int.reduceLT, Int.reduceLE, eqA, eqAs, cmpI, bl1, toD, toDs, bl0, h1', h2', hM, hM2] at hq) <;> first | contradiction | subst hq | skip) | ((with_reducible refine Nx.mk ?_ ?_ ?_ ?_) <;> try rfl)))
            have hn0 := hn
            have he0 := he
            have hr0 := hr
            clear hn he hr
            refine loop_of (fun i : Nat => [(0, .sl I64 b .no), (1, .sl I64 a .no), (2, .int .i64 m), (7, .int .i64 (sumC b a m 0 i)), (8, .int .i64 (sumC b a m 1 i)), (9, .int .i64 (sumC b a m 2 i)), (10, .int .i64 (sumC b a m 3 i)), (32, .int .i64 (i : Int))]) (fun i => []) (fun i => i ≤ 15 ∧ ∀ j, j < i → ¬ gI a j < gI b j) (fun i => 15 - i) 0 rfl rfl ⟨by omega, fun j hj => by omega⟩ (fun _ _ => rfl) ?_
            intro i hi J hJ K' hn he hr
            by_cases hlt : i < 15
            · have hlt' : (i : Int) < 15 := by omega
              have hw : IntKind.i64.wrap ((i : Int) + 1) = ((i + 1 : Nat) : Int) := wi64_in (by omega) (by omega)
              have B0 := sum_b b a m 0 i hi.2
              have B1 := sum_b b a m 1 i hi.2
              have B2 := sum_b b a m 2 i hi.2
              have B3 := sum_b b a m 3 i hi.2
              have S0 := sum0 b a m hm i
              obtain ⟨x, hx⟩ : ∃ x, gI b i = x := ⟨_, rfl⟩
              obtain ⟨y, hy⟩ : ∃ y, gI a i = y := ⟨_, rfl⟩
              have hx' : (b.getD i (.i 0)).int = x := hx
              have hy' : (a.getD i (.i 0)).int = y := hy
              have R64 := hr64 i
              have S64 := hs64 i
              have hst : ∀ k, sumC b a m k (i + 1) = sumC b a m k i + (if clsN m i = k then riseI (gI b i) (gI a i) else 0) := fun _ => rfl
              have hb3 := rise_b x y
              have hn3 := rise_n x y
              rw [hx, hy] at hst
              rw [hx] at R64
              rw [hy] at S64
              by_cases hfl : y < x
              · have e320 := hcf hlt (by rw [hx, hy]; exact hfl)
                have hr3 : riseI x y = -1 := if_pos hfl
                clear hJ hst
                repeat' (first | (with_reducible first | refine st_seq (fun K' hn he hr => ?_) | refine st_block (fun K' hn he hr => ?_) | refine st_region ?_ | refine st_draw ?_ | refine st_cond ?_ | refine st_loop ?_ | refine st_op (fun G gn => ?_) | refine st_gop ?_ | refine st_dop (fun G gn => ?_) | refine st_gdop ?_ | refine st_tl ?_) | ((conv => whnf); first | (with_reducible first | (refine gn _ _ ?_; clear gn G) | (refine gn _ _ _ _ ?_; clear gn G) | refine Wr.mk ?_ | (refine hn _ _ ?_; clear hn he hr K') | (refine he _ _ _ ?_; clear hn he hr K') | (refine hr _ _ ?_; clear hn he hr K') | refine Bo.yes (by decide) ?_ | refine Bo.no (by decide) ?_ | refine Nd.mk trivial ?_ | refine Nd.mk (by decide) ?_ | refine Nd.mk ?_ ?_ | refine Leaf.mk rfl ?_ | refine Fin.mk ?_ rfl | refine Fin.mk ?_ ?_) | ((with_reducible refine Eqn.mk (fun hq => ?_) ?_) <;> try contradiction) | ((with_reducible refine Bo.gen (fun c hb => ?_)) <;> (try simp only [Nat.reduceAdd, Int.reduceToNat, toD, toDs, bl0] at hb) <;> (try simp only [↓reduceIte, reduceCtorEq, Int.reduceEq, Int.reduceLT, Int.reduceLE, eqA, eqAs, cmpI, bl1, toD, toDs, bl0, Int.toNat_natCast, hlt', hx', hy', hfl, hr3] at hb) <;> first | (obtain rfl : c = true := hb) | (obtain rfl : c = false := hb) | skip) | ((with_reducible refine Br.cs (fun hq => ?_) (fun hq => ?_)) <;> (try simp only [↓reduceIte, reduceCtorEq, Int.reduceEq, Int.reduceLT, Int.reduceLE, eqA, eqAs, cmpI, bl1, toD, toDs, bl0, Int.toNat_natCast, hlt', hx', hy', hfl, hr3] at hq) <;> first | contradiction | subst hq | skip) | ((with_reducible refine Nx.mk ?_ ?_ ?_ ?_) <;> try rfl)))
                any_goals first | omega | skip
                refine hr0 _ _ ?_
                clear hr0 he0 hn0
                repeat' (first | (with_reducible first | refine st_seq (fun K' hn he hr => ?_) | refine st_block (fun K' hn he hr => ?_) | refine st_region ?_ | refine st_draw ?_ | refine st_cond ?_ | refine st_loop ?_ | refine st_op (fun G gn => ?_) | refine st_gop ?_ | refine st_dop (fun G gn => ?_) | refine st_gdop ?_ | refine st_tl ?_) | ((conv => whnf); first | (with_reducible first | (refine gn _ _ ?_; clear gn G) | (refine gn _ _ _ _ ?_; clear gn G) | refine Wr.mk ?_ | (refine hn _ _ ?_; clear hn he hr K') | (refine he _ _ _ ?_; clear hn he hr K') | (refine hr _ _ ?_; clear hn he hr K') | refine Bo.yes (by decide) ?_ | refine Bo.no (by decide) ?_ | refine Nd.mk trivial ?_ | refine Nd.mk (by decide) ?_ | refine Nd.mk ?_ ?_ | refine Leaf.mk rfl ?_ | refine Fin.mk ?_ rfl | refine Fin.mk ?_ ?_) | ((with_reducible refine Eqn.mk (fun hq => ?_) ?_) <;> try contradiction) | ((with_reducible refine Bo.gen (fun c hb => ?_)) <;> (try simp only [Nat.reduceAdd, Int.reduceToNat, toD, toDs, bl0] at hb) <;> (try simp only [↓reduceIte, reduceCtorEq, Int.reduceEq, Int.reduceLT, Int.reduceLE, eqA, eqAs, cmpI, bl1, toD, toDs, bl0] at hb) <;> first | (obtain rfl : c = true := hb) | (obtain rfl : c = false := hb) | skip) | ((with_reducible refine Br.cs (fun hq => ?_) (fun hq => ?_)) <;> (try simp only [↓reduceIte, reduceCtorEq, Int.reduceEq, Int.reduceLT, Int.reduceLE, eqA, eqAs, cmpI, bl1, toD, toDs, bl0] at hq) <;> first | contradiction | subst hq | skip) | ((with_reducible refine Nx.mk ?_ ?_ ?_ ?_) <;> try rfl)))
                rw [e320]
              · have hge : ∀ j, j < i + 1 → ¬ gI a j < gI b j := less_step hi.2 (by rw [hx, hy]; exact hfl)
                have hr3 : ¬ riseI x y < 0 := fun h => hfl (hn3.1 h)
                have hJn : ∀ t o c r : Int, sumC b a m 0 (i + 1) = t → sumC b a m 1 (i + 1) = o → sumC b a m 2 (i + 1) = c → sumC b a m 3 (i + 1) = r → J [(0, .sl I64 b .no), (1, .sl I64 a .no), (2, .int .i64 m), (7, .int .i64 t), (8, .int .i64 o), (9, .int .i64 c), (10, .int .i64 r), (32, .int .i64 (IntKind.i64.wrap ((i : Int) + 1)))] [] := fun t o c r k0 k1 k2 k3 => by
                  refine J_of (hJ (i + 1) ⟨by omega, hge⟩ (by omega)) ?_ rfl
                  rw [k0, k1, k2, k3, hw]
                clear hJ hge
                have q : ¬ (i : Int) = 1 → ¬ (i : Int) = 2 → ¬ (i : Int) = m := by omega
                by_cases nm : (i : Int) = m
                · have nm' : (m : Int) = i := nm.symm
                  clear hM hM2
                  have hxm : (b.getD m (.i 0)).int = x := by rw [show m = i by omega]; exact hx'
                  have hym : (a.getD m (.i 0)).int = y := by rw [show m = i by omega]; exact hy'
                  have hm15' : (m : Int) < 15 := by omega
                  have hc : clsN (m : Int) i = 0 := by unfold clsN; rw [if_pos nm]
                  rw [hc] at hst
                  have k0 := hst 0
                  have k1 := hst 1
                  have k2 := hst 2
                  have k3 := hst 3
                  rw [if_pos rfl] at k0
                  rw [if_neg (by decide)] at k1
                  rw [if_neg (by decide)] at k2
                  rw [if_neg (by decide)] at k3
                  rw [Int.add_zero] at k1 k2 k3
                  rw [S0, if_neg (by omega), Int.zero_add] at k0
                  clear hst
                  repeat' (first | (with_reducible first | refine st_seq (fun K' hn he hr => ?_) | refine st_block (fun K' hn he hr => ?_) | refine st_region ?_ | refine st_draw ?_ | refine st_cond ?_ | refine st_loop ?_ | refine st_op (fun G gn => ?_) | refine st_gop ?_ | refine st_dop (fun G gn => ?_) | refine st_gdop ?_ | refine st_tl ?_) | ((conv => whnf); first | (with_reducible first | (refine gn _ _ ?_; clear gn G) | (refine gn _ _ _ _ ?_; clear gn G) | refine Wr.mk ?_ | (refine hn _ _ ?_; clear hn he hr K') | (refine he _ _ _ ?_; clear hn he hr K') | (refine hr _ _ ?_; clear hn he hr K') | refine Bo.yes (by decide) ?_ | refine Bo.no (by decide) ?_ | refine Nd.mk trivial ?_ | refine Nd.mk (by decide) ?_ | refine Nd.mk ?_ ?_ | refine Leaf.mk rfl ?_ | refine Fin.mk ?_ rfl | refine Fin.mk ?_ ?_) | ((with_reducible refine Eqn.mk (fun hq => ?_) ?_) <;> try contradiction) | ((with_reducible refine Bo.gen (fun c hb => ?_)) <;> (try simp only [Nat.reduceAdd, Int.reduceToNat, toD, toDs, bl0] at hb) <;> (try simp only [↓reduceIte, reduceCtorEq, Int.reduceEq, Int.reduceLT, Int.reduceLE, eqA, eqAs, cmpI, bl1, toD, toDs, bl0, Int.toNat_natCast, hlt', hx', hy', hr3, nm, hxm, hym, hm15'] at hb) <;> first | (obtain rfl : c = true := hb) | (obtain rfl : c = false := hb) | skip) | ((with_reducible refine Br.cs (fun hq => ?_) (fun hq => ?_)) <;> (try simp only [↓reduceIte, reduceCtorEq, Int.reduceEq, Int.reduceLT, Int.reduceLE, eqA, eqAs, cmpI, bl1, toD, toDs, bl0, Int.toNat_natCast, hlt', hx', hy', hr3, nm, hxm, hym, hm15'] at hq) <;> first | contradiction | subst hq | skip) | ((with_reducible refine Nx.mk ?_ ?_ ?_ ?_) <;> try rfl)))
                  all_goals first | omega | exact hJn _ _ _ _ k0 k1 k2 k3 | (subst hx hy; exact hJn _ _ _ _ k0 k1 k2 k3)
                · have nm' : ¬ (m : Int) = i := fun h => nm h.symm
                  by_cases n1 : (i : Int) = 1
                  · have n1' : i = 1 := by omega
                    have hxm : (b.getD (Int.toNat 1) (.i 0)).int = x := by rw [show Int.toNat 1 = i by omega]; exact hx'
                    have hym : (a.getD (Int.toNat 1) (.i 0)).int = y := by rw [show Int.toNat 1 = i by omega]; exact hy'
                    have hnm : ¬ (1 : Int) = m := by omega
                    have hc : clsN (m : Int) i = 1 := by unfold clsN; rw [if_neg nm]; rw [if_pos (by omega)]
                    rw [hc] at hst
                    have k0 := hst 0
                    have k1 := hst 1
                    have k2 := hst 2
                    have k3 := hst 3
                    rw [if_neg (by decide)] at k0
                    rw [if_pos rfl] at k1
                    rw [if_neg (by decide)] at k2
                    rw [if_neg (by decide)] at k3
                    rw [Int.add_zero] at k0 k2 k3
                    have hwk : IntKind.i64.wrap (sumC b a m 1 i + riseI x y) = sumC b a m 1 i + riseI x y := wi64_in (by omega) (by omega)
                    rw [← hwk] at k1
                    clear hst
                    repeat' (first | (with_reducible first | refine st_seq (fun K' hn he hr => ?_) | refine st_block (fun K' hn he hr => ?_) | refine st_region ?_ | refine st_draw ?_ | refine st_cond ?_ | refine st_loop ?_ | refine st_op (fun G gn => ?_) | refine st_gop ?_ | refine st_dop (fun G gn => ?_) | refine st_gdop ?_ | refine st_tl ?_) | ((conv => whnf); first | (with_reducible first | (refine gn _ _ ?_; clear gn G) | (refine gn _ _ _ _ ?_; clear gn G) | refine Wr.mk ?_ | (refine hn _ _ ?_; clear hn he hr K') | (refine he _ _ _ ?_; clear hn he hr K') | (refine hr _ _ ?_; clear hn he hr K') | refine Bo.yes (by decide) ?_ | refine Bo.no (by decide) ?_ | refine Nd.mk trivial ?_ | refine Nd.mk (by decide) ?_ | refine Nd.mk ?_ ?_ | refine Leaf.mk rfl ?_ | refine Fin.mk ?_ rfl | refine Fin.mk ?_ ?_) | ((with_reducible refine Eqn.mk (fun hq => ?_) ?_) <;> try contradiction) | ((with_reducible refine Bo.gen (fun c hb => ?_)) <;> (try simp only [Nat.reduceAdd, Int.reduceToNat, toD, toDs, bl0] at hb) <;> (try simp only [↓reduceIte, reduceCtorEq, Int.reduceEq, Int.reduceLT, Int.reduceLE, eqA, eqAs, cmpI, bl1, toD, toDs, bl0, Int.toNat_natCast, hlt', hx', hy', hr3, nm, n1, hxm, hym, hnm] at hb) <;> first | (obtain rfl : c = true := hb) | (obtain rfl : c = false := hb) | skip) | ((with_reducible refine Br.cs (fun hq => ?_) (fun hq => ?_)) <;> (try simp only [↓reduceIte, reduceCtorEq, Int.reduceEq, Int.reduceLT, Int.reduceLE, eqA, eqAs, cmpI, bl1, toD, toDs, bl0, Int.toNat_natCast, hlt', hx', hy', hr3, nm, n1, hxm, hym, hnm] at hq) <;> first | contradiction | subst hq | skip) | ((with_reducible refine Nx.mk ?_ ?_ ?_ ?_) <;> try rfl)))
                    all_goals first | omega | exact hJn _ _ _ _ k0 k1 k2 k3 | (subst hx hy; exact hJn _ _ _ _ k0 k1 k2 k3)
                  · by_cases n2 : (i : Int) = 2
                    · have hxm : (b.getD (Int.toNat 2) (.i 0)).int = x := by rw [show Int.toNat 2 = i by omega]; exact hx'
                      have hym : (a.getD (Int.toNat 2) (.i 0)).int = y := by rw [show Int.toNat 2 = i by omega]; exact hy'
                      have hnm : ¬ (2 : Int) = m := by omega
                      have hc : clsN (m : Int) i = 1 := by unfold clsN; rw [if_neg nm]; rw [if_pos (by omega)]
                      rw [hc] at hst
                      have k0 := hst 0
                      have k1 := hst 1
                      have k2 := hst 2
                      have k3 := hst 3
                      rw [if_neg (by decide)] at k0
                      rw [if_pos rfl] at k1
                      rw [if_neg (by decide)] at k2
                      rw [if_neg (by decide)] at k3
                      rw [Int.add_zero] at k0 k2 k3
                      have hwk : IntKind.i64.wrap (sumC b a m 1 i + riseI x y) = sumC b a m 1 i + riseI x y := wi64_in (by omega) (by omega)
                      rw [← hwk] at k1
                      clear hst
                      repeat' (first | (with_reducible first | refine st_seq (fun K' hn he hr => ?_) | refine st_block (fun K' hn he hr => ?_) | refine st_region ?_ | refine st_draw ?_ | refine st_cond ?_ | refine st_loop ?_ | refine st_op (fun G gn => ?_) | refine st_gop ?_ | refine st_dop (fun G gn => ?_) | refine st_gdop ?_ | refine st_tl ?_) | ((conv => whnf); first | (with_reducible first | (refine gn _ _ ?_; clear gn G) | (refine gn _ _ _ _ ?_; clear gn G) | refine Wr.mk ?_ | (refine hn _ _ ?_; clear hn he hr K') | (refine he _ _ _ ?_; clear hn he hr K') | (refine hr _ _ ?_; clear hn he hr K') | refine Bo.yes (by decide) ?_ | refine Bo.no (by decide) ?_ | refine Nd.mk trivial ?_ | refine Nd.mk (by decide) ?_ | refine Nd.mk ?_ ?_ | refine Leaf.mk rfl ?_ | refine Fin.mk ?_ rfl | refine Fin.mk ?_ ?_) | ((with_reducible refine Eqn.mk (fun hq => ?_) ?_) <;> try contradiction) | ((with_reducible refine Bo.gen (fun c hb => ?_)) <;> (try simp only [Nat.reduceAdd, Int.reduceToNat, toD, toDs, bl0] at hb) <;> (try simp only [↓reduceIte, reduceCtorEq, Int.reduceEq, Int.reduceLT, Int.reduceLE, eqA, eqAs, cmpI, bl1, toD, toDs, bl0, Int.toNat_natCast, hlt', hx', hy', hr3, nm, n1, n2, hxm, hym, hnm] at hb) <;> first | (obtain rfl : c = true := hb) | (obtain rfl : c = false := hb) | skip) | ((with_reducible refine Br.cs (fun hq => ?_) (fun hq => ?_)) <;> (try simp only [↓reduceIte, reduceCtorEq, Int.reduceEq, Int.reduceLT, Int.reduceLE, eqA, eqAs, cmpI, bl1, toD, toDs, bl0, Int.toNat_natCast, hlt', hx', hy', hr3, nm, n1, n2, hxm, hym, hnm] at hq) <;> first | contradiction | subst hq | skip) | ((with_reducible refine Nx.mk ?_ ?_ ?_ ?_) <;> try rfl)))
                      all_goals first | omega | exact hJn _ _ _ _ k0 k1 k2 k3 | (subst hx hy; exact hJn _ _ _ _ k0 k1 k2 k3)
                    · by_cases n3 : (i : Int) = 3
                      · have hxm : (b.getD (Int.toNat 3) (.i 0)).int = x := by rw [show Int.toNat 3 = i by omega]; exact hx'
                        have hym : (a.getD (Int.toNat 3) (.i 0)).int = y := by rw [show Int.toNat 3 = i by omega]; exact hy'
                        have hnm : ¬ (3 : Int) = m := by omega
                        have hc : clsN (m : Int) i = 2 := by unfold clsN; rw [if_neg nm]; rw [if_neg (by omega), if_pos (by omega)]
                        rw [hc] at hst
                        have k0 := hst 0
                        have k1 := hst 1
                        have k2 := hst 2
                        have k3 := hst 3
                        rw [if_neg (by decide)] at k0
                        rw [if_neg (by decide)] at k1
                        rw [if_pos rfl] at k2
                        rw [if_neg (by decide)] at k3
                        rw [Int.add_zero] at k0 k1 k3
                        have hwk : IntKind.i64.wrap (sumC b a m 2 i + riseI x y) = sumC b a m 2 i + riseI x y := wi64_in (by omega) (by omega)
                        rw [← hwk] at k2
                        clear hst
                        repeat' (first | (with_reducible first | refine st_seq (fun K' hn he hr => ?_) | refine st_block (fun K' hn he hr => ?_) | refine st_region ?_ | refine st_draw ?_ | refine st_cond ?_ | refine st_loop ?_ | refine st_op (fun G gn => ?_) | refine st_gop ?_ | refine st_dop (fun G gn => ?_) | refine st_gdop ?_ | refine st_tl ?_) | ((conv => whnf); first | (with_reducible first | (refine gn _ _ ?_; clear gn G) | (refine gn _ _ _ _ ?_; clear gn G) | refine Wr.mk ?_ | (refine hn _ _ ?_; clear hn he hr K') | (refine he _ _ _ ?_; clear hn he hr K') | (refine hr _ _ ?_; clear hn he hr K') | refine Bo.yes (by decide) ?_ | refine Bo.no (by decide) ?_ | refine Nd.mk trivial ?_ | refine Nd.mk (by decide) ?_ | refine Nd.mk ?_ ?_ | refine Leaf.mk rfl ?_ | refine Fin.mk ?_ rfl | refine Fin.mk ?_ ?_) | ((with_reducible refine Eqn.mk (fun hq => ?_) ?_) <;> try contradiction) | ((with_reducible refine Bo.gen (fun c hb => ?_)) <;> (try simp only [Nat.reduceAdd, Int.reduceToNat, toD, toDs, bl0] at hb) <;> (try simp only [↓reduceIte, reduceCtorEq, Int.reduceEq, Int.reduceLT, Int.reduceLE, eqA, eqAs, cmpI, bl1, toD, toDs, bl0, Int.toNat_natCast, hlt', hx', hy', hr3, nm, n1, n2, n3, hxm, hym, hnm] at hb) <;> first | (obtain rfl : c = true := hb) | (obtain rfl : c = false := hb) | skip) | ((with_reducible refine Br.cs (fun hq => ?_) (fun hq => ?_)) <;> (try simp only [↓reduceIte, reduceCtorEq, Int.reduceEq, Int.reduceLT, Int.reduceLE, eqA, eqAs, cmpI, bl1, toD, toDs, bl0, Int.toNat_natCast, hlt', hx', hy', hr3, nm, n1, n2, n3, hxm, hym, hnm] at hq) <;> first | contradiction | subst hq | skip) | ((with_reducible refine Nx.mk ?_ ?_ ?_ ?_) <;> try rfl)))
                        all_goals first | omega | exact hJn _ _ _ _ k0 k1 k2 k3 | (subst hx hy; exact hJn _ _ _ _ k0 k1 k2 k3)
                      · by_cases n4 : (i : Int) = 4
                        · have hxm : (b.getD (Int.toNat 4) (.i 0)).int = x := by rw [show Int.toNat 4 = i by omega]; exact hx'
                          have hym : (a.getD (Int.toNat 4) (.i 0)).int = y := by rw [show Int.toNat 4 = i by omega]; exact hy'
                          have hnm : ¬ (4 : Int) = m := by omega
                          have hc : clsN (m : Int) i = 2 := by unfold clsN; rw [if_neg nm]; rw [if_neg (by omega), if_pos (by omega)]
                          rw [hc] at hst
                          have k0 := hst 0
                          have k1 := hst 1
                          have k2 := hst 2
                          have k3 := hst 3
                          rw [if_neg (by decide)] at k0
                          rw [if_neg (by decide)] at k1
                          rw [if_pos rfl] at k2
                          rw [if_neg (by decide)] at k3
                          rw [Int.add_zero] at k0 k1 k3
                          have hwk : IntKind.i64.wrap (sumC b a m 2 i + riseI x y) = sumC b a m 2 i + riseI x y := wi64_in (by omega) (by omega)
                          rw [← hwk] at k2
                          clear hst
                          repeat' (first | (with_reducible first | refine st_seq (fun K' hn he hr => ?_) | refine st_block (fun K' hn he hr => ?_) | refine st_region ?_ | refine st_draw ?_ | refine st_cond ?_ | refine st_loop ?_ | refine st_op (fun G gn => ?_) | refine st_gop ?_ | refine st_dop (fun G gn => ?_) | refine st_gdop ?_ | refine st_tl ?_) | ((conv => whnf); first | (with_reducible first | (refine gn _ _ ?_; clear gn G) | (refine gn _ _ _ _ ?_; clear gn G) | refine Wr.mk ?_ | (refine hn _ _ ?_; clear hn he hr K') | (refine he _ _ _ ?_; clear hn he hr K') | (refine hr _ _ ?_; clear hn he hr K') | refine Bo.yes (by decide) ?_ | refine Bo.no (by decide) ?_ | refine Nd.mk trivial ?_ | refine Nd.mk (by decide) ?_ | refine Nd.mk ?_ ?_ | refine Leaf.mk rfl ?_ | refine Fin.mk ?_ rfl | refine Fin.mk ?_ ?_) | ((with_reducible refine Eqn.mk (fun hq => ?_) ?_) <;> try contradiction) | ((with_reducible refine Bo.gen (fun c hb => ?_)) <;> (try simp only [Nat.reduceAdd, Int.reduceToNat, toD, toDs, bl0] at hb) <;> (try simp only [↓reduceIte, reduceCtorEq, Int.reduceEq, Int.reduceLT, Int.reduceLE, eqA, eqAs, cmpI, bl1, toD, toDs, bl0, Int.toNat_natCast, hlt', hx', hy', hr3, nm, n1, n2, n3, n4, hxm, hym, hnm] at hb) <;> first | (obtain rfl : c = true := hb) | (obtain rfl : c = false := hb) | skip) | ((with_reducible refine Br.cs (fun hq => ?_) (fun hq => ?_)) <;> (try simp only [↓reduceIte, reduceCtorEq, Int.reduceEq, Int.reduceLT, Int.reduceLE, eqA, eqAs, cmpI, bl1, toD, toDs, bl0, Int.toNat_natCast, hlt', hx', hy', hr3, nm, n1, n2, n3, n4, hxm, hym, hnm] at hq) <;> first | contradiction | subst hq | skip) | ((with_reducible refine Nx.mk ?_ ?_ ?_ ?_) <;> try rfl)))
                          all_goals first | omega | exact hJn _ _ _ _ k0 k1 k2 k3 | (subst hx hy; exact hJn _ _ _ _ k0 k1 k2 k3)
                        · by_cases n12 : (i : Int) = 12
                          · have hxm : (b.getD (Int.toNat 12) (.i 0)).int = x := by rw [show Int.toNat 12 = i by omega]; exact hx'
                            have hym : (a.getD (Int.toNat 12) (.i 0)).int = y := by rw [show Int.toNat 12 = i by omega]; exact hy'
                            have hnm : ¬ (12 : Int) = m := by omega
                            have hc : clsN (m : Int) i = 2 := by unfold clsN; rw [if_neg nm]; rw [if_neg (by omega), if_pos (by omega)]
                            rw [hc] at hst
                            have k0 := hst 0
                            have k1 := hst 1
                            have k2 := hst 2
                            have k3 := hst 3
                            rw [if_neg (by decide)] at k0
                            rw [if_neg (by decide)] at k1
                            rw [if_pos rfl] at k2
                            rw [if_neg (by decide)] at k3
                            rw [Int.add_zero] at k0 k1 k3
                            have hwk : IntKind.i64.wrap (sumC b a m 2 i + riseI x y) = sumC b a m 2 i + riseI x y := wi64_in (by omega) (by omega)
                            rw [← hwk] at k2
                            clear hst
                            repeat' (first | (with_reducible first | refine st_seq (fun K' hn he hr => ?_) | refine st_block (fun K' hn he hr => ?_) | refine st_region ?_ | refine st_draw ?_ | refine st_cond ?_ | refine st_loop ?_ | refine st_op (fun G gn => ?_) | refine st_gop ?_ | refine st_dop (fun G gn => ?_) | refine st_gdop ?_ | refine st_tl ?_) | ((conv => whnf); first | (with_reducible first | (refine gn _ _ ?_; clear gn G) | (refine gn _ _ _ _ ?_; clear gn G) | refine Wr.mk ?_ | (refine hn _ _ ?_; clear hn he hr K') | (refine he _ _ _ ?_; clear hn he hr K') | (refine hr _ _ ?_; clear hn he hr K') | refine Bo.yes (by decide) ?_ | refine Bo.no (by decide) ?_ | refine Nd.mk trivial ?_ | refine Nd.mk (by decide) ?_ | refine Nd.mk ?_ ?_ | refine Leaf.mk rfl ?_ | refine Fin.mk ?_ rfl | refine Fin.mk ?_ ?_) | ((with_reducible refine Eqn.mk (fun hq => ?_) ?_) <;> try contradiction) | ((with_reducible refine Bo.gen (fun c hb => ?_)) <;> (try simp only [Nat.reduceAdd, Int.reduceToNat, toD, toDs, bl0] at hb) <;> (try simp only [↓reduceIte, reduceCtorEq, Int.reduceEq, Int.reduceLT, Int.reduceLE, eqA, eqAs, cmpI, bl1, toD, toDs, bl0, Int.toNat_natCast, hlt', hx', hy', hr3, nm, n1, n2, n3, n4, n12, hxm, hym, hnm] at hb) <;> first | (obtain rfl : c = true := hb) | (obtain rfl : c = false := hb) | skip) | ((with_reducible refine Br.cs (fun hq => ?_) (fun hq => ?_)) <;> (try simp only [↓reduceIte, reduceCtorEq, Int.reduceEq, Int.reduceLT, Int.reduceLE, eqA, eqAs, cmpI, bl1, toD, toDs, bl0, Int.toNat_natCast, hlt', hx', hy', hr3, nm, n1, n2, n3, n4, n12, hxm, hym, hnm] at hq) <;> first | contradiction | subst hq | skip) | ((with_reducible refine Nx.mk ?_ ?_ ?_ ?_) <;> try rfl)))
                            all_goals first | omega | exact hJn _ _ _ _ k0 k1 k2 k3 | (subst hx hy; exact hJn _ _ _ _ k0 k1 k2 k3)
                          · have hc : clsN (m : Int) i = 3 := by unfold clsN; rw [if_neg nm, if_neg (by omega), if_neg (by omega)]
                            rw [hc] at hst
                            have k0 := hst 0
                            have k1 := hst 1
                            have k2 := hst 2
                            have k3 := hst 3
                            rw [if_neg (by decide)] at k0
                            rw [if_neg (by decide)] at k1
                            rw [if_neg (by decide)] at k2
                            rw [if_pos rfl] at k3
                            rw [Int.add_zero] at k0 k1 k2
                            have hwk : IntKind.i64.wrap (sumC b a m 3 i + riseI x y) = sumC b a m 3 i + riseI x y := wi64_in (by omega) (by omega)
                            rw [← hwk] at k3
                            clear hst
                            repeat' (first | (with_reducible first | refine st_seq (fun K' hn he hr => ?_) | refine st_block (fun K' hn he hr => ?_) | refine st_region ?_ | refine st_draw ?_ | refine st_cond ?_ | refine st_loop ?_ | refine st_op (fun G gn => ?_) | refine st_gop ?_ | refine st_dop (fun G gn => ?_) | refine st_gdop ?_ | refine st_tl ?_) | ((conv => whnf); first | (with_reducible first | (refine gn _ _ ?_; clear gn G) | (refine gn _ _ _ _ ?_; clear gn G) | refine Wr.mk ?_ | (refine hn _ _ ?_; clear hn he hr K') | (refine he _ _ _ ?_; clear hn he hr K') | (refine hr _ _ ?_; clear hn he hr K') | refine Bo.yes (by decide) ?_ | refine Bo.no (by decide) ?_ | refine Nd.mk trivial ?_ | refine Nd.mk (by decide) ?_ | refine Nd.mk ?_ ?_ | refine Leaf.mk rfl ?_ | refine Fin.mk ?_ rfl | refine Fin.mk ?_ ?_) | ((with_reducible refine Eqn.mk (fun hq => ?_) ?_) <;> try contradiction) | ((with_reducible refine Bo.gen (fun c hb => ?_)) <;> (try simp only [Nat.reduceAdd, Int.reduceToNat, toD, toDs, bl0] at hb) <;> (try simp only [↓reduceIte, reduceCtorEq, Int.reduceEq, Int.reduceLT, Int.reduceLE, eqA, eqAs, cmpI, bl1, toD, toDs, bl0, Int.toNat_natCast, hlt', hx', hy', hr3, nm, n1, n2, n3, n4, n12] at hb) <;> first | (obtain rfl : c = true := hb) | (obtain rfl : c = false := hb) | skip) | ((with_reducible refine Br.cs (fun hq => ?_) (fun hq => ?_)) <;> (try simp only [↓reduceIte, reduceCtorEq, Int.reduceEq, Int.reduceLT, Int.reduceLE, eqA, eqAs, cmpI, bl1, toD, toDs, bl0, Int.toNat_natCast, hlt', hx', hy', hr3, nm, n1, n2, n3, n4, n12] at hq) <;> first | contradiction | subst hq | skip) | ((with_reducible refine Nx.mk ?_ ?_ ?_ ?_) <;> try rfl)))
                            all_goals first | omega | exact hJn _ _ _ _ k0 k1 k2 k3 | (subst hx hy; exact hJn _ _ _ _ k0 k1 k2 k3)
            · have hlt' : ¬ (i : Int) < 15 := by omega
              have hi15 : i = 15 := by omega
              have hff : fallB b a = false := fall_f fun j hj => hi.2 j (by omega)
              have B1 := sum_b b a m 1 i hi.2
              have B2 := sum_b b a m 2 i hi.2
              have B3 := sum_b b a m 3 i hi.2
              rw [← hi15] at hct hs0
              rw [hs0]
              obtain ⟨t, ht⟩ : ∃ t, riseI (gI b m) (gI a m) = t := ⟨_, rfl⟩
              obtain ⟨o, ho⟩ : ∃ o, sumC b a m 1 i = o := ⟨_, rfl⟩
              obtain ⟨c, hc⟩ : ∃ c, sumC b a m 2 i = c := ⟨_, rfl⟩
              obtain ⟨r, hrr⟩ : ∃ r, sumC b a m 3 i = r := ⟨_, rfl⟩
              obtain ⟨hT, hF⟩ := hct hff ht ho hc hrr
              rw [ht, ho, hc, hrr]
              rw [ho] at B1
              rw [hc] at B2
              rw [hrr] at B3
              repeat' (first | (with_reducible first | refine st_seq (fun K' hn he hr => ?_) | refine st_block (fun K' hn he hr => ?_) | refine st_region ?_ | refine st_draw ?_ | refine st_cond ?_ | refine st_loop ?_ | refine st_op (fun G gn => ?_) | refine st_gop ?_ | refine st_dop (fun G gn => ?_) | refine st_gdop ?_ | refine st_tl ?_) | ((conv => whnf); first | (with_reducible first | (refine gn _ _ ?_; clear gn G) | (refine gn _ _ _ _ ?_; clear gn G) | refine Wr.mk ?_ | (refine hn _ _ ?_; clear hn he hr K') | (refine he _ _ _ ?_; clear hn he hr K') | (refine hr _ _ ?_; clear hn he hr K') | refine Bo.yes (by decide) ?_ | refine Bo.no (by decide) ?_ | refine Nd.mk trivial ?_ | refine Nd.mk (by decide) ?_ | refine Nd.mk ?_ ?_ | refine Leaf.mk rfl ?_ | refine Fin.mk ?_ rfl | refine Fin.mk ?_ ?_) | ((with_reducible refine Eqn.mk (fun hq => ?_) ?_) <;> try contradiction) | ((with_reducible refine Bo.gen (fun c hb => ?_)) <;> (try simp only [Nat.reduceAdd, Int.reduceToNat, toD, toDs, bl0] at hb) <;> (try simp only [↓reduceIte, reduceCtorEq, Int.reduceEq, Int.reduceLT, Int.reduceLE, eqA, eqAs, cmpI, bl1, toD, toDs, bl0, hlt'] at hb) <;> first | (obtain rfl : c = true := hb) | (obtain rfl : c = false := hb) | skip) | ((with_reducible refine Br.cs (fun hq => ?_) (fun hq => ?_)) <;> (try simp only [↓reduceIte, reduceCtorEq, Int.reduceEq, Int.reduceLT, Int.reduceLE, eqA, eqAs, cmpI, bl1, toD, toDs, bl0, hlt'] at hq) <;> first | contradiction | subst hq | skip) | ((with_reducible refine Nx.mk ?_ ?_ ?_ ?_) <;> try rfl)))
              refine he0 _ _ _ ?_
              clear he0 hn0 hr0 hJ
              repeat' (first | (with_reducible first | refine st_seq (fun K' hn he hr => ?_) | refine st_block (fun K' hn he hr => ?_) | refine st_region ?_ | refine st_draw ?_ | refine st_cond ?_ | refine st_loop ?_ | refine st_op (fun G gn => ?_) | refine st_gop ?_ | refine st_dop (fun G gn => ?_) | refine st_gdop ?_ | refine st_tl ?_) | ((conv => whnf); first | (with_reducible first | (refine gn _ _ ?_; clear gn G) | (refine gn _ _ _ _ ?_; clear gn G) | refine Wr.mk ?_ | (refine hn _ _ ?_; clear hn he hr K') | (refine he _ _ _ ?_; clear hn he hr K') | (refine hr _ _ ?_; clear hn he hr K') | refine Bo.yes (by decide) ?_ | refine Bo.no (by decide) ?_ | refine Nd.mk trivial ?_ | refine Nd.mk (by decide) ?_ | refine Nd.mk ?_ ?_ | refine Leaf.mk rfl ?_ | refine Fin.mk ?_ rfl | refine Fin.mk ?_ ?_) | ((with_reducible refine Eqn.mk (fun hq => ?_) ?_) <;> try contradiction) | ((with_reducible refine Bo.gen (fun c hb => ?_)) <;> (try simp only [Nat.reduceAdd, Int.reduceToNat, toD, toDs, bl0] at hb) <;> (try simp only [↓reduceIte, reduceCtorEq, Int.reduceEq, Int.reduceLT, Int.reduceLE, eqA, eqAs, cmpI, bl1, toD, toDs, bl0, gt_iff_lt] at hb) <;> first | (obtain rfl : c = true := hb) | (obtain rfl : c = false := hb) | skip) | ((with_reducible refine Br.cs (fun hq => ?_) (fun hq => ?_)) <;> (try simp only [↓reduceIte, reduceCtorEq, Int.reduceEq, Int.reduceLT, Int.reduceLE, eqA, eqAs, cmpI, bl1, toD, toDs, bl0, gt_iff_lt] at hq) <;> first | contradiction | subst hq | skip) | ((with_reducible refine Nx.mk ?_ ?_ ?_ ?_) <;> try rfl)))
              all_goals (try subst_vars)
              all_goals (try simp only [cfd, ctd, cf_not, ct_not, dtd, dfd] at *)
              all_goals first | (exfalso; omega) | (rw [hT (by unfold cntP; omega)]) | (rw [hF (by unfold cntP; omega)])
          · have hM : (m : Int) = 2 := hM0
            have hM2 : ¬ (2 : Int) = 1 := by decide
            repeat' (first | (with_reducible first | refine st_seq (fun K' hn he hr => ?_) | refine st_block (fun K' hn he hr => ?_) | refine st_region ?_ | refine st_draw ?_ | refine st_cond ?_ | refine st_loop ?_ | refine st_op (fun G gn => ?_) | refine st_gop ?_ | refine st_dop (fun G gn => ?_) | refine st_gdop ?_ | refine st_tl ?_) | ((conv => whnf); first | (with_reducible first | (refine gn _ _ ?_; clear gn G) | (refine gn _ _ _ _ ?_; clear gn G) | refine Wr.mk ?_ | (refine hn _ _ ?_; clear hn he hr K') | (refine he _ _ _ ?_; clear hn he hr K') | (refine hr _ _ ?_; clear hn he hr K') | refine Bo.yes (by decide) ?_ | refine Bo.no (by decide) ?_ | refine Nd.mk trivial ?_ | refine Nd.mk (by decide) ?_ | refine Nd.mk ?_ ?_ | refine Leaf.mk rfl ?_ | refine Fin.mk ?_ rfl | refine Fin.mk ?_ ?_) | ((with_reducible refine Eqn.mk (fun hq => ?_) ?_) <;> try contradiction) | ((with_reducible refine Bo.gen (fun c hb => ?_)) <;> (try simp only [Nat.reduceAdd, Int.reduceToNat, toD, toDs, bl0] at hb) <;> (try simp only [↓reduceIte, reduceCtorEq, Int.reduceEq, Int.reduceLT, Int.reduceLE, eqA, eqAs, cmpI, bl1, toD, toDs, bl0, h1', h2', hM, hM2] at hb) <;> first | (obtain rfl : c = true := hb) | (obtain rfl : c = false := hb) | skip) | ((with_reducible refine Br.cs (fun hq => ?_) (fun hq => ?_)) <;> (try simp only [↓reduceIte, reduceCtorEq, Int.reduceEq, Int.reduceLT, Int.reduceLE, eqA, eqAs, cmpI, bl1, toD, toDs, bl0, h1', h2', hM, hM2] at hq) <;> first | contradiction | subst hq | skip) | ((with_reducible refine Nx.mk ?_ ?_ ?_ ?_) <;> try rfl)))
            have hn0 := hn
            have he0 := he
            have hr0 := hr
            clear hn he hr
            refine loop_of (fun i : Nat => [(0, .sl I64 b .no), (1, .sl I64 a .no), (2, .int .i64 m), (7, .int .i64 (sumC b a m 0 i)), (8, .int .i64 (sumC b a m 1 i)), (9, .int .i64 (sumC b a m 2 i)), (10, .int .i64 (sumC b a m 3 i)), (32, .int .i64 (i : Int))]) (fun i => []) (fun i => i ≤ 15 ∧ ∀ j, j < i → ¬ gI a j < gI b j) (fun i => 15 - i) 0 rfl rfl ⟨by omega, fun j hj => by omega⟩ (fun _ _ => rfl) ?_
            intro i hi J hJ K' hn he hr
            by_cases hlt : i < 15
            · have hlt' : (i : Int) < 15 := by omega
              have hw : IntKind.i64.wrap ((i : Int) + 1) = ((i + 1 : Nat) : Int) := wi64_in (by omega) (by omega)
              have B0 := sum_b b a m 0 i hi.2
              have B1 := sum_b b a m 1 i hi.2
              have B2 := sum_b b a m 2 i hi.2
              have B3 := sum_b b a m 3 i hi.2
              have S0 := sum0 b a m hm i
              obtain ⟨x, hx⟩ : ∃ x, gI b i = x := ⟨_, rfl⟩
              obtain ⟨y, hy⟩ : ∃ y, gI a i = y := ⟨_, rfl⟩
              have hx' : (b.getD i (.i 0)).int = x := hx
              have hy' : (a.getD i (.i 0)).int = y := hy
              have R64 := hr64 i
              have S64 := hs64 i
              have hst : ∀ k, sumC b a m k (i + 1) = sumC b a m k i + (if clsN m i = k then riseI (gI b i) (gI a i) else 0) := fun _ => rfl
              have hb3 := rise_b x y
              have hn3 := rise_n x y
              rw [hx, hy] at hst
              rw [hx] at R64
              rw [hy] at S64
              by_cases hfl : y < x
              · have e320 := hcf hlt (by rw [hx, hy]; exact hfl)
                have hr3 : riseI x y = -1 := if_pos hfl
                clear hJ hst
                repeat' (first | (with_reducible first | refine st_seq (fun K' hn he hr => ?_) | refine st_block (fun K' hn he hr => ?_) | refine st_region ?_ | refine st_draw ?_ | refine st_cond ?_ | refine st_loop ?_ | refine st_op (fun G gn => ?_) | refine st_gop ?_ | refine st_dop (fun G gn => ?_) | refine st_gdop ?_ | refine st_tl ?_) | ((conv => whnf); first | (with_reducible first | (refine gn _ _ ?_; clear gn G) | (refine gn _ _ _ _ ?_; clear gn G) | refine Wr.mk ?_ | (refine hn _ _ ?_; clear hn he hr K') | (refine he _ _ _ ?_; clear hn he hr K') | (refine hr _ _ ?_; clear hn he hr K') | refine Bo.yes (by decide) ?_ | refine Bo.no (by decide) ?_ | refine Nd.mk trivial ?_ | refine Nd.mk (by decide) ?_ | refine Nd.mk ?_ ?_ | refine Leaf.mk rfl ?_ | refine Fin.mk ?_ rfl | refine Fin.mk ?_ ?_) | ((with_reducible refine Eqn.mk (fun hq => ?_) ?_) <;> try contradiction) | ((with_reducible refine Bo.gen (fun c hb => ?_)) <;> (try simp only [Nat.reduceAdd, Int.reduceToNat, toD, toDs, bl0] at hb) <;> (try simp only [↓reduceIte, reduceCtorEq, Int.reduceEq, Int.reduceLT, Int.reduceLE, eqA, eqAs, cmpI, bl1, toD, toDs, bl0, Int.toNat_natCast, hlt', hx', hy', hfl, hr3] at hb) <;> first | (obtain rfl : c = true := hb) | (obtain rfl : c = false := hb) | skip) | ((with_reducible refine Br.cs (fun hq => ?_) (fun hq => ?_)) <;> (try simp only [↓reduceIte, reduceCtorEq, Int.reduceEq, Int.reduceLT, Int.reduceLE, eqA, eqAs, cmpI, bl1, toD, toDs, bl0, Int.toNat_natCast, hlt', hx', hy', hfl, hr3] at hq) <;> first | contradiction | subst hq | skip) | ((with_reducible refine Nx.mk ?_ ?_ ?_ ?_) <;> try rfl)))
                any_goals first | omega | skip
                refine hr0 _ _ ?_
                clear hr0 he0 hn0
                repeat' (first | (with_reducible first | refine st_seq (fun K' hn he hr => ?_) | refine st_block (fun K' hn he hr => ?_) | refine st_region ?_ | refine st_draw ?_ | refine st_cond ?_ | refine st_loop ?_ | refine st_op (fun G gn => ?_) | refine st_gop ?_ | refine st_dop (fun G gn => ?_) | refine st_gdop ?_ | refine st_tl ?_) | ((conv => whnf); first | (with_reducible first | (refine gn _ _ ?_; clear gn G) | (refine gn _ _ _ _ ?_; clear gn G) | refine Wr.mk ?_ | (refine hn _ _ ?_; clear hn he hr K') | (refine he _ _ _ ?_; clear hn he hr K') | (refine hr _ _ ?_; clear hn he hr K') | refine Bo.yes (by decide) ?_ | refine Bo.no (by decide) ?_ | refine Nd.mk trivial ?_ | refine Nd.mk (by decide) ?_ | refine Nd.mk ?_ ?_ | refine Leaf.mk rfl ?_ | refine Fin.mk ?_ rfl | refine Fin.mk ?_ ?_) | ((with_reducible refine Eqn.mk (fun hq => ?_) ?_) <;> try contradiction) | ((with_reducible refine Bo.gen (fun c hb => ?_)) <;> (try simp only [Nat.reduceAdd, Int.reduceToNat, toD, toDs, bl0] at hb) <;> (try simp only [↓reduceIte, reduceCtorEq, Int.reduceEq, Int.reduceLT, Int.reduceLE, eqA, eqAs, cmpI, bl1, toD, toDs, bl0] at hb) <;> first | (obtain rfl : c = true := hb) | (obtain rfl : c = false := hb) | skip) | ((with_reducible refine Br.cs (fun hq => ?_) (fun hq => ?_)) <;> (try simp only [↓reduceIte, reduceCtorEq, Int.reduceEq, Int.reduceLT, Int.reduceLE, eqA, eqAs, cmpI, bl1, toD, toDs, bl0] at hq) <;> first | contradiction | subst hq | skip) | ((with_reducible refine Nx.mk ?_ ?_ ?_ ?_) <;> try rfl)))
                rw [e320]
              · have hge : ∀ j, j < i + 1 → ¬ gI a j < gI b j := less_step hi.2 (by rw [hx, hy]; exact hfl)
                have hr3 : ¬ riseI x y < 0 := fun h => hfl (hn3.1 h)
                have hJn : ∀ t o c r : Int, sumC b a m 0 (i + 1) = t → sumC b a m 1 (i + 1) = o → sumC b a m 2 (i + 1) = c → sumC b a m 3 (i + 1) = r → J [(0, .sl I64 b .no), (1, .sl I64 a .no), (2, .int .i64 m), (7, .int .i64 t), (8, .int .i64 o), (9, .int .i64 c), (10, .int .i64 r), (32, .int .i64 (IntKind.i64.wrap ((i : Int) + 1)))] [] := fun t o c r k0 k1 k2 k3 => by
                  refine J_of (hJ (i + 1) ⟨by omega, hge⟩ (by omega)) ?_ rfl
                  rw [k0, k1, k2, k3, hw]
                clear hJ hge
                have q : ¬ (i : Int) = 1 → ¬ (i : Int) = 2 → ¬ (i : Int) = m := by omega
                by_cases nm : (i : Int) = m
                · have nm' : (m : Int) = i := nm.symm
                  clear hM hM2
                  have hxm : (b.getD m (.i 0)).int = x := by rw [show m = i by omega]; exact hx'
                  have hym : (a.getD m (.i 0)).int = y := by rw [show m = i by omega]; exact hy'
                  have hm15' : (m : Int) < 15 := by omega
                  have hc : clsN (m : Int) i = 0 := by unfold clsN; rw [if_pos nm]
                  rw [hc] at hst
                  have k0 := hst 0
                  have k1 := hst 1
                  have k2 := hst 2
                  have k3 := hst 3
                  rw [if_pos rfl] at k0
                  rw [if_neg (by decide)] at k1
                  rw [if_neg (by decide)] at k2
                  rw [if_neg (by decide)] at k3
                  rw [Int.add_zero] at k1 k2 k3
                  rw [S0, if_neg (by omega), Int.zero_add] at k0
                  clear hst
                  repeat' (first | (with_reducible first | refine st_seq (fun K' hn he hr => ?_) | refine st_block (fun K' hn he hr => ?_) | refine st_region ?_ | refine st_draw ?_ | refine st_cond ?_ | refine st_loop ?_ | refine st_op (fun G gn => ?_) | refine st_gop ?_ | refine st_dop (fun G gn => ?_) | refine st_gdop ?_ | refine st_tl ?_) | ((conv => whnf); first | (with_reducible first | (refine gn _ _ ?_; clear gn G) | (refine gn _ _ _ _ ?_; clear gn G) | refine Wr.mk ?_ | (refine hn _ _ ?_; clear hn he hr K') | (refine he _ _ _ ?_; clear hn he hr K') | (refine hr _ _ ?_; clear hn he hr K') | refine Bo.yes (by decide) ?_ | refine Bo.no (by decide) ?_ | refine Nd.mk trivial ?_ | refine Nd.mk (by decide) ?_ | refine Nd.mk ?_ ?_ | refine Leaf.mk rfl ?_ | refine Fin.mk ?_ rfl | refine Fin.mk ?_ ?_) | ((with_reducible refine Eqn.mk (fun hq => ?_) ?_) <;> try contradiction) | ((with_reducible refine Bo.gen (fun c hb => ?_)) <;> (try simp only [Nat.reduceAdd, Int.reduceToNat, toD, toDs, bl0] at hb) <;> (try simp only [↓reduceIte, reduceCtorEq, Int.reduceEq, Int.reduceLT, Int.reduceLE, eqA, eqAs, cmpI, bl1, toD, toDs, bl0, Int.toNat_natCast, hlt', hx', hy', hr3, nm, hxm, hym, hm15'] at hb) <;> first | (obtain rfl : c = true := hb) | (obtain rfl : c = false := hb) | skip) | ((with_reducible refine Br.cs (fun hq => ?_) (fun hq => ?_)) <;> (try simp only [↓reduceIte, reduceCtorEq, Int.reduceEq, Int.reduceLT, Int.reduceLE, eqA, eqAs, cmpI, bl1, toD, toDs, bl0, Int.toNat_natCast, hlt', hx', hy', hr3, nm, hxm, hym, hm15'] at hq) <;> first | contradiction | subst hq | skip) | ((with_reducible refine Nx.mk ?_ ?_ ?_ ?_) <;> try rfl)))
                  all_goals first | omega | exact hJn _ _ _ _ k0 k1 k2 k3 | (subst hx hy; exact hJn _ _ _ _ k0 k1 k2 k3)
                · have nm' : ¬ (m : Int) = i := fun h => nm h.symm
                  by_cases n1 : (i : Int) = 1
                  · have n1' : i = 1 := by omega
                    have hxm : (b.getD (Int.toNat 1) (.i 0)).int = x := by rw [show Int.toNat 1 = i by omega]; exact hx'
                    have hym : (a.getD (Int.toNat 1) (.i 0)).int = y := by rw [show Int.toNat 1 = i by omega]; exact hy'
                    have hnm : ¬ (1 : Int) = m := by omega
                    have hc : clsN (m : Int) i = 1 := by unfold clsN; rw [if_neg nm]; rw [if_pos (by omega)]
                    rw [hc] at hst
                    have k0 := hst 0
                    have k1 := hst 1
                    have k2 := hst 2
                    have k3 := hst 3
                    rw [if_neg (by decide)] at k0
                    rw [if_pos rfl] at k1
                    rw [if_neg (by decide)] at k2
                    rw [if_neg (by decide)] at k3
                    rw [Int.add_zero] at k0 k2 k3
                    have hwk : IntKind.i64.wrap (sumC b a m 1 i + riseI x y) = sumC b a m 1 i + riseI x y := wi64_in (by omega) (by omega)
                    rw [← hwk] at k1
                    clear hst
                    repeat' (first | (with_reducible first | refine st_seq (fun K' hn he hr => ?_) | refine st_block (fun K' hn he hr => ?_) | refine st_region ?_ | refine st_draw ?_ | refine st_cond ?_ | refine st_loop ?_ | refine st_op (fun G gn => ?_) | refine st_gop ?_ | refine st_dop (fun G gn => ?_) | refine st_gdop ?_ | refine st_tl ?_) | ((conv => whnf); first | (with_reducible first | (refine gn _ _ ?_; clear gn G) | (refine gn _ _ _ _ ?_; clear gn G) | refine Wr.mk ?_ | (refine hn _ _ ?_; clear hn he hr K') | (refine he _ _ _ ?_; clear hn he hr K') | (refine hr _ _ ?_; clear hn he hr K') | refine Bo.yes (by decide) ?_ | refine Bo.no (by decide) ?_ | refine Nd.mk trivial ?_ | refine Nd.mk (by decide) ?_ | refine Nd.mk ?_ ?_ | refine Leaf.mk rfl ?_ | refine Fin.mk ?_ rfl | refine Fin.mk ?_ ?_) | ((with_reducible refine Eqn.mk (fun hq => ?_) ?_) <;> try contradiction) | ((with_reducible refine Bo.gen (fun c hb => ?_)) <;> (try simp only [Nat.reduceAdd, Int.reduceToNat, toD, toDs, bl0] at hb) <;> (try simp only [↓reduceIte, reduceCtorEq, Int.reduceEq, Int.reduceLT, Int.reduceLE, eqA, eqAs, cmpI, bl1, toD, toDs, bl0, Int.toNat_natCast, hlt', hx', hy', hr3, nm, n1, hxm, hym, hnm] at hb) <;> first | (obtain rfl : c = true := hb) | (obtain rfl : c = false := hb) | skip) | ((with_reducible refine Br.cs (fun hq => ?_) (fun hq => ?_)) <;> (try simp only [↓reduceIte, reduceCtorEq, Int.reduceEq, Int.reduceLT, Int.reduceLE, eqA, eqAs, cmpI, bl1, toD, toDs, bl0, Int.toNat_natCast, hlt', hx', hy', hr3, nm, n1, hxm, hym, hnm] at hq) <;> first | contradiction | subst hq | skip) | ((with_reducible refine Nx.mk ?_ ?_ ?_ ?_) <;> try rfl)))
                    all_goals first | omega | exact hJn _ _ _ _ k0 k1 k2 k3 | (subst hx hy; exact hJn _ _ _ _ k0 k1 k2 k3)
                  · by_cases n2 : (i : Int) = 2
                    · have hxm : (b.getD (Int.toNat 2) (.i 0)).int = x := by rw [show Int.toNat 2 = i by omega]; exact hx'
                      have hym : (a.getD (Int.toNat 2) (.i 0)).int = y := by rw [show Int.toNat 2 = i by omega]; exact hy'
                      have hnm : ¬ (2 : Int) = m := by omega
                      have hc : clsN (m : Int) i = 1 := by unfold clsN; rw [if_neg nm]; rw [if_pos (by omega)]
                      rw [hc] at hst
                      have k0 := hst 0
                      have k1 := hst 1
                      have k2 := hst 2
                      have k3 := hst 3
                      rw [if_neg (by decide)] at k0
                      rw [if_pos rfl] at k1
                      rw [if_neg (by decide)] at k2
                      rw [if_neg (by decide)] at k3
                      rw [Int.add_zero] at k0 k2 k3
                      have hwk : IntKind.i64.wrap (sumC b a m 1 i + riseI x y) = sumC b a m 1 i + riseI x y := wi64_in (by omega) (by omega)
                      rw [← hwk] at k1
                      clear hst
                      repeat' (first | (with_reducible first | refine st_seq (fun K' hn he hr => ?_) | refine st_block (fun K' hn he hr => ?_) | refine st_region ?_ | refine st_draw ?_ | refine st_cond ?_ | refine st_loop ?_ | refine st_op (fun G gn => ?_) | refine st_gop ?_ | refine st_dop (fun G gn => ?_) | refine st_gdop ?_ | refine st_tl ?_) | ((conv => whnf); first | (with_reducible first | (refine gn _ _ ?_; clear gn G) | (refine gn _ _ _ _ ?_; clear gn G) | refine Wr.mk ?_ | (refine hn _ _ ?_; clear hn he hr K') | (refine he _ _ _ ?_; clear hn he hr K') | (refine hr _ _ ?_; clear hn he hr K') | refine Bo.yes (by decide) ?_ | refine Bo.no (by decide) ?_ | refine Nd.mk trivial ?_ | refine Nd.mk (by decide) ?_ | refine Nd.mk ?_ ?_ | refine Leaf.mk rfl ?_ | refine Fin.mk ?_ rfl | refine Fin.mk ?_ ?_) | ((with_reducible refine Eqn.mk (fun hq => ?_) ?_) <;> try contradiction) | ((with_reducible refine Bo.gen (fun c hb => ?_)) <;> (try simp only [Nat.reduceAdd, Int.reduceToNat, toD, toDs, bl0] at hb) <;> (try simp only [↓reduceIte, reduceCtorEq, Int.reduceEq, Int.reduceLT, Int.reduceLE, eqA, eqAs, cmpI, bl1, toD, toDs, bl0, Int.toNat_natCast, hlt', hx', hy', hr3, nm, n1, n2, hxm, hym, hnm] at hb) <;> first | (obtain rfl : c = true := hb) | (obtain rfl : c = false := hb) | skip) | ((with_reducible refine Br.cs (fun hq => ?_) (fun hq => ?_)) <;> (try simp only [↓reduceIte, reduceCtorEq, Int.reduceEq, Int.reduceLT, Int.reduceLE, eqA, eqAs, cmpI, bl1, toD, toDs, bl0, Int.toNat_natCast, hlt', hx', hy', hr3, nm, n1, n2, hxm, hym, hnm] at hq) <;> first | contradiction | subst hq | skip) | ((with_reducible refine Nx.mk ?_ ?_ ?_ ?_) <;> try rfl)))
                      all_goals first | omega | exact hJn _ _ _ _ k0 k1 k2 k3 | (subst hx hy; exact hJn _ _ _ _ k0 k1 k2 k3)
                    · by_cases n3 : (i : Int) = 3
                      · have hxm : (b.getD (Int.toNat 3) (.i 0)).int = x := by rw [show Int.toNat 3 = i by omega]; exact hx'
                        have hym : (a.getD (Int.toNat 3) (.i 0)).int = y := by rw [show Int.toNat 3 = i by omega]; exact hy'
                        have hnm : ¬ (3 : Int) = m := by omega
                        have hc : clsN (m : Int) i = 2 := by unfold clsN; rw [if_neg nm]; rw [if_neg (by omega), if_pos (by omega)]
                        rw [hc] at hst
                        have k0 := hst 0
                        have k1 := hst 1
                        have k2 := hst 2
                        have k3 := hst 3
                        rw [if_neg (by decide)] at k0
                        rw [if_neg (by decide)] at k1
                        rw [if_pos rfl] at k2
                        rw [if_neg (by decide)] at k3
                        rw [Int.add_zero] at k0 k1 k3
                        have hwk : IntKind.i64.wrap (sumC b a m 2 i + riseI x y) = sumC b a m 2 i + riseI x y := wi64_in (by omega) (by omega)
                        rw [← hwk] at k2
                        clear hst
                        repeat' (first | (with_reducible first | refine st_seq (fun K' hn he hr => ?_) | refine st_block (fun K' hn he hr => ?_) | refine st_region ?_ | refine st_draw ?_ | refine st_cond ?_ | refine st_loop ?_ | refine st_op (fun G gn => ?_) | refine st_gop ?_ | refine st_dop (fun G gn => ?_) | refine st_gdop ?_ | refine st_tl ?_) | ((conv => whnf); first | (with_reducible first | (refine gn _ _ ?_; clear gn G) | (refine gn _ _ _ _ ?_; clear gn G) | refine Wr.mk ?_ | (refine hn _ _ ?_; clear hn he hr K') | (refine he _ _ _ ?_; clear hn he hr K') | (refine hr _ _ ?_; clear hn he hr K') | refine Bo.yes (by decide) ?_ | refine Bo.no (by decide) ?_ | refine Nd.mk trivial ?_ | refine Nd.mk (by decide) ?_ | refine Nd.mk ?_ ?_ | refine Leaf.mk rfl ?_ | refine Fin.mk ?_ rfl | refine Fin.mk ?_ ?_) | ((with_reducible refine Eqn.mk (fun hq => ?_) ?_) <;> try contradiction) | ((with_reducible refine Bo.gen (fun c hb => ?_)) <;> (try simp only [Nat.reduceAdd, Int.reduceToNat, toD, toDs, bl0] at hb) <;> (try simp only [↓reduceIte, reduceCtorEq, Int.reduceEq, Int.reduceLT, Int.reduceLE, eqA, eqAs, cmpI, bl1, toD, toDs, bl0, Int.toNat_natCast, hlt', hx', hy', hr3, nm, n1, n2, n3, hxm, hym, hnm] at hb) <;> first | (obtain rfl : c = true := hb) | (obtain rfl : c = false := hb) | skip) | ((with_reducible refine Br.cs (fun hq => ?_) (fun hq => ?_)) <;> (try simp only [↓reduceIte, reduceCtorEq, Int.reduceEq, Int.reduceLT, Int.reduceLE, eqA, eqAs, cmpI, bl1, toD, toDs, bl0, Int.toNat_natCast, hlt', hx', hy', hr3, nm, n1, n2, n3, hxm, hym, hnm] at hq) <;> first | contradiction | subst hq | skip) | ((with_reducible refine Nx.mk ?_ ?_ ?_ ?_) <;> try rfl)))
                        all_goals first | omega | exact hJn _ _ _ _ k0 k1 k2 k3 | (subst hx hy; exact hJn _ _ _ _ k0 k1 k2 k3)
                      · by_cases n4 : (i : Int) = 4
                        · have hxm : (b.getD (Int.toNat 4) (.i 0)).int = x := by rw [show Int.toNat 4 = i by omega]; exact hx'
                          have hym : (a.getD (Int.toNat 4) (.i 0)).int = y := by rw [show Int.toNat 4 = i by omega]; exact hy'
                          have hnm : ¬ (4 : Int) = m := by omega
                          have hc : clsN (m : Int) i = 2 := by unfold clsN; rw [if_neg nm]; rw [if_neg (by omega), if_pos (by omega)]
                          rw [hc] at hst
                          have k0 := hst 0
                          have k1 := hst 1
                          have k2 := hst 2
                          have k3 := hst 3
                          rw [if_neg (by decide)] at k0
                          rw [if_neg (by decide)] at k1
                          rw [if_pos rfl] at k2
                          rw [if_neg (by decide)] at k3
                          rw [Int.add_zero] at k0 k1 k3
                          have hwk : IntKind.i64.wrap (sumC b a m 2 i + riseI x y) = sumC b a m 2 i + riseI x y := wi64_in (by omega) (by omega)
                          rw [← hwk] at k2
                          clear hst
                          repeat' (first | (with_reducible first | refine st_seq (fun K' hn he hr => ?_) | refine st_block (fun K' hn he hr => ?_) | refine st_region ?_ | refine st_draw ?_ | refine st_cond ?_ | refine st_loop ?_ | refine st_op (fun G gn => ?_) | refine st_gop ?_ | refine st_dop (fun G gn => ?_) | refine st_gdop ?_ | refine st_tl ?_) | ((conv => whnf); first | (with_reducible first | (refine gn _ _ ?_; clear gn G) | (refine gn _ _ _ _ ?_; clear gn G) | refine Wr.mk ?_ | (refine hn _ _ ?_; clear hn he hr K') | (refine he _ _ _ ?_; clear hn he hr K') | (refine hr _ _ ?_; clear hn he hr K') | refine Bo.yes (by decide) ?_ | refine Bo.no (by decide) ?_ | refine Nd.mk trivial ?_ | refine Nd.mk (by decide) ?_ | refine Nd.mk ?_ ?_ | refine Leaf.mk rfl ?_ | refine Fin.mk ?_ rfl | refine Fin.mk ?_ ?_) | ((with_reducible refine Eqn.mk (fun hq => ?_) ?_) <;> try contradiction) | ((with_reducible refine Bo.gen (fun c hb => ?_)) <;> (try simp only [Nat.reduceAdd, Int.reduceToNat, toD, toDs, bl0] at hb) <;> (try simp only [↓reduceIte, reduceCtorEq, Int.reduceEq, Int.reduceLT, Int.reduceLE, eqA, eqAs, cmpI, bl1, toD, toDs, bl0, Int.toNat_natCast, hlt', hx', hy', hr3, nm, n1, n2, n3, n4, hxm, hym, hnm] at hb) <;> first | (obtain rfl : c = true := hb) | (obtain rfl : c = false := hb) | skip) | ((with_reducible refine Br.cs (fun hq => ?_) (fun hq => ?_)) <;> (try simp only [↓reduceIte, reduceCtorEq, Int.reduceEq, Int.reduceLT, Int.reduceLE, eqA, eqAs, cmpI, bl1, toD, toDs, bl0, Int.toNat_natCast, hlt', hx', hy', hr3, nm, n1, n2, n3, n4, hxm, hym, hnm] at hq) <;> first | contradiction | subst hq | skip) | ((with_reducible refine Nx.mk ?_ ?_ ?_ ?_) <;> try rfl)))
                          all_goals first | omega | exact hJn _ _ _ _ k0 k1 k2 k3 | (subst hx hy; exact hJn _ _ _ _ k0 k1 k2 k3)
                        · by_cases n12 : (i : Int) = 12
                          · have hxm : (b.getD (Int.toNat 12) (.i 0)).int = x := by rw [show Int.toNat 12 = i by omega]; exact hx'
                            have hym : (a.getD (Int.toNat 12) (.i 0)).int = y := by rw [show Int.toNat 12 = i by omega]; exact hy'
                            have hnm : ¬ (12 : Int) = m := by omega
                            have hc : clsN (m : Int) i = 2 := by unfold clsN; rw [if_neg nm]; rw [if_neg (by omega), if_pos (by omega)]
                            rw [hc] at hst
                            have k0 := hst 0
                            have k1 := hst 1
                            have k2 := hst 2
                            have k3 := hst 3
                            rw [if_neg (by decide)] at k0
                            rw [if_neg (by decide)] at k1
                            rw [if_pos rfl] at k2
                            rw [if_neg (by decide)] at k3
                            rw [Int.add_zero] at k0 k1 k3
                            have hwk : IntKind.i64.wrap (sumC b a m 2 i + riseI x y) = sumC b a m 2 i + riseI x y := wi64_in (by omega) (by omega)
                            rw [← hwk] at k2
                            clear hst
                            repeat' (first | (with_reducible first | refine st_seq (fun K' hn he hr => ?_) | refine st_block (fun K' hn he hr => ?_) | refine st_region ?_ | refine st_draw ?_ | refine st_cond ?_ | refine st_loop ?_ | refine st_op (fun G gn => ?_) | refine st_gop ?_ | refine st_dop (fun G gn => ?_) | refine st_gdop ?_ | refine st_tl ?_) | ((conv => whnf); first | (with_reducible first | (refine gn _ _ ?_; clear gn G) | (refine gn _ _ _ _ ?_; clear gn G) | refine Wr.mk ?_ | (refine hn _ _ ?_; clear hn he hr K') | (refine he _ _ _ ?_; clear hn he hr K') | (refine hr _ _ ?_; clear hn he hr K') | refine Bo.yes (by decide) ?_ | refine Bo.no (by decide) ?_ | refine Nd.mk trivial ?_ | refine Nd.mk (by decide) ?_ | refine Nd.mk ?_ ?_ | refine Leaf.mk rfl ?_ | refine Fin.mk ?_ rfl | refine Fin.mk ?_ ?_) | ((with_reducible refine Eqn.mk (fun hq => ?_) ?_) <;> try contradiction) | ((with_reducible refine Bo.gen (fun c hb => ?_)) <;> (try simp only [Nat.reduceAdd, Int.reduceToNat, toD, toDs, bl0] at hb) <;> (try simp only [↓reduceIte, reduceCtorEq, Int.reduceEq, Int.reduceLT, Int.reduceLE, eqA, eqAs, cmpI, bl1, toD, toDs, bl0, Int.toNat_natCast, hlt', hx', hy', hr3, nm, n1, n2, n3, n4, n12, hxm, hym, hnm] at hb) <;> first | (obtain rfl : c = true := hb) | (obtain rfl : c = false := hb) | skip) | ((with_reducible refine Br.cs (fun hq => ?_) (fun hq => ?_)) <;> (try simp only [↓reduceIte, reduceCtorEq, Int.reduceEq, Int.reduceLT, Int.reduceLE, eqA, eqAs, cmpI, bl1, toD, toDs, bl0, Int.toNat_natCast, hlt', hx', hy', hr3, nm, n1, n2, n3, n4, n12, hxm, hym, hnm] at hq) <;> first | contradiction | subst hq | skip) | ((with_reducible refine Nx.mk ?_ ?_ ?_ ?_) <;> try rfl)))
                            all_goals first | omega | exact hJn _ _ _ _ k0 k1 k2 k3 | (subst hx hy; exact hJn _ _ _ _ k0 k1 k2 k3)
                          · have hc : clsN (m : Int) i = 3 := by unfold clsN; rw [if_neg nm, if_neg (by omega), if_neg (by omega)]
                            rw [hc] at hst
                            have k0 := hst 0
                            have k1 := hst 1
                            have k2 := hst 2
                            have k3 := hst 3
                            rw [if_neg (by decide)] at k0
                            rw [if_neg (by decide)] at k1
                            rw [if_neg (by decide)] at k2
                            rw [if_pos rfl] at k3
                            rw [Int.add_zero] at k0 k1 k2
                            have hwk : IntKind.i64.wrap (sumC b a m 3 i + riseI x y) = sumC b a m 3 i + riseI x y := wi64_in (by omega) (by omega)
                            rw [← hwk] at k3
                            clear hst
                            repeat' (first | (with_reducible first | refine st_seq (fun K' hn he hr => ?_) | refine st_block (fun K' hn he hr => ?_) | refine st_region ?_ | refine st_draw ?_ | refine st_cond ?_ | refine st_loop ?_ | refine st_op (fun G gn => ?_) | refine st_gop ?_ | refine st_dop (fun G gn => ?_) | refine st_gdop ?_ | refine st_tl ?_) | ((conv => whnf); first | (with_reducible first | (refine gn _ _ ?_; clear gn G) | (refine gn _ _ _ _ ?_; clear gn G) | refine Wr.mk ?_ | (refine hn _ _ ?_; clear hn he hr K') | (refine he _ _ _ ?_; clear hn he hr K') | (refine hr _ _ ?_; clear hn he hr K') | refine Bo.yes (by decide) ?_ | refine Bo.no (by decide) ?_ | refine Nd.mk trivial ?_ | refine Nd.mk (by decide) ?_ | refine Nd.mk ?_ ?_ | refine Leaf.mk rfl ?_ | refine Fin.mk ?_ rfl | refine Fin.mk ?_ ?_) | ((with_reducible refine Eqn.mk (fun hq => ?_) ?_) <;> try contradiction) | ((with_reducible refine Bo.gen (fun c hb => ?_)) <;> (try simp only [Nat.reduceAdd, Int.reduceToNat, toD, toDs, bl0] at hb) <;> (try simp only [↓reduceIte, reduceCtorEq, Int.reduceEq, Int.reduceLT, Int.reduceLE, eqA, eqAs, cmpI, bl1, toD, toDs, bl0, Int.toNat_natCast, hlt', hx', hy', hr3, nm, n1, n2, n3, n4, n12] at hb) <;> first | (obtain rfl : c = true := hb) | (obtain rfl : c = false := hb) | skip) | ((with_reducible refine Br.cs (fun hq => ?_) (fun hq => ?_)) <;> (try simp only [↓reduceIte, reduceCtorEq, Int.reduceEq, Int.reduceLT, Int.reduceLE, eqA, eqAs, cmpI, bl1, toD, toDs, bl0, Int.toNat_natCast, hlt', hx', hy', hr3, nm, n1, n2, n3, n4, n12] at hq) <;> first | contradiction | subst hq | skip) | ((with_reducible refine Nx.mk ?_ ?_ ?_ ?_) <;> try rfl)))
                            all_goals first | omega | exact hJn _ _ _ _ k0 k1 k2 k3 | (subst hx hy; exact hJn _ _ _ _ k0 k1 k2 k3)
            · have hlt' : ¬ (i : Int) < 15 := by omega
              have hi15 : i = 15 := by omega
              have hff : fallB b a = false := fall_f fun j hj => hi.2 j (by omega)
              have B1 := sum_b b a m 1 i hi.2
              have B2 := sum_b b a m 2 i hi.2
              have B3 := sum_b b a m 3 i hi.2
              rw [← hi15] at hct hs0
              rw [hs0]
              obtain ⟨t, ht⟩ : ∃ t, riseI (gI b m) (gI a m) = t := ⟨_, rfl⟩
              obtain ⟨o, ho⟩ : ∃ o, sumC b a m 1 i = o := ⟨_, rfl⟩
              obtain ⟨c, hc⟩ : ∃ c, sumC b a m 2 i = c := ⟨_, rfl⟩
              obtain ⟨r, hrr⟩ : ∃ r, sumC b a m 3 i = r := ⟨_, rfl⟩
              obtain ⟨hT, hF⟩ := hct hff ht ho hc hrr
              rw [ht, ho, hc, hrr]
              rw [ho] at B1
              rw [hc] at B2
              rw [hrr] at B3
              repeat' (first | (with_reducible first | refine st_seq (fun K' hn he hr => ?_) | refine st_block (fun K' hn he hr => ?_) | refine st_region ?_ | refine st_draw ?_ | refine st_cond ?_ | refine st_loop ?_ | refine st_op (fun G gn => ?_) | refine st_gop ?_ | refine st_dop (fun G gn => ?_) | refine st_gdop ?_ | refine st_tl ?_) | ((conv => whnf); first | (with_reducible first | (refine gn _ _ ?_; clear gn G) | (refine gn _ _ _ _ ?_; clear gn G) | refine Wr.mk ?_ | (refine hn _ _ ?_; clear hn he hr K') | (refine he _ _ _ ?_; clear hn he hr K') | (refine hr _ _ ?_; clear hn he hr K') | refine Bo.yes (by decide) ?_ | refine Bo.no (by decide) ?_ | refine Nd.mk trivial ?_ | refine Nd.mk (by decide) ?_ | refine Nd.mk ?_ ?_ | refine Leaf.mk rfl ?_ | refine Fin.mk ?_ rfl | refine Fin.mk ?_ ?_) | ((with_reducible refine Eqn.mk (fun hq => ?_) ?_) <;> try contradiction) | ((with_reducible refine Bo.gen (fun c hb => ?_)) <;> (try simp only [Nat.reduceAdd, Int.reduceToNat, toD, toDs, bl0] at hb) <;> (try simp only [↓reduceIte, reduceCtorEq, Int.reduceEq, Int.reduceLT, Int.reduceLE, eqA, eqAs, cmpI, bl1, toD, toDs, bl0, hlt'] at hb) <;> first | (obtain rfl : c = true := hb) | (obtain rfl : c = false := hb) | skip) | ((with_reducible refine Br.cs (fun hq => ?_) (fun hq => ?_)) <;> (try simp only [↓reduceIte, reduceCtorEq, Int.reduceEq, Int.reduceLT, Int.reduceLE, eqA, eqAs, cmpI, bl1, toD, toDs, bl0, hlt'] at hq) <;> first | contradiction | subst hq | skip) | ((with_reducible refine Nx.mk ?_ ?_ ?_ ?_) <;> try rfl)))
              refine he0 _ _ _ ?_
              clear he0 hn0 hr0 hJ
              repeat' (first | (with_reducible first | refine st_seq (fun K' hn he hr => ?_) | refine st_block (fun K' hn he hr => ?_) | refine st_region ?_ | refine st_draw ?_ | refine st_cond ?_ | refine st_loop ?_ | refine st_op (fun G gn => ?_) | refine st_gop ?_ | refine st_dop (fun G gn => ?_) | refine st_gdop ?_ | refine st_tl ?_) | ((conv => whnf); first | (with_reducible first | (refine gn _ _ ?_; clear gn G) | (refine gn _ _ _ _ ?_; clear gn G) | refine Wr.mk ?_ | (refine hn _ _ ?_; clear hn he hr K') | (refine he _ _ _ ?_; clear hn he hr K') | (refine hr _ _ ?_; clear hn he hr K') | refine Bo.yes (by decide) ?_ | refine Bo.no (by decide) ?_ | refine Nd.mk trivial ?_ | refine Nd.mk (by decide) ?_ | refine Nd.mk ?_ ?_ | refine Leaf.mk rfl ?_ | refine Fin.mk ?_ rfl | refine Fin.mk ?_ ?_) | ((with_reducible refine Eqn.mk (fun hq => ?_) ?_) <;> try contradiction) | ((with_reducible refine Bo.gen (fun c hb => ?_)) <;> (try simp only [Nat.reduceAdd, Int.reduceToNat, toD, toDs, bl0] at hb) <;> (try simp only [↓reduceIte, reduceCtorEq, Int.reduceEq, Int.reduceLT, Int.reduceLE, eqA, eqAs, cmpI, bl1, toD, toDs, bl0, gt_iff_lt] at hb) <;> first | (obtain rfl : c = true := hb) | (obtain rfl : c = false := hb) | skip) | ((with_reducible refine Br.cs (fun hq => ?_) (fun hq => ?_)) <;> (try simp only [↓reduceIte, reduceCtorEq, Int.reduceEq, Int.reduceLT, Int.reduceLE, eqA, eqAs, cmpI, bl1, toD, toDs, bl0, gt_iff_lt] at hq) <;> first | contradiction | subst hq | skip) | ((with_reducible refine Nx.mk ?_ ?_ ?_ ?_) <;> try rfl)))
              all_goals (try subst_vars)
              all_goals (try simp only [cfd, ctd, cf_not, ct_not, dtd, dfd] at *)
              all_goals first | (exfalso; omega) | (rw [hT (by unfold cntP; omega)]) | (rw [hF (by unfold cntP; omega)])
        · have e := arg_f (b := b) (a := a) (w := w) fun h => h3 h.2.2
          have h3a : ¬ w = 1 := fun h => h3 (.inl h)
          have h3b : ¬ w = 2 := fun h => h3 (.inr h)
          clear hok
          repeat' (first | (with_reducible first | refine st_seq (fun K' hn he hr => ?_) | refine st_block (fun K' hn he hr => ?_) | refine st_region ?_ | refine st_draw ?_ | refine st_cond ?_ | refine st_loop ?_ | refine st_op (fun G gn => ?_) | refine st_gop ?_ | refine st_dop (fun G gn => ?_) | refine st_gdop ?_ | refine st_tl ?_) | ((conv => whnf); first | (with_reducible first | (refine gn _ _ ?_; clear gn G) | (refine gn _ _ _ _ ?_; clear gn G) | refine Wr.mk ?_ | (refine hn _ _ ?_; clear hn he hr K') | (refine he _ _ _ ?_; clear hn he hr K') | (refine hr _ _ ?_; clear hn he hr K') | refine Bo.yes (by decide) ?_ | refine Bo.no (by decide) ?_ | refine Nd.mk trivial ?_ | refine Nd.mk (by decide) ?_ | refine Nd.mk ?_ ?_ | refine Leaf.mk rfl ?_ | refine Fin.mk ?_ rfl | refine Fin.mk ?_ ?_) | ((with_reducible refine Eqn.mk (fun hq => ?_) ?_) <;> try contradiction) | ((with_reducible refine Bo.gen (fun c hb => ?_)) <;> (try simp only [Nat.reduceAdd, Int.reduceToNat, toD, toDs, bl0] at hb) <;> (try simp only [↓reduceIte, reduceCtorEq, Int.reduceEq, Int.reduceLT, Int.reduceLE, eqA, eqAs, cmpI, bl1, toD, toDs, bl0, h1', h2', h3a, h3b] at hb) <;> first | (obtain rfl : c = true := hb) | (obtain rfl : c = false := hb) | skip) | ((with_reducible refine Br.cs (fun hq => ?_) (fun hq => ?_)) <;> (try simp only [↓reduceIte, reduceCtorEq, Int.reduceEq, Int.reduceLT, Int.reduceLE, eqA, eqAs, cmpI, bl1, toD, toDs, bl0, h1', h2', h3a, h3b] at hq) <;> first | contradiction | subst hq | skip) | ((with_reducible refine Nx.mk ?_ ?_ ?_ ?_) <;> try rfl)))
          all_goals (rw [e])
      · have e := arg_f (b := b) (a := a) (w := w) fun h => h2 h.2.1
        have h1' : (b.length : Int) = 15 := by omega
        have h2' : ¬ (a.length : Int) = 15 := by omega
        clear hok
        repeat' (first | (with_reducible first | refine st_seq (fun K' hn he hr => ?_) | refine st_block (fun K' hn he hr => ?_) | refine st_region ?_ | refine st_draw ?_ | refine st_cond ?_ | refine st_loop ?_ | refine st_op (fun G gn => ?_) | refine st_gop ?_ | refine st_dop (fun G gn => ?_) | refine st_gdop ?_ | refine st_tl ?_) | ((conv => whnf); first | (with_reducible first | (refine gn _ _ ?_; clear gn G) | (refine gn _ _ _ _ ?_; clear gn G) | refine Wr.mk ?_ | (refine hn _ _ ?_; clear hn he hr K') | (refine he _ _ _ ?_; clear hn he hr K') | (refine hr _ _ ?_; clear hn he hr K') | refine Bo.yes (by decide) ?_ | refine Bo.no (by decide) ?_ | refine Nd.mk trivial ?_ | refine Nd.mk (by decide) ?_ | refine Nd.mk ?_ ?_ | refine Leaf.mk rfl ?_ | refine Fin.mk ?_ rfl | refine Fin.mk ?_ ?_) | ((with_reducible refine Eqn.mk (fun hq => ?_) ?_) <;> try contradiction) | ((with_reducible refine Bo.gen (fun c hb => ?_)) <;> (try simp only [Nat.reduceAdd, Int.reduceToNat, toD, toDs, bl0] at hb) <;> (try simp only [↓reduceIte, reduceCtorEq, Int.reduceEq, Int.reduceLT, Int.reduceLE, eqA, eqAs, cmpI, bl1, toD, toDs, bl0, h1', h2'] at hb) <;> first | (obtain rfl : c = true := hb) | (obtain rfl : c = false := hb) | skip) | ((with_reducible refine Br.cs (fun hq => ?_) (fun hq => ?_)) <;> (try simp only [↓reduceIte, reduceCtorEq, Int.reduceEq, Int.reduceLT, Int.reduceLE, eqA, eqAs, cmpI, bl1, toD, toDs, bl0, h1', h2'] at hq) <;> first | contradiction | subst hq | skip) | ((with_reducible refine Nx.mk ?_ ?_ ?_ ?_) <;> try rfl)))
        all_goals (rw [e])
    · have e := arg_f (b := b) (a := a) (w := w) fun h => h1 h.1
      have h1' : ¬ (b.length : Int) = 15 := by omega
      clear hok
      repeat' (first | (with_reducible first | refine st_seq (fun K' hn he hr => ?_) | refine st_block (fun K' hn he hr => ?_) | refine st_region ?_ | refine st_draw ?_ | refine st_cond ?_ | refine st_loop ?_ | refine st_op (fun G gn => ?_) | refine st_gop ?_ | refine st_dop (fun G gn => ?_) | refine st_gdop ?_ | refine st_tl ?_) | ((conv => whnf); first | (with_reducible first | (refine gn _ _ ?_; clear gn G) | (refine gn _ _ _ _ ?_; clear gn G) | refine Wr.mk ?_ | (refine hn _ _ ?_; clear hn he hr K') | (refine he _ _ _ ?_; clear hn he hr K') | (refine hr _ _ ?_; clear hn he hr K') | refine Bo.yes (by decide) ?_ | refine Bo.no (by decide) ?_ | refine Nd.mk trivial ?_ | refine Nd.mk (by decide) ?_ | refine Nd.mk ?_ ?_ | refine Leaf.mk rfl ?_ | refine Fin.mk ?_ rfl | refine Fin.mk ?_ ?_) | ((with_reducible refine Eqn.mk (fun hq => ?_) ?_) <;> try contradiction) | ((with_reducible refine Bo.gen (fun c hb => ?_)) <;> (try simp only [Nat.reduceAdd, Int.reduceToNat, toD, toDs, bl0] at hb) <;> (try simp only [↓reduceIte, reduceCtorEq, Int.reduceEq, Int.reduceLT, Int.reduceLE, eqA, eqAs, cmpI, bl1, toD, toDs, bl0, h1'] at hb) <;> first | (obtain rfl : c = true := hb) | (obtain rfl : c = false := hb) | skip) | ((with_reducible refine Br.cs (fun hq => ?_) (fun hq => ?_)) <;> (try simp only [↓reduceIte, reduceCtorEq, Int.reduceEq, Int.reduceLT, Int.reduceLE, eqA, eqAs, cmpI, bl1, toD, toDs, bl0, h1'] at hq) <;> first | contradiction | subst hq | skip) | ((with_reducible refine Nx.mk ?_ ?_ ?_ ?_) <;> try rfl)))
      all_goals (rw [e])
  · trivial
end Go.Vc.Seat
