/- A part of the proof of the seat's laws: AuPf8. It states no claim by itself. -/
import Derived.Test.YtiddoflcajgjjaaAuPf5
set_option linter.unusedVariables false
set_option linter.unusedSimpArgs false
namespace Go.Vc.Seat
open Go.Vc Go.Proofs.Try

/-- The copies of those of the first so many that are wanted. -/
def rcD (P : D → Bool) (s : List D) (i : Nat) : List D := ((s.take i).filter P).map siteC
theorem rc_step (P : D → Bool) (s : List D) {i : Nat} (h : i < s.length) : rcD P s (i + 1) = rcD P s i ++ (if P (s.getD i (.i 0)) = true then [siteC (s.getD i (.i 0))] else []) := by
  unfold rcD
  rw [List.take_succ_eq_append_getElem h, List.filter_append, List.map_append, List.getD_eq_getElem?_getD, List.getElem?_eq_getElem h]
  show _ ++ List.map siteC (List.filter P [s[i]]) = _ ++ (if P s[i] = true then [siteC s[i]] else [])
  cases hp : P s[i] <;> simp [hp]
theorem rc_len (P : D → Bool) (s : List D) (i : Nat) : (rcD P s i).length ≤ s.length := by
  unfold rcD
  rw [List.length_map]
  refine Nat.le_trans (List.length_filter_le _ _) ?_
  rw [List.length_take]
  omega
def anyN (p : D → Bool) (l : List D) : Nat → Bool
  | 0 => false
  | k + 1 => anyN p l k || p (l.getD k (.i 0))
theorem any_f {p : D → Bool} {l : List D} : ∀ n, anyN p l n = false → ∀ j, j < n → p (l.getD j (.i 0)) = false
  | 0, _ => fun j hj => absurd hj (Nat.not_lt_zero _)
  | n + 1, h => by
    unfold anyN at h
    rw [Bool.or_eq_false_iff] at h
    exact less_step (any_f n h.1) h.2
theorem any_t {p : D → Bool} {l : List D} : ∀ n, anyN p l n = true → ∃ j, j < n ∧ p (l.getD j (.i 0)) = true
  | 0, h => by cases h
  | n + 1, h => by
    unfold anyN at h
    rw [Bool.or_eq_true] at h
    rcases h with h | h
    · obtain ⟨j, hj, hp⟩ := any_t n h
      exact ⟨j, by omega, hp⟩
    · exact ⟨n, by omega, h⟩
theorem any_has (p : D → Bool) (l : List D) : anyN p l l.length = hasN p l := by
  unfold hasN
  cases h : anyN p l l.length
  · rw [fstN_f (any_f _ h)]
    rfl
  · obtain ⟨j, hj, hp⟩ := any_t _ h
    have : l.findIdx p < l.length := List.findIdx_lt_length.2 ⟨l[j], List.getElem_mem hj, by rw [List.getD_eq_getElem?_getD, List.getElem?_eq_getElem hj] at hp; exact hp⟩
    unfold fstN
    rw [if_pos this]
    exact (decide_eq_true (by omega)).symm
set_option maxRecDepth 20000 in
set_option maxHeartbeats 8000000 in
theorem pok_audit_Reached : POK prog orc f_audit_Reached := by
  refine pok_of ok_audit_Reached mixed (by simp [ac_audit_Reached, acP, callsP]) (by simp [ac_audit_Reached, acS, callsS, sok_slices_ContainsFunc_api_Seen_api_Seen]) fun args hok => ?_
  show Fits orc nt_audit_Reached rs_audit_Reached ac_audit_Reached args (pReached args)
  unfold ac_audit_Reached
  unfold pReached
  split
  · rename_i s xa xb xp xs seen
    simp only [okAs, okA, maxLen] at hok
    have hl1 := hok.1.1
    have hl2 := hok.2.2.1.1
    clear hok
    intro hc
    obtain ⟨hs1, hc1, hc2⟩ := hc
    refine ⟨rfl, ?_⟩
    obtain ⟨X, hX⟩ : ∃ X, seenD xa xb xp xs = X := ⟨_, rfl⟩
    rw [hX]
    obtain ⟨P, hP⟩ : ∃ P : D → Bool, (fun d => hasN (comesB s X (siteC d)) seen) = P := ⟨_, rfl⟩
    have hrd : reachD s X seen = rcD P s s.length := by
      rw [← hP]
      unfold rcD reachD
      rw [List.take_length]
    rw [hrd]
    repeat' (first | (with_reducible first | refine st_seq (fun K' hn he hr => ?_) | refine st_block (fun K' hn he hr => ?_) | refine st_region ?_ | refine st_draw ?_ | refine st_cond ?_ | refine st_loop ?_ | refine st_op (fun G gn => ?_) | refine st_gop ?_ | refine st_dop (fun G gn => ?_) | refine st_gdop ?_ | refine st_tl ?_) | ((conv => whnf); first | (with_reducible first | (refine gn _ _ ?_; clear gn G) | (refine gn _ _ _ _ ?_; clear gn G) | refine Wr.mk ?_ | (refine hn _ _ ?_; clear hn he hr K') | (refine he _ _ _ ?_; clear hn he hr K') | (refine hr _ _ ?_; clear hn he hr K') | refine Bo.yes (by decide) ?_ | refine Bo.no (by decide) ?_ | refine Nd.mk trivial ?_ | refine Nd.mk (by decide) ?_ | refine Nd.mk ?_ ?_ | refine Leaf.mk rfl ?_ | refine Fin.mk ?_ rfl | refine Fin.mk ?_ ?_) | ((with_reducible refine Eqn.mk (fun hq => ?_) ?_) <;> try contradiction) | ((with_reducible refine Bo.gen (fun c hb => ?_)) <;> (try simp only [Nat.reduceAdd, Int.reduceToNat, toD, toDs, bl0] at hb) <;> (try simp only [↓reduceIte, reduceCtorEq, Int.reduceEq, Int.reduceLT, Int.reduceLE, eqA, eqAs, cmpI, bl1, toD, toDs, bl0] at hb) <;> first | (obtain rfl : c = true := hb) | (obtain rfl : c = false := hb) | skip) | ((with_reducible refine Br.cs (fun hq => ?_) (fun hq => ?_)) <;> (try simp only [↓reduceIte, reduceCtorEq, Int.reduceEq, Int.reduceLT, Int.reduceLE, eqA, eqAs, cmpI, bl1, toD, toDs, bl0] at hq) <;> first | contradiction | subst hq | skip) | ((with_reducible refine Nx.mk ?_ ?_ ?_ ?_) <;> try rfl)))
    have hn0 := hn
    have he0 := he
    have hr0 := hr
    clear hn he hr
    refine loop_of (fun i : Nat => [(2, .sl TySeen seen .no), (3, .ptr 0 [] (.sl TySite)), (4, .ptr 1 [] TySeen), (7, .sl TySite (rcD P s i) (.own 2)), (10, .sl TySite s .no), (11, .int .i64 s.length), (12, .int .i64 i)]) (fun i => [.var (.sl TySite) (.sl TySite s .no) false, .var TySeen (.st [.int .i64 xa, .int .i64 xb, .int .i64 xp, .sl (.int .u8) xs .no]) false, .ext TySite (rcD P s i).length]) (fun i => i ≤ s.length) (fun i => s.length - i) 0 rfl rfl (Nat.zero_le _) (fun _ _ => rfl) ?_
    intro i hi J hJ K' hn he hr
    by_cases hlt : i < s.length
    · have hlt' : (i : Int) < s.length := by omega
      have hw : IntKind.i64.wrap ((i : Int) + 1) = ((i + 1 : Nat) : Int) := wi64_in (by omega) (by omega)
      have hjj := hJ (i + 1) (by omega) (by omega)
      have hst := rc_step P s hlt
      have hrl := rc_len P s i
      have hPd : P (s.getD i (.i 0)) = hasN (comesB s X (siteC (s.getD i (.i 0)))) seen := by rw [← hP]
      rw [hst] at hjj
      clear hJ
      obtain ⟨d, hd⟩ : ∃ d, s.getD i (.i 0) = d := ⟨_, rfl⟩
      rw [hd] at hjj hPd
      have hsd : siteC d = siteD (d.fld 0).int ((d.fld 1).fld 0).int ((d.fld 1).fld 1).int ((d.fld 1).fld 2).int := rfl
      cases hp : P d
      · rw [hp] at hjj hPd
        rw [if_neg (by decide), List.append_nil] at hjj
        have hh : hasN (comesB s (seenD xa xb xp xs) (siteD (d.fld 0).int ((d.fld 1).fld 0).int ((d.fld 1).fld 1).int ((d.fld 1).fld 2).int)) seen = false := by rw [hX, ← hsd]; exact hPd.symm
        have hj : ∀ e0 h0, e0 = [(2, .sl TySeen seen .no), (3, .ptr 0 [] (.sl TySite)), (4, .ptr 1 [] TySeen), (7, .sl TySite (rcD P s i) (.own 2)), (10, .sl TySite s .no), (11, .int .i64 s.length), (12, .int .i64 (IntKind.i64.wrap ((i : Int) + 1)))] → h0 = [.var (.sl TySite) (.sl TySite s .no) false, .var TySeen (.st [.int .i64 xa, .int .i64 xb, .int .i64 xp, .sl (.int .u8) xs .no]) false, .ext TySite (rcD P s i).length] → J e0 h0 := fun e0 h0 he0 hh0 => by
          refine J_of hjj ?_ hh0
          rw [he0, hw]
        clear hjj
        repeat' (first | (with_reducible first | refine st_seq (fun K' hn he hr => ?_) | refine st_block (fun K' hn he hr => ?_) | refine st_region ?_ | refine st_draw ?_ | refine st_cond ?_ | refine st_loop ?_ | refine st_op (fun G gn => ?_) | refine st_gop ?_ | refine st_dop (fun G gn => ?_) | refine st_gdop ?_ | refine st_tl ?_) | ((conv => whnf); first | (with_reducible first | (refine gn _ _ ?_; clear gn G) | (refine gn _ _ _ _ ?_; clear gn G) | refine Wr.mk ?_ | (refine hn _ _ ?_; clear hn he hr K') | (refine he _ _ _ ?_; clear hn he hr K') | (refine hr _ _ ?_; clear hn he hr K') | refine Bo.yes (by decide) ?_ | refine Bo.no (by decide) ?_ | refine Nd.mk trivial ?_ | refine Nd.mk (by decide) ?_ | refine Nd.mk ?_ ?_ | refine Leaf.mk rfl ?_ | refine Fin.mk ?_ rfl | refine Fin.mk ?_ ?_) | ((with_reducible refine Eqn.mk (fun hq => ?_) ?_) <;> try contradiction) | ((with_reducible refine Bo.gen (fun c hb => ?_)) <;> (try simp only [Nat.reduceAdd, Int.reduceToNat, toD, toDs, bl0] at hb) <;> (try simp only [↓reduceIte, reduceCtorEq, Int.reduceEq, Int.reduceLT, Int.reduceLE, eqA, eqAs, cmpI, bl1, toD, toDs, bl0, Int.toNat_natCast, hlt', hd, hh] at hb) <;> first | (obtain rfl : c = true := hb) | (obtain rfl : c = false := hb) | skip) | ((with_reducible refine Br.cs (fun hq => ?_) (fun hq => ?_)) <;> (try simp only [↓reduceIte, reduceCtorEq, Int.reduceEq, Int.reduceLT, Int.reduceLE, eqA, eqAs, cmpI, bl1, toD, toDs, bl0, Int.toNat_natCast, hlt', hd, hh] at hq) <;> first | contradiction | subst hq | skip) | ((with_reducible refine Nx.mk ?_ ?_ ?_ ?_) <;> try rfl)))
        any_goals first | omega | exact ⟨hc1, hc2⟩ | exact hj _ _ rfl rfl
      · rw [hp] at hjj hPd
        rw [if_pos rfl] at hjj
        have hh : hasN (comesB s (seenD xa xb xp xs) (siteD (d.fld 0).int ((d.fld 1).fld 0).int ((d.fld 1).fld 1).int ((d.fld 1).fld 2).int)) seen = true := by rw [hX, ← hsd]; exact hPd.symm
        have hj : ∀ z, z = siteC d → ∀ e0 h0, e0 = [(2, .sl TySeen seen .no), (3, .ptr 0 [] (.sl TySite)), (4, .ptr 1 [] TySeen), (7, .sl TySite (rcD P s i ++ [z]) (.own 2)), (10, .sl TySite s .no), (11, .int .i64 s.length), (12, .int .i64 (IntKind.i64.wrap ((i : Int) + 1)))] → h0 = [.var (.sl TySite) (.sl TySite s .no) false, .var TySeen (.st [.int .i64 xa, .int .i64 xb, .int .i64 xp, .sl (.int .u8) xs .no]) false, .ext TySite ((rcD P s i).length + 1)] → J e0 h0 := fun z hz e0 h0 he0 hh0 => by
          refine J_of hjj ?_ ?_
          · rw [he0, hw, hz]
          · rw [hh0, List.length_append]
            rfl
        clear hjj
        repeat' (first | (with_reducible first | refine st_seq (fun K' hn he hr => ?_) | refine st_block (fun K' hn he hr => ?_) | refine st_region ?_ | refine st_draw ?_ | refine st_cond ?_ | refine st_loop ?_ | refine st_op (fun G gn => ?_) | refine st_gop ?_ | refine st_dop (fun G gn => ?_) | refine st_gdop ?_ | refine st_tl ?_) | ((conv => whnf); first | (with_reducible first | (refine gn _ _ ?_; clear gn G) | (refine gn _ _ _ _ ?_; clear gn G) | refine Wr.mk ?_ | (refine hn _ _ ?_; clear hn he hr K') | (refine he _ _ _ ?_; clear hn he hr K') | (refine hr _ _ ?_; clear hn he hr K') | refine Bo.yes (by decide) ?_ | refine Bo.no (by decide) ?_ | refine Nd.mk trivial ?_ | refine Nd.mk (by decide) ?_ | refine Nd.mk ?_ ?_ | refine Leaf.mk rfl ?_ | refine Fin.mk ?_ rfl | refine Fin.mk ?_ ?_) | ((with_reducible refine Eqn.mk (fun hq => ?_) ?_) <;> try contradiction) | ((with_reducible refine Bo.gen (fun c hb => ?_)) <;> (try simp only [Nat.reduceAdd, Int.reduceToNat, toD, toDs, bl0] at hb) <;> (try simp only [↓reduceIte, reduceCtorEq, Int.reduceEq, Int.reduceLT, Int.reduceLE, eqA, eqAs, cmpI, bl1, toD, toDs, bl0, Int.toNat_natCast, hlt', hd, hh] at hb) <;> first | (obtain rfl : c = true := hb) | (obtain rfl : c = false := hb) | skip) | ((with_reducible refine Br.cs (fun hq => ?_) (fun hq => ?_)) <;> (try simp only [↓reduceIte, reduceCtorEq, Int.reduceEq, Int.reduceLT, Int.reduceLE, eqA, eqAs, cmpI, bl1, toD, toDs, bl0, Int.toNat_natCast, hlt', hd, hh] at hq) <;> first | contradiction | subst hq | skip) | ((with_reducible refine Nx.mk ?_ ?_ ?_ ?_) <;> try rfl)))
        any_goals first | omega | exact ⟨hc1, hc2⟩ | (exact ⟨rfl, by show roomy ((rcD P s i).length + 1) 32; unfold roomy; omega⟩) | (subst hd; exact hj _ rfl _ _ rfl rfl)
    · have hlt' : ¬ (i : Int) < s.length := by omega
      have hil : i = s.length := by omega
      rw [hil]
      repeat' (first | (with_reducible first | refine st_seq (fun K' hn he hr => ?_) | refine st_block (fun K' hn he hr => ?_) | refine st_region ?_ | refine st_draw ?_ | refine st_cond ?_ | refine st_loop ?_ | refine st_op (fun G gn => ?_) | refine st_gop ?_ | refine st_dop (fun G gn => ?_) | refine st_gdop ?_ | refine st_tl ?_) | ((conv => whnf); first | (with_reducible first | (refine gn _ _ ?_; clear gn G) | (refine gn _ _ _ _ ?_; clear gn G) | refine Wr.mk ?_ | (refine hn _ _ ?_; clear hn he hr K') | (refine he _ _ _ ?_; clear hn he hr K') | (refine hr _ _ ?_; clear hn he hr K') | refine Bo.yes (by decide) ?_ | refine Bo.no (by decide) ?_ | refine Nd.mk trivial ?_ | refine Nd.mk (by decide) ?_ | refine Nd.mk ?_ ?_ | refine Leaf.mk rfl ?_ | refine Fin.mk ?_ rfl | refine Fin.mk ?_ ?_) | ((with_reducible refine Eqn.mk (fun hq => ?_) ?_) <;> try contradiction) | ((with_reducible refine Bo.gen (fun c hb => ?_)) <;> (try simp only [Nat.reduceAdd, Int.reduceToNat, toD, toDs, bl0] at hb) <;> (try simp only [↓reduceIte, reduceCtorEq, Int.reduceEq, Int.reduceLT, Int.reduceLE, eqA, eqAs, cmpI, bl1, toD, toDs, bl0, show ¬ ((s.length : Nat) : Int) < (s.length : Nat) by omega] at hb) <;> first | (obtain rfl : c = true := hb) | (obtain rfl : c = false := hb) | skip) | ((with_reducible refine Br.cs (fun hq => ?_) (fun hq => ?_)) <;> (try simp only [↓reduceIte, reduceCtorEq, Int.reduceEq, Int.reduceLT, Int.reduceLE, eqA, eqAs, cmpI, bl1, toD, toDs, bl0, show ¬ ((s.length : Nat) : Int) < (s.length : Nat) by omega] at hq) <;> first | contradiction | subst hq | skip) | ((with_reducible refine Nx.mk ?_ ?_ ?_ ?_) <;> try rfl)))
      refine he0 _ _ _ ?_
      clear he0 hn0 hr0 hJ
      repeat' (first | (with_reducible first | refine st_seq (fun K' hn he hr => ?_) | refine st_block (fun K' hn he hr => ?_) | refine st_region ?_ | refine st_draw ?_ | refine st_cond ?_ | refine st_loop ?_ | refine st_op (fun G gn => ?_) | refine st_gop ?_ | refine st_dop (fun G gn => ?_) | refine st_gdop ?_ | refine st_tl ?_) | ((conv => whnf); first | (with_reducible first | (refine gn _ _ ?_; clear gn G) | (refine gn _ _ _ _ ?_; clear gn G) | refine Wr.mk ?_ | (refine hn _ _ ?_; clear hn he hr K') | (refine he _ _ _ ?_; clear hn he hr K') | (refine hr _ _ ?_; clear hn he hr K') | refine Bo.yes (by decide) ?_ | refine Bo.no (by decide) ?_ | refine Nd.mk trivial ?_ | refine Nd.mk (by decide) ?_ | refine Nd.mk ?_ ?_ | refine Leaf.mk rfl ?_ | refine Fin.mk ?_ rfl | refine Fin.mk ?_ ?_) | ((with_reducible refine Eqn.mk (fun hq => ?_) ?_) <;> try contradiction) | ((with_reducible refine Bo.gen (fun c hb => ?_)) <;> (try simp only [Nat.reduceAdd, Int.reduceToNat, toD, toDs, bl0] at hb) <;> (try simp only [↓reduceIte, reduceCtorEq, Int.reduceEq, Int.reduceLT, Int.reduceLE, eqA, eqAs, cmpI, bl1, toD, toDs, bl0] at hb) <;> first | (obtain rfl : c = true := hb) | (obtain rfl : c = false := hb) | skip) | ((with_reducible refine Br.cs (fun hq => ?_) (fun hq => ?_)) <;> (try simp only [↓reduceIte, reduceCtorEq, Int.reduceEq, Int.reduceLT, Int.reduceLE, eqA, eqAs, cmpI, bl1, toD, toDs, bl0] at hq) <;> first | contradiction | subst hq | skip) | ((with_reducible refine Nx.mk ?_ ?_ ?_ ?_) <;> try rfl)))
      all_goals first | rfl
  · trivial
end Go.Vc.Seat
