/- A part of the proof of the seat's laws: AuPfEth10. It states no claim by itself. -/
import Derived.Test.YtiddoflcajgjjaaAuPfEth9
set_option linter.unusedVariables false
set_option linter.unusedSimpArgs false
namespace Go.Vc.Seat
open Go.Vc Go.Proofs.Try
set_option maxRecDepth 20000 in
set_option maxHeartbeats 8000000 in
theorem pok_r03_Decode : POK prog orc f_r03_Decode := by
  refine pok_of ok_r03_Decode mixed (by simp [ac_r03_Decode, acP, callsP, pok_r03_tagged, pok_r02_Take, pok_r03_Check]) (by simp [ac_r03_Decode, acS, callsS]) fun args hok => ?_
  show Fits orc nt_r03_Decode rs_r03_Decode ac_r03_Decode args (pFrDec2 args)
  unfold ac_r03_Decode
  refine dec2 ?_
  unfold pFrDec
  split
  · rename_i xs
    simp only [okAs, okA, maxLen] at hok
    have r12 : List.take ((xs.length : Int).toNat - Int.toNat 12) (List.drop (Int.toNat 12) xs) = xs.drop 12 := tda 12 xs
    have r14 : List.take ((xs.length : Int).toNat - Int.toNat 14) (List.drop (Int.toNat 14) xs) = xs.drop 14 := tda 14 xs
    have r16 : List.drop (Int.toNat 4) (List.take ((xs.length : Int).toNat - Int.toNat 12) (List.drop (Int.toNat 12) xs)) = xs.drop 16 := by
      rw [r12]
      show List.drop 4 (List.drop 12 xs) = _
      rw [List.drop_drop]
    have r6a : List.take 6 (List.take (Int.toNat 6 - Int.toNat 0) (List.drop (Int.toNat 0) xs)) = xs.take 6 := by
      show List.take 6 (List.take 6 xs) = _
      rw [List.take_take]
      rfl
    have r6b : List.take 6 (List.take (Int.toNat 12 - Int.toNat 6) (List.drop (Int.toNat 6) xs)) = (xs.drop 6).take 6 := by
      show List.take 6 (List.take 6 (xs.drop 6)) = _
      rw [List.take_take]
      rfl
    have q16 : List.take ((xs.length : Int).toNat - Int.toNat 16) (List.drop (Int.toNat 16) xs) = xs.drop 16 := tda 16 xs
    refine ⟨fun h1 => ⟨rfl, ?_⟩, fun h1 => ⟨fun hm => ⟨fun h2 => ⟨rfl, ?_⟩, fun h2 => ⟨fun h3 hc => ⟨rfl, ?_⟩, fun h3 => ⟨fun h4 => ⟨rfl, ?_⟩, fun h4 => ⟨rfl, ?_⟩⟩⟩⟩, fun hm => ⟨fun h3 hc => ⟨rfl, ?_⟩, fun h3 => ⟨fun h4 => ⟨rfl, ?_⟩, fun h4 => ⟨rfl, ?_⟩⟩⟩⟩⟩
    all_goals simp only [Bool.not_eq_true', Bool.not_eq_false', short_iff, short_f] at *
    · have l1 : (xs.length : Int) < 14 := by omega
      repeat' (first | (with_reducible first | refine st_seq (fun K' hn he hr => ?_) | refine st_block (fun K' hn he hr => ?_) | refine st_region ?_ | refine st_draw ?_ | refine st_cond ?_ | refine st_loop ?_ | refine st_op (fun G gn => ?_) | refine st_gop ?_ | refine st_dop (fun G gn => ?_) | refine st_gdop ?_ | refine st_tl ?_) | ((conv => whnf); first | (with_reducible first | (refine gn _ _ ?_; clear gn G) | (refine gn _ _ _ _ ?_; clear gn G) | refine Wr.mk ?_ | (refine hn _ _ ?_; clear hn he hr K') | (refine he _ _ _ ?_; clear hn he hr K') | (refine hr _ _ ?_; clear hn he hr K') | refine Bo.yes (by decide) ?_ | refine Bo.no (by decide) ?_ | refine Nd.mk trivial ?_ | refine Nd.mk (by decide) ?_ | refine Nd.mk ?_ ?_ | refine Leaf.mk rfl ?_ | refine Fin.mk ?_ rfl | refine Fin.mk ?_ ?_) | ((with_reducible refine Eqn.mk (fun hq => ?_) ?_) <;> try contradiction) | ((with_reducible refine Bo.gen (fun c hb => ?_)) <;> (try simp only [Nat.reduceAdd, Int.reduceToNat, toD, toDs, bl0] at hb) <;> (try simp only [↓reduceIte, reduceCtorEq, Int.reduceEq, Int.reduceLT, Int.reduceLE, eqA, eqAs, cmpI, bl1, toD, toDs, bl0, l1] at hb) <;> first | (obtain rfl : c = true := hb) | (obtain rfl : c = false := hb) | skip) | ((with_reducible refine Br.cs (fun hq => ?_) (fun hq => ?_)) <;> (try simp only [↓reduceIte, reduceCtorEq, Int.reduceEq, Int.reduceLT, Int.reduceLE, eqA, eqAs, cmpI, bl1, toD, toDs, bl0, l1] at hq) <;> first | contradiction | subst hq | skip) | ((with_reducible refine Nx.mk ?_ ?_ ?_ ?_) <;> try rfl)))
      all_goals (try rw [r14])
      all_goals (try rw [r16])
      all_goals (try rw [r12])
      all_goals (try rw [r6a])
      all_goals (try rw [r6b])
      all_goals first | rfl | omega | (unfold cutOK; omega) | (simp only [Int.reduceToNat, Nat.reduceSub, List.length_take, List.length_drop, Int.toNat_natCast]; omega) | (simp only [List.length_drop]; done) | (simp only [List.length_nil, Nat.zero_add, List.length_drop]; done) | (exact ⟨.inl rfl, by unfold roomy; simp only [List.length_drop, List.length_nil]; omega⟩) | (rw [List.nil_append]; rfl)
    · have l1 : ¬ (xs.length : Int) < 14 := by omega
      have l2 : (xs.length : Int) < 18 := by omega
      have l3 : ((xs.length - 12 : Nat) : Int) < 6 := by omega
      repeat' (first | (with_reducible first | refine st_seq (fun K' hn he hr => ?_) | refine st_block (fun K' hn he hr => ?_) | refine st_region ?_ | refine st_draw ?_ | refine st_cond ?_ | refine st_loop ?_ | refine st_op (fun G gn => ?_) | refine st_gop ?_ | refine st_dop (fun G gn => ?_) | refine st_gdop ?_ | refine st_tl ?_) | ((conv => whnf); first | (with_reducible first | (refine gn _ _ ?_; clear gn G) | (refine gn _ _ _ _ ?_; clear gn G) | refine Wr.mk ?_ | (refine hn _ _ ?_; clear hn he hr K') | (refine he _ _ _ ?_; clear hn he hr K') | (refine hr _ _ ?_; clear hn he hr K') | refine Bo.yes (by decide) ?_ | refine Bo.no (by decide) ?_ | refine Nd.mk trivial ?_ | refine Nd.mk (by decide) ?_ | refine Nd.mk ?_ ?_ | refine Leaf.mk rfl ?_ | refine Fin.mk ?_ rfl | refine Fin.mk ?_ ?_) | ((with_reducible refine Eqn.mk (fun hq => ?_) ?_) <;> try contradiction) | ((with_reducible refine Bo.gen (fun c hb => ?_)) <;> (try simp only [Nat.reduceAdd, Int.reduceToNat, toD, toDs, bl0] at hb) <;> (try simp only [↓reduceIte, reduceCtorEq, Int.reduceEq, Int.reduceLT, Int.reduceLE, eqA, eqAs, cmpI, bl1, toD, toDs, bl0, l1, l2, l3, hm, y0, y1, y2, List.nil_append, Int.reduceToNat, Int.toNat_natCast, Nat.sub_zero, Nat.reduceSub, List.drop_zero, List.take_take, Nat.min_self, tda, List.drop_drop, Nat.reduceAdd, List.length_drop] at hb) <;> first | (obtain rfl : c = true := hb) | (obtain rfl : c = false := hb) | skip) | ((with_reducible refine Br.cs (fun hq => ?_) (fun hq => ?_)) <;> (try simp only [↓reduceIte, reduceCtorEq, Int.reduceEq, Int.reduceLT, Int.reduceLE, eqA, eqAs, cmpI, bl1, toD, toDs, bl0, l1, l2, l3, hm, y0, y1, y2, List.nil_append, Int.reduceToNat, Int.toNat_natCast, Nat.sub_zero, Nat.reduceSub, List.drop_zero, List.take_take, Nat.min_self, tda, List.drop_drop, Nat.reduceAdd, List.length_drop] at hq) <;> first | contradiction | subst hq | skip) | ((with_reducible refine Nx.mk ?_ ?_ ?_ ?_) <;> try rfl)))
      all_goals (try rw [r14])
      all_goals (try rw [r16])
      all_goals (try rw [r12])
      all_goals (try rw [r6a])
      all_goals (try rw [r6b])
      all_goals first | rfl | omega | (unfold cutOK; omega) | (simp only [Int.reduceToNat, Nat.reduceSub, List.length_take, List.length_drop, Int.toNat_natCast]; omega) | (simp only [List.length_drop]; done) | (simp only [List.length_nil, Nat.zero_add, List.length_drop]; done) | (exact ⟨.inl rfl, by unfold roomy; simp only [List.length_drop, List.length_nil]; omega⟩) | (rw [List.nil_append]; rfl)
    · have l1 : ¬ (xs.length : Int) < 14 := by omega
      have l2 : ¬ (xs.length : Int) < 18 := by omega
      have l3 : ¬ ((xs.length - 12 : Nat) : Int) < 6 := by omega
      have l4 : 1502 < ((xs.length - 16 : Nat) : Int) := by omega
      repeat' (first | (with_reducible first | refine st_seq (fun K' hn he hr => ?_) | refine st_block (fun K' hn he hr => ?_) | refine st_region ?_ | refine st_draw ?_ | refine st_cond ?_ | refine st_loop ?_ | refine st_op (fun G gn => ?_) | refine st_gop ?_ | refine st_dop (fun G gn => ?_) | refine st_gdop ?_ | refine st_tl ?_) | ((conv => whnf); first | (with_reducible first | (refine gn _ _ ?_; clear gn G) | (refine gn _ _ _ _ ?_; clear gn G) | refine Wr.mk ?_ | (refine hn _ _ ?_; clear hn he hr K') | (refine he _ _ _ ?_; clear hn he hr K') | (refine hr _ _ ?_; clear hn he hr K') | refine Bo.yes (by decide) ?_ | refine Bo.no (by decide) ?_ | refine Nd.mk trivial ?_ | refine Nd.mk (by decide) ?_ | refine Nd.mk ?_ ?_ | refine Leaf.mk rfl ?_ | refine Fin.mk ?_ rfl | refine Fin.mk ?_ ?_) | ((with_reducible refine Eqn.mk (fun hq => ?_) ?_) <;> try contradiction) | ((with_reducible refine Bo.gen (fun c hb => ?_)) <;> (try simp only [Nat.reduceAdd, Int.reduceToNat, toD, toDs, bl0] at hb) <;> (try simp only [↓reduceIte, reduceCtorEq, Int.reduceEq, Int.reduceLT, Int.reduceLE, eqA, eqAs, cmpI, bl1, toD, toDs, bl0, l1, l2, l3, l4, hm, y0, y1, y2, List.nil_append, Int.reduceToNat, Int.toNat_natCast, Nat.sub_zero, Nat.reduceSub, List.drop_zero, List.take_take, Nat.min_self, tda, List.drop_drop, Nat.reduceAdd, List.length_drop] at hb) <;> first | (obtain rfl : c = true := hb) | (obtain rfl : c = false := hb) | skip) | ((with_reducible refine Br.cs (fun hq => ?_) (fun hq => ?_)) <;> (try simp only [↓reduceIte, reduceCtorEq, Int.reduceEq, Int.reduceLT, Int.reduceLE, eqA, eqAs, cmpI, bl1, toD, toDs, bl0, l1, l2, l3, l4, hm, y0, y1, y2, List.nil_append, Int.reduceToNat, Int.toNat_natCast, Nat.sub_zero, Nat.reduceSub, List.drop_zero, List.take_take, Nat.min_self, tda, List.drop_drop, Nat.reduceAdd, List.length_drop] at hq) <;> first | contradiction | subst hq | skip) | ((with_reducible refine Nx.mk ?_ ?_ ?_ ?_) <;> try rfl)))
      all_goals (try rw [r14])
      all_goals (try rw [r16])
      all_goals (try rw [r12])
      all_goals (try rw [r6a])
      all_goals (try rw [r6b])
      all_goals first | rfl | omega | (unfold cutOK; omega) | (simp only [Int.reduceToNat, Nat.reduceSub, List.length_take, List.length_drop, Int.toNat_natCast]; omega) | (simp only [List.length_drop]; done) | (simp only [List.length_nil, Nat.zero_add, List.length_drop]; done) | (exact ⟨.inl rfl, by unfold roomy; simp only [List.length_drop, List.length_nil]; omega⟩) | (rw [List.nil_append]; rfl)
    · have l1 : ¬ (xs.length : Int) < 14 := by omega
      have l2 : ¬ (xs.length : Int) < 18 := by omega
      have l3 : ¬ ((xs.length - 12 : Nat) : Int) < 6 := by omega
      have l4 : ¬ 1502 < ((xs.length - 16 : Nat) : Int) := by omega
      have l5 : (decide (xs.length - 14 < 2)) = false := by simp; omega
      rw [Bool.and_eq_true] at h4
      obtain ⟨hk, hf⟩ := h4
      have hz := chk_fr (by rw [List.length_drop]; omega) hf
      unfold n2 at hk hf hz ⊢
      repeat' (first | (with_reducible first | refine st_seq (fun K' hn he hr => ?_) | refine st_block (fun K' hn he hr => ?_) | refine st_region ?_ | refine st_draw ?_ | refine st_cond ?_ | refine st_loop ?_ | refine st_op (fun G gn => ?_) | refine st_gop ?_ | refine st_dop (fun G gn => ?_) | refine st_gdop ?_ | refine st_tl ?_) | ((conv => whnf); first | (with_reducible first | (refine gn _ _ ?_; clear gn G) | (refine gn _ _ _ _ ?_; clear gn G) | refine Wr.mk ?_ | (refine hn _ _ ?_; clear hn he hr K') | (refine he _ _ _ ?_; clear hn he hr K') | (refine hr _ _ ?_; clear hn he hr K') | refine Bo.yes (by decide) ?_ | refine Bo.no (by decide) ?_ | refine Nd.mk trivial ?_ | refine Nd.mk (by decide) ?_ | refine Nd.mk ?_ ?_ | refine Leaf.mk rfl ?_ | refine Fin.mk ?_ rfl | refine Fin.mk ?_ ?_) | ((with_reducible refine Eqn.mk (fun hq => ?_) ?_) <;> try contradiction) | ((with_reducible refine Bo.gen (fun c hb => ?_)) <;> (try simp only [Nat.reduceAdd, Int.reduceToNat, toD, toDs, bl0] at hb) <;> (try simp only [↓reduceIte, reduceCtorEq, Int.reduceEq, Int.reduceLT, Int.reduceLE, eqA, eqAs, cmpI, bl1, toD, toDs, bl0, l1, l2, l3, l4, l5, hm, hk, hz, y0, y1, y2, List.nil_append, Int.reduceToNat, Int.toNat_natCast, Nat.sub_zero, Nat.reduceSub, List.drop_zero, List.take_take, Nat.min_self, tda, List.drop_drop, Nat.reduceAdd, List.length_drop] at hb) <;> first | (obtain rfl : c = true := hb) | (obtain rfl : c = false := hb) | skip) | ((with_reducible refine Br.cs (fun hq => ?_) (fun hq => ?_)) <;> (try simp only [↓reduceIte, reduceCtorEq, Int.reduceEq, Int.reduceLT, Int.reduceLE, eqA, eqAs, cmpI, bl1, toD, toDs, bl0, l1, l2, l3, l4, l5, hm, hk, hz, y0, y1, y2, List.nil_append, Int.reduceToNat, Int.toNat_natCast, Nat.sub_zero, Nat.reduceSub, List.drop_zero, List.take_take, Nat.min_self, tda, List.drop_drop, Nat.reduceAdd, List.length_drop] at hq) <;> first | contradiction | subst hq | skip) | ((with_reducible refine Nx.mk ?_ ?_ ?_ ?_) <;> try rfl)))
      all_goals (try rw [r14])
      all_goals (try rw [r16])
      all_goals (try rw [r12])
      all_goals (try rw [r6a])
      all_goals (try rw [r6b])
      all_goals (try rw [q16])
      all_goals first | rfl | omega | (unfold cutOK; omega) | (simp only [Int.reduceToNat, Nat.reduceSub, List.length_take, List.length_drop, Int.toNat_natCast]; omega) | (simp only [List.length_drop]; done) | (simp only [List.length_nil, Nat.zero_add, List.length_drop]; done) | (exact ⟨.inl rfl, by unfold roomy; simp only [List.length_drop, List.length_nil]; omega⟩) | (rw [List.nil_append]; rfl) | skip
      have hn0 := hn
      have he0 := he
      have hr0 := hr
      clear hn he hr
      refine loop_of (fun i : Nat => [(0, .sl u8 xs .no), (2, .ptr 0 [] TFr), (4, .ptr 1 [] TFr), (5, .sl u8 (xs.drop 16) .no), (6, .int .i64 i)])
        (fun i : Nat => [.var TFr fr0 false, .var TFr (frA (xs.take i ++ List.replicate (6 - i) (.i 0)) ((xs.drop 6).take i ++ List.replicate (6 - i) (.i 0)) true 0 false 0 [] .no) false])
        (fun i => i ≤ 6) (fun i => 6 - i) 0 rfl rfl (by omega) (fun _ _ => rfl) ?_
      intro i hi J hJ K' hn he hr
      have hw6 : i < 6 → IntKind.i64.wrap (6 + (i : Int)) = 6 + i := fun _ => wi64_in (by omega) (by omega)
      have hw1 : i < 6 → IntKind.i64.wrap ((i : Int) + 1) = ((i + 1 : Nat) : Int) := fun _ => wi64_in (by omega) (by omega)
      repeat' (first | (with_reducible first | refine st_seq (fun K' hn he hr => ?_) | refine st_block (fun K' hn he hr => ?_) | refine st_region ?_ | refine st_draw ?_ | refine st_cond ?_ | refine st_loop ?_ | refine st_op (fun G gn => ?_) | refine st_gop ?_ | refine st_dop (fun G gn => ?_) | refine st_gdop ?_ | refine st_tl ?_) | ((conv => whnf); first | (with_reducible first | (refine gn _ _ ?_; clear gn G) | (refine gn _ _ _ _ ?_; clear gn G) | refine Wr.mk ?_ | (refine hn _ _ ?_; clear hn he hr K') | (refine he _ _ _ ?_; clear hn he hr K') | (refine hr _ _ ?_; clear hn he hr K') | refine Bo.yes (by decide) ?_ | refine Bo.no (by decide) ?_ | refine Nd.mk trivial ?_ | refine Nd.mk (by decide) ?_ | refine Nd.mk ?_ ?_ | refine Leaf.mk rfl ?_ | refine Fin.mk ?_ rfl | refine Fin.mk ?_ ?_) | ((with_reducible refine Eqn.mk (fun hq => ?_) ?_) <;> try contradiction) | ((with_reducible refine Bo.gen (fun c hb => ?_)) <;> (try simp only [Nat.reduceAdd, Int.reduceToNat, toD, toDs, bl0] at hb) <;> (try simp only [↓reduceIte, reduceCtorEq, Int.reduceEq, Int.reduceLT, Int.reduceLE, eqA, eqAs, cmpI, bl1, toD, toDs, bl0] at hb) <;> first | (obtain rfl : c = true := hb) | (obtain rfl : c = false := hb) | skip) | ((with_reducible refine Br.cs (fun hq => ?_) (fun hq => ?_)) <;> (try simp only [↓reduceIte, reduceCtorEq, Int.reduceEq, Int.reduceLT, Int.reduceLE, eqA, eqAs, cmpI, bl1, toD, toDs, bl0] at hq) <;> first | contradiction | subst hq | skip) | ((with_reducible refine Nx.mk ?_ ?_ ?_ ?_) <;> try rfl)))
      all_goals simp only [ctd, cfd] at *
      all_goals try (first | omega | (rw [hw6 (by omega)]; omega))
      · have q4 := fill_set xs i (.i (xs.getD i (.i 0)).int) (by omega) (by omega) (by rw [canon hok.1.2])
        have q10 := fill_set (xs.drop 6) i (.i (xs.getD (6 + i) (.i 0)).int) (by omega) (by simp; omega) (by rw [canon hok.1.2, List.getD_eq_getElem?_getD, List.getD_eq_getElem?_getD, List.getElem?_drop])
        have t6 : (IntKind.i64.wrap (6 + (i : Int))).toNat = 6 + i := by rw [hw6 (by omega)]; omega
        refine J_of (hJ (i + 1) (by omega) (by omega)) ?_ ?_
        · rw [hw1 (by omega)]
          all_goals rfl
        · rw [t6, ← q4, ← q10]
          all_goals rfl
      · have : i = 6 := by omega
        subst this
        refine he0 _ _ _ ?_
        clear hn0 he0 hr0 hJ
        simp only [Nat.sub_self, List.replicate_zero, List.append_nil]
        repeat' (first | (with_reducible first | refine st_seq (fun K' hn he hr => ?_) | refine st_block (fun K' hn he hr => ?_) | refine st_region ?_ | refine st_draw ?_ | refine st_cond ?_ | refine st_loop ?_ | refine st_op (fun G gn => ?_) | refine st_gop ?_ | refine st_dop (fun G gn => ?_) | refine st_gdop ?_ | refine st_tl ?_) | ((conv => whnf); first | (with_reducible first | (refine gn _ _ ?_; clear gn G) | (refine gn _ _ _ _ ?_; clear gn G) | refine Wr.mk ?_ | (refine hn _ _ ?_; clear hn he hr K') | (refine he _ _ _ ?_; clear hn he hr K') | (refine hr _ _ ?_; clear hn he hr K') | refine Bo.yes (by decide) ?_ | refine Bo.no (by decide) ?_ | refine Nd.mk trivial ?_ | refine Nd.mk (by decide) ?_ | refine Nd.mk ?_ ?_ | refine Leaf.mk rfl ?_ | refine Fin.mk ?_ rfl | refine Fin.mk ?_ ?_) | ((with_reducible refine Eqn.mk (fun hq => ?_) ?_) <;> try contradiction) | ((with_reducible refine Bo.gen (fun c hb => ?_)) <;> (try simp only [Nat.reduceAdd, Int.reduceToNat, toD, toDs, bl0] at hb) <;> (try simp only [↓reduceIte, reduceCtorEq, Int.reduceEq, Int.reduceLT, Int.reduceLE, eqA, eqAs, cmpI, bl1, toD, toDs, bl0, l1, l2, l3, l4, l5, hm, hk, hz, y0, y1, y2, List.nil_append, Int.reduceToNat, Int.toNat_natCast, Nat.sub_zero, Nat.reduceSub, List.drop_zero, List.take_take, Nat.min_self, tda, List.drop_drop, Nat.reduceAdd, List.length_drop] at hb) <;> first | (obtain rfl : c = true := hb) | (obtain rfl : c = false := hb) | skip) | ((with_reducible refine Br.cs (fun hq => ?_) (fun hq => ?_)) <;> (try simp only [↓reduceIte, reduceCtorEq, Int.reduceEq, Int.reduceLT, Int.reduceLE, eqA, eqAs, cmpI, bl1, toD, toDs, bl0, l1, l2, l3, l4, l5, hm, hk, hz, y0, y1, y2, List.nil_append, Int.reduceToNat, Int.toNat_natCast, Nat.sub_zero, Nat.reduceSub, List.drop_zero, List.take_take, Nat.min_self, tda, List.drop_drop, Nat.reduceAdd, List.length_drop] at hq) <;> first | contradiction | subst hq | skip) | ((with_reducible refine Nx.mk ?_ ?_ ?_ ?_) <;> try rfl)))
        all_goals (try rw [r14])
        all_goals (try rw [r16])
        all_goals (try rw [r12])
        all_goals (try rw [r6a])
        all_goals (try rw [r6b])
        all_goals first | rfl | omega | (unfold cutOK; omega) | (simp only [Int.reduceToNat, Nat.reduceSub, List.length_take, List.length_drop, Int.toNat_natCast]; omega) | (simp only [List.length_drop]; done) | (simp only [List.length_nil, Nat.zero_add, List.length_drop]; done) | (exact ⟨.inl rfl, by unfold roomy; simp only [List.length_drop, List.length_nil]; omega⟩) | (rw [List.nil_append]; rfl)
    · have l1 : ¬ (xs.length : Int) < 14 := by omega
      have l2 : ¬ (xs.length : Int) < 18 := by omega
      have l3 : ¬ ((xs.length - 12 : Nat) : Int) < 6 := by omega
      have l4 : ¬ 1502 < ((xs.length - 16 : Nat) : Int) := by omega
      have l5 : (decide (xs.length - 14 < 2)) = false := by simp; omega
      unfold n2 at h4
      cases hk : tagOK ((ato (xs.drop 14) 0 * 256 + ato (xs.drop 14) 1) / 8192) ((ato (xs.drop 14) 0 * 256 + ato (xs.drop 14) 1) % 4096)
      · clear h4
        repeat' (first | (with_reducible first | refine st_seq (fun K' hn he hr => ?_) | refine st_block (fun K' hn he hr => ?_) | refine st_region ?_ | refine st_draw ?_ | refine st_cond ?_ | refine st_loop ?_ | refine st_op (fun G gn => ?_) | refine st_gop ?_ | refine st_dop (fun G gn => ?_) | refine st_gdop ?_ | refine st_tl ?_) | ((conv => whnf); first | (with_reducible first | (refine gn _ _ ?_; clear gn G) | (refine gn _ _ _ _ ?_; clear gn G) | refine Wr.mk ?_ | (refine hn _ _ ?_; clear hn he hr K') | (refine he _ _ _ ?_; clear hn he hr K') | (refine hr _ _ ?_; clear hn he hr K') | refine Bo.yes (by decide) ?_ | refine Bo.no (by decide) ?_ | refine Nd.mk trivial ?_ | refine Nd.mk (by decide) ?_ | refine Nd.mk ?_ ?_ | refine Leaf.mk rfl ?_ | refine Fin.mk ?_ rfl | refine Fin.mk ?_ ?_) | ((with_reducible refine Eqn.mk (fun hq => ?_) ?_) <;> try contradiction) | ((with_reducible refine Bo.gen (fun c hb => ?_)) <;> (try simp only [Nat.reduceAdd, Int.reduceToNat, toD, toDs, bl0] at hb) <;> (try simp only [↓reduceIte, reduceCtorEq, Int.reduceEq, Int.reduceLT, Int.reduceLE, eqA, eqAs, cmpI, bl1, toD, toDs, bl0, l1, l2, l3, l4, l5, hm, hk, y0, y1, y2, List.nil_append, Int.reduceToNat, Int.toNat_natCast, Nat.sub_zero, Nat.reduceSub, List.drop_zero, List.take_take, Nat.min_self, tda, List.drop_drop, Nat.reduceAdd, List.length_drop] at hb) <;> first | (obtain rfl : c = true := hb) | (obtain rfl : c = false := hb) | skip) | ((with_reducible refine Br.cs (fun hq => ?_) (fun hq => ?_)) <;> (try simp only [↓reduceIte, reduceCtorEq, Int.reduceEq, Int.reduceLT, Int.reduceLE, eqA, eqAs, cmpI, bl1, toD, toDs, bl0, l1, l2, l3, l4, l5, hm, hk, y0, y1, y2, List.nil_append, Int.reduceToNat, Int.toNat_natCast, Nat.sub_zero, Nat.reduceSub, List.drop_zero, List.take_take, Nat.min_self, tda, List.drop_drop, Nat.reduceAdd, List.length_drop] at hq) <;> first | contradiction | subst hq | skip) | ((with_reducible refine Nx.mk ?_ ?_ ?_ ?_) <;> try rfl)))
        all_goals (try rw [r14])
        all_goals (try rw [r16])
        all_goals (try rw [r12])
        all_goals (try rw [r6a])
        all_goals (try rw [r6b])
        all_goals (try rw [q16])
        all_goals first | rfl | omega | (unfold cutOK; omega) | (simp only [Int.reduceToNat, Nat.reduceSub, List.length_take, List.length_drop, Int.toNat_natCast]; omega) | (simp only [List.length_drop]; done) | (simp only [List.length_nil, Nat.zero_add, List.length_drop]; done) | (exact ⟨.inl rfl, by unfold roomy; simp only [List.length_drop, List.length_nil]; omega⟩) | (rw [List.nil_append]; rfl) | skip
        have hn0 := hn
        have he0 := he
        have hr0 := hr
        clear hn he hr
        refine loop_of (fun i : Nat => [(0, .sl u8 xs .no), (2, .ptr 0 [] TFr), (4, .ptr 1 [] TFr), (5, .sl u8 (xs.drop 16) .no), (6, .int .i64 i)])
          (fun i : Nat => [.var TFr fr0 false, .var TFr (frA (xs.take i ++ List.replicate (6 - i) (.i 0)) ((xs.drop 6).take i ++ List.replicate (6 - i) (.i 0)) true 0 false 0 [] .no) false])
          (fun i => i ≤ 6) (fun i => 6 - i) 0 rfl rfl (by omega) (fun _ _ => rfl) ?_
        intro i hi J hJ K' hn he hr
        have hw6 : i < 6 → IntKind.i64.wrap (6 + (i : Int)) = 6 + i := fun _ => wi64_in (by omega) (by omega)
        have hw1 : i < 6 → IntKind.i64.wrap ((i : Int) + 1) = ((i + 1 : Nat) : Int) := fun _ => wi64_in (by omega) (by omega)
        repeat' (first | (with_reducible first | refine st_seq (fun K' hn he hr => ?_) | refine st_block (fun K' hn he hr => ?_) | refine st_region ?_ | refine st_draw ?_ | refine st_cond ?_ | refine st_loop ?_ | refine st_op (fun G gn => ?_) | refine st_gop ?_ | refine st_dop (fun G gn => ?_) | refine st_gdop ?_ | refine st_tl ?_) | ((conv => whnf); first | (with_reducible first | (refine gn _ _ ?_; clear gn G) | (refine gn _ _ _ _ ?_; clear gn G) | refine Wr.mk ?_ | (refine hn _ _ ?_; clear hn he hr K') | (refine he _ _ _ ?_; clear hn he hr K') | (refine hr _ _ ?_; clear hn he hr K') | refine Bo.yes (by decide) ?_ | refine Bo.no (by decide) ?_ | refine Nd.mk trivial ?_ | refine Nd.mk (by decide) ?_ | refine Nd.mk ?_ ?_ | refine Leaf.mk rfl ?_ | refine Fin.mk ?_ rfl | refine Fin.mk ?_ ?_) | ((with_reducible refine Eqn.mk (fun hq => ?_) ?_) <;> try contradiction) | ((with_reducible refine Bo.gen (fun c hb => ?_)) <;> (try simp only [Nat.reduceAdd, Int.reduceToNat, toD, toDs, bl0] at hb) <;> (try simp only [↓reduceIte, reduceCtorEq, Int.reduceEq, Int.reduceLT, Int.reduceLE, eqA, eqAs, cmpI, bl1, toD, toDs, bl0] at hb) <;> first | (obtain rfl : c = true := hb) | (obtain rfl : c = false := hb) | skip) | ((with_reducible refine Br.cs (fun hq => ?_) (fun hq => ?_)) <;> (try simp only [↓reduceIte, reduceCtorEq, Int.reduceEq, Int.reduceLT, Int.reduceLE, eqA, eqAs, cmpI, bl1, toD, toDs, bl0] at hq) <;> first | contradiction | subst hq | skip) | ((with_reducible refine Nx.mk ?_ ?_ ?_ ?_) <;> try rfl)))
        all_goals simp only [ctd, cfd] at *
        all_goals try (first | omega | (rw [hw6 (by omega)]; omega))
        · have q4 := fill_set xs i (.i (xs.getD i (.i 0)).int) (by omega) (by omega) (by rw [canon hok.1.2])
          have q10 := fill_set (xs.drop 6) i (.i (xs.getD (6 + i) (.i 0)).int) (by omega) (by simp; omega) (by rw [canon hok.1.2, List.getD_eq_getElem?_getD, List.getD_eq_getElem?_getD, List.getElem?_drop])
          have t6 : (IntKind.i64.wrap (6 + (i : Int))).toNat = 6 + i := by rw [hw6 (by omega)]; omega
          refine J_of (hJ (i + 1) (by omega) (by omega)) ?_ ?_
          · rw [hw1 (by omega)]
            all_goals rfl
          · rw [t6, ← q4, ← q10]
            all_goals rfl
        · have : i = 6 := by omega
          subst this
          refine he0 _ _ _ ?_
          clear hn0 he0 hr0 hJ
          simp only [Nat.sub_self, List.replicate_zero, List.append_nil]
          repeat' (first | (with_reducible first | refine st_seq (fun K' hn he hr => ?_) | refine st_block (fun K' hn he hr => ?_) | refine st_region ?_ | refine st_draw ?_ | refine st_cond ?_ | refine st_loop ?_ | refine st_op (fun G gn => ?_) | refine st_gop ?_ | refine st_dop (fun G gn => ?_) | refine st_gdop ?_ | refine st_tl ?_) | ((conv => whnf); first | (with_reducible first | (refine gn _ _ ?_; clear gn G) | (refine gn _ _ _ _ ?_; clear gn G) | refine Wr.mk ?_ | (refine hn _ _ ?_; clear hn he hr K') | (refine he _ _ _ ?_; clear hn he hr K') | (refine hr _ _ ?_; clear hn he hr K') | refine Bo.yes (by decide) ?_ | refine Bo.no (by decide) ?_ | refine Nd.mk trivial ?_ | refine Nd.mk (by decide) ?_ | refine Nd.mk ?_ ?_ | refine Leaf.mk rfl ?_ | refine Fin.mk ?_ rfl | refine Fin.mk ?_ ?_) | ((with_reducible refine Eqn.mk (fun hq => ?_) ?_) <;> try contradiction) | ((with_reducible refine Bo.gen (fun c hb => ?_)) <;> (try simp only [Nat.reduceAdd, Int.reduceToNat, toD, toDs, bl0] at hb) <;> (try simp only [↓reduceIte, reduceCtorEq, Int.reduceEq, Int.reduceLT, Int.reduceLE, eqA, eqAs, cmpI, bl1, toD, toDs, bl0, l1, l2, l3, l4, l5, hm, hk, y0, y1, y2, List.nil_append, Int.reduceToNat, Int.toNat_natCast, Nat.sub_zero, Nat.reduceSub, List.drop_zero, List.take_take, Nat.min_self, tda, List.drop_drop, Nat.reduceAdd, List.length_drop] at hb) <;> first | (obtain rfl : c = true := hb) | (obtain rfl : c = false := hb) | skip) | ((with_reducible refine Br.cs (fun hq => ?_) (fun hq => ?_)) <;> (try simp only [↓reduceIte, reduceCtorEq, Int.reduceEq, Int.reduceLT, Int.reduceLE, eqA, eqAs, cmpI, bl1, toD, toDs, bl0, l1, l2, l3, l4, l5, hm, hk, y0, y1, y2, List.nil_append, Int.reduceToNat, Int.toNat_natCast, Nat.sub_zero, Nat.reduceSub, List.drop_zero, List.take_take, Nat.min_self, tda, List.drop_drop, Nat.reduceAdd, List.length_drop] at hq) <;> first | contradiction | subst hq | skip) | ((with_reducible refine Nx.mk ?_ ?_ ?_ ?_) <;> try rfl)))
          all_goals (try rw [r14])
          all_goals (try rw [r16])
          all_goals (try rw [r12])
          all_goals (try rw [r6a])
          all_goals (try rw [r6b])
          all_goals first | rfl | omega | (unfold cutOK; omega) | (simp only [Int.reduceToNat, Nat.reduceSub, List.length_take, List.length_drop, Int.toNat_natCast]; omega) | (simp only [List.length_drop]; done) | (simp only [List.length_nil, Nat.zero_add, List.length_drop]; done) | (exact ⟨.inl rfl, by unfold roomy; simp only [List.length_drop, List.length_nil]; omega⟩) | (rw [List.nil_append]; rfl)
      · rw [hk, Bool.true_and] at h4
        have hz := chk_fr30 (by rw [List.length_drop]; omega) h4
        repeat' (first | (with_reducible first | refine st_seq (fun K' hn he hr => ?_) | refine st_block (fun K' hn he hr => ?_) | refine st_region ?_ | refine st_draw ?_ | refine st_cond ?_ | refine st_loop ?_ | refine st_op (fun G gn => ?_) | refine st_gop ?_ | refine st_dop (fun G gn => ?_) | refine st_gdop ?_ | refine st_tl ?_) | ((conv => whnf); first | (with_reducible first | (refine gn _ _ ?_; clear gn G) | (refine gn _ _ _ _ ?_; clear gn G) | refine Wr.mk ?_ | (refine hn _ _ ?_; clear hn he hr K') | (refine he _ _ _ ?_; clear hn he hr K') | (refine hr _ _ ?_; clear hn he hr K') | refine Bo.yes (by decide) ?_ | refine Bo.no (by decide) ?_ | refine Nd.mk trivial ?_ | refine Nd.mk (by decide) ?_ | refine Nd.mk ?_ ?_ | refine Leaf.mk rfl ?_ | refine Fin.mk ?_ rfl | refine Fin.mk ?_ ?_) | ((with_reducible refine Eqn.mk (fun hq => ?_) ?_) <;> try contradiction) | ((with_reducible refine Bo.gen (fun c hb => ?_)) <;> (try simp only [Nat.reduceAdd, Int.reduceToNat, toD, toDs, bl0] at hb) <;> (try simp only [↓reduceIte, reduceCtorEq, Int.reduceEq, Int.reduceLT, Int.reduceLE, eqA, eqAs, cmpI, bl1, toD, toDs, bl0, l1, l2, l3, l4, l5, hm, hk, hz, y0, y1, y2, List.nil_append, Int.reduceToNat, Int.toNat_natCast, Nat.sub_zero, Nat.reduceSub, List.drop_zero, List.take_take, Nat.min_self, tda, List.drop_drop, Nat.reduceAdd, List.length_drop] at hb) <;> first | (obtain rfl : c = true := hb) | (obtain rfl : c = false := hb) | skip) | ((with_reducible refine Br.cs (fun hq => ?_) (fun hq => ?_)) <;> (try simp only [↓reduceIte, reduceCtorEq, Int.reduceEq, Int.reduceLT, Int.reduceLE, eqA, eqAs, cmpI, bl1, toD, toDs, bl0, l1, l2, l3, l4, l5, hm, hk, hz, y0, y1, y2, List.nil_append, Int.reduceToNat, Int.toNat_natCast, Nat.sub_zero, Nat.reduceSub, List.drop_zero, List.take_take, Nat.min_self, tda, List.drop_drop, Nat.reduceAdd, List.length_drop] at hq) <;> first | contradiction | subst hq | skip) | ((with_reducible refine Nx.mk ?_ ?_ ?_ ?_) <;> try rfl)))
        all_goals (try rw [r14])
        all_goals (try rw [r16])
        all_goals (try rw [r12])
        all_goals (try rw [r6a])
        all_goals (try rw [r6b])
        all_goals (try rw [q16])
        all_goals first | rfl | omega | (unfold cutOK; omega) | (simp only [Int.reduceToNat, Nat.reduceSub, List.length_take, List.length_drop, Int.toNat_natCast]; omega) | (simp only [List.length_drop]; done) | (simp only [List.length_nil, Nat.zero_add, List.length_drop]; done) | (exact ⟨.inl rfl, by unfold roomy; simp only [List.length_drop, List.length_nil]; omega⟩) | (rw [List.nil_append]; rfl) | skip
        have hn0 := hn
        have he0 := he
        have hr0 := hr
        clear hn he hr
        refine loop_of (fun i : Nat => [(0, .sl u8 xs .no), (2, .ptr 0 [] TFr), (4, .ptr 1 [] TFr), (5, .sl u8 (xs.drop 16) .no), (6, .int .i64 i)])
          (fun i : Nat => [.var TFr fr0 false, .var TFr (frA (xs.take i ++ List.replicate (6 - i) (.i 0)) ((xs.drop 6).take i ++ List.replicate (6 - i) (.i 0)) true 0 false 0 [] .no) false])
          (fun i => i ≤ 6) (fun i => 6 - i) 0 rfl rfl (by omega) (fun _ _ => rfl) ?_
        intro i hi J hJ K' hn he hr
        have hw6 : i < 6 → IntKind.i64.wrap (6 + (i : Int)) = 6 + i := fun _ => wi64_in (by omega) (by omega)
        have hw1 : i < 6 → IntKind.i64.wrap ((i : Int) + 1) = ((i + 1 : Nat) : Int) := fun _ => wi64_in (by omega) (by omega)
        repeat' (first | (with_reducible first | refine st_seq (fun K' hn he hr => ?_) | refine st_block (fun K' hn he hr => ?_) | refine st_region ?_ | refine st_draw ?_ | refine st_cond ?_ | refine st_loop ?_ | refine st_op (fun G gn => ?_) | refine st_gop ?_ | refine st_dop (fun G gn => ?_) | refine st_gdop ?_ | refine st_tl ?_) | ((conv => whnf); first | (with_reducible first | (refine gn _ _ ?_; clear gn G) | (refine gn _ _ _ _ ?_; clear gn G) | refine Wr.mk ?_ | (refine hn _ _ ?_; clear hn he hr K') | (refine he _ _ _ ?_; clear hn he hr K') | (refine hr _ _ ?_; clear hn he hr K') | refine Bo.yes (by decide) ?_ | refine Bo.no (by decide) ?_ | refine Nd.mk trivial ?_ | refine Nd.mk (by decide) ?_ | refine Nd.mk ?_ ?_ | refine Leaf.mk rfl ?_ | refine Fin.mk ?_ rfl | refine Fin.mk ?_ ?_) | ((with_reducible refine Eqn.mk (fun hq => ?_) ?_) <;> try contradiction) | ((with_reducible refine Bo.gen (fun c hb => ?_)) <;> (try simp only [Nat.reduceAdd, Int.reduceToNat, toD, toDs, bl0] at hb) <;> (try simp only [↓reduceIte, reduceCtorEq, Int.reduceEq, Int.reduceLT, Int.reduceLE, eqA, eqAs, cmpI, bl1, toD, toDs, bl0] at hb) <;> first | (obtain rfl : c = true := hb) | (obtain rfl : c = false := hb) | skip) | ((with_reducible refine Br.cs (fun hq => ?_) (fun hq => ?_)) <;> (try simp only [↓reduceIte, reduceCtorEq, Int.reduceEq, Int.reduceLT, Int.reduceLE, eqA, eqAs, cmpI, bl1, toD, toDs, bl0] at hq) <;> first | contradiction | subst hq | skip) | ((with_reducible refine Nx.mk ?_ ?_ ?_ ?_) <;> try rfl)))
        all_goals simp only [ctd, cfd] at *
        all_goals try (first | omega | (rw [hw6 (by omega)]; omega))
        · have q4 := fill_set xs i (.i (xs.getD i (.i 0)).int) (by omega) (by omega) (by rw [canon hok.1.2])
          have q10 := fill_set (xs.drop 6) i (.i (xs.getD (6 + i) (.i 0)).int) (by omega) (by simp; omega) (by rw [canon hok.1.2, List.getD_eq_getElem?_getD, List.getD_eq_getElem?_getD, List.getElem?_drop])
          have t6 : (IntKind.i64.wrap (6 + (i : Int))).toNat = 6 + i := by rw [hw6 (by omega)]; omega
          refine J_of (hJ (i + 1) (by omega) (by omega)) ?_ ?_
          · rw [hw1 (by omega)]
            all_goals rfl
          · rw [t6, ← q4, ← q10]
            all_goals rfl
        · have : i = 6 := by omega
          subst this
          refine he0 _ _ _ ?_
          clear hn0 he0 hr0 hJ
          simp only [Nat.sub_self, List.replicate_zero, List.append_nil]
          repeat' (first | (with_reducible first | refine st_seq (fun K' hn he hr => ?_) | refine st_block (fun K' hn he hr => ?_) | refine st_region ?_ | refine st_draw ?_ | refine st_cond ?_ | refine st_loop ?_ | refine st_op (fun G gn => ?_) | refine st_gop ?_ | refine st_dop (fun G gn => ?_) | refine st_gdop ?_ | refine st_tl ?_) | ((conv => whnf); first | (with_reducible first | (refine gn _ _ ?_; clear gn G) | (refine gn _ _ _ _ ?_; clear gn G) | refine Wr.mk ?_ | (refine hn _ _ ?_; clear hn he hr K') | (refine he _ _ _ ?_; clear hn he hr K') | (refine hr _ _ ?_; clear hn he hr K') | refine Bo.yes (by decide) ?_ | refine Bo.no (by decide) ?_ | refine Nd.mk trivial ?_ | refine Nd.mk (by decide) ?_ | refine Nd.mk ?_ ?_ | refine Leaf.mk rfl ?_ | refine Fin.mk ?_ rfl | refine Fin.mk ?_ ?_) | ((with_reducible refine Eqn.mk (fun hq => ?_) ?_) <;> try contradiction) | ((with_reducible refine Bo.gen (fun c hb => ?_)) <;> (try simp only [Nat.reduceAdd, Int.reduceToNat, toD, toDs, bl0] at hb) <;> (try simp only [↓reduceIte, reduceCtorEq, Int.reduceEq, Int.reduceLT, Int.reduceLE, eqA, eqAs, cmpI, bl1, toD, toDs, bl0, l1, l2, l3, l4, l5, hm, hk, hz, y0, y1, y2, List.nil_append, Int.reduceToNat, Int.toNat_natCast, Nat.sub_zero, Nat.reduceSub, List.drop_zero, List.take_take, Nat.min_self, tda, List.drop_drop, Nat.reduceAdd, List.length_drop] at hb) <;> first | (obtain rfl : c = true := hb) | (obtain rfl : c = false := hb) | skip) | ((with_reducible refine Br.cs (fun hq => ?_) (fun hq => ?_)) <;> (try simp only [↓reduceIte, reduceCtorEq, Int.reduceEq, Int.reduceLT, Int.reduceLE, eqA, eqAs, cmpI, bl1, toD, toDs, bl0, l1, l2, l3, l4, l5, hm, hk, hz, y0, y1, y2, List.nil_append, Int.reduceToNat, Int.toNat_natCast, Nat.sub_zero, Nat.reduceSub, List.drop_zero, List.take_take, Nat.min_self, tda, List.drop_drop, Nat.reduceAdd, List.length_drop] at hq) <;> first | contradiction | subst hq | skip) | ((with_reducible refine Nx.mk ?_ ?_ ?_ ?_) <;> try rfl)))
          all_goals (try rw [r14])
          all_goals (try rw [r16])
          all_goals (try rw [r12])
          all_goals (try rw [r6a])
          all_goals (try rw [r6b])
          all_goals first | rfl | omega | (unfold cutOK; omega) | (simp only [Int.reduceToNat, Nat.reduceSub, List.length_take, List.length_drop, Int.toNat_natCast]; omega) | (simp only [List.length_drop]; done) | (simp only [List.length_nil, Nat.zero_add, List.length_drop]; done) | (exact ⟨.inl rfl, by unfold roomy; simp only [List.length_drop, List.length_nil]; omega⟩) | (rw [List.nil_append]; rfl)
    · have l1 : ¬ (xs.length : Int) < 14 := by omega
      have l4 : 1502 < ((xs.length - 12 : Nat) : Int) := by omega
      repeat' (first | (with_reducible first | refine st_seq (fun K' hn he hr => ?_) | refine st_block (fun K' hn he hr => ?_) | refine st_region ?_ | refine st_draw ?_ | refine st_cond ?_ | refine st_loop ?_ | refine st_op (fun G gn => ?_) | refine st_gop ?_ | refine st_dop (fun G gn => ?_) | refine st_gdop ?_ | refine st_tl ?_) | ((conv => whnf); first | (with_reducible first | (refine gn _ _ ?_; clear gn G) | (refine gn _ _ _ _ ?_; clear gn G) | refine Wr.mk ?_ | (refine hn _ _ ?_; clear hn he hr K') | (refine he _ _ _ ?_; clear hn he hr K') | (refine hr _ _ ?_; clear hn he hr K') | refine Bo.yes (by decide) ?_ | refine Bo.no (by decide) ?_ | refine Nd.mk trivial ?_ | refine Nd.mk (by decide) ?_ | refine Nd.mk ?_ ?_ | refine Leaf.mk rfl ?_ | refine Fin.mk ?_ rfl | refine Fin.mk ?_ ?_) | ((with_reducible refine Eqn.mk (fun hq => ?_) ?_) <;> try contradiction) | ((with_reducible refine Bo.gen (fun c hb => ?_)) <;> (try simp only [Nat.reduceAdd, Int.reduceToNat, toD, toDs, bl0] at hb) <;> (try simp only [↓reduceIte, reduceCtorEq, Int.reduceEq, Int.reduceLT, Int.reduceLE, eqA, eqAs, cmpI, bl1, toD, toDs, bl0, l1, l4, hm, y0, y1, y2, List.nil_append, Int.reduceToNat, Int.toNat_natCast, Nat.sub_zero, Nat.reduceSub, List.drop_zero, List.take_take, Nat.min_self, tda, List.drop_drop, Nat.reduceAdd, List.length_drop] at hb) <;> first | (obtain rfl : c = true := hb) | (obtain rfl : c = false := hb) | skip) | ((with_reducible refine Br.cs (fun hq => ?_) (fun hq => ?_)) <;> (try simp only [↓reduceIte, reduceCtorEq, Int.reduceEq, Int.reduceLT, Int.reduceLE, eqA, eqAs, cmpI, bl1, toD, toDs, bl0, l1, l4, hm, y0, y1, y2, List.nil_append, Int.reduceToNat, Int.toNat_natCast, Nat.sub_zero, Nat.reduceSub, List.drop_zero, List.take_take, Nat.min_self, tda, List.drop_drop, Nat.reduceAdd, List.length_drop] at hq) <;> first | contradiction | subst hq | skip) | ((with_reducible refine Nx.mk ?_ ?_ ?_ ?_) <;> try rfl)))
      all_goals (try rw [r14])
      all_goals (try rw [r16])
      all_goals (try rw [r12])
      all_goals (try rw [r6a])
      all_goals (try rw [r6b])
      all_goals first | rfl | omega | (unfold cutOK; omega) | (simp only [Int.reduceToNat, Nat.reduceSub, List.length_take, List.length_drop, Int.toNat_natCast]; omega) | (simp only [List.length_drop]; done) | (simp only [List.length_nil, Nat.zero_add, List.length_drop]; done) | (exact ⟨.inl rfl, by unfold roomy; simp only [List.length_drop, List.length_nil]; omega⟩) | (rw [List.nil_append]; rfl)
    · have l1 : ¬ (xs.length : Int) < 14 := by omega
      have l4 : ¬ 1502 < ((xs.length - 12 : Nat) : Int) := by omega
      have hz := chk_fr (by rw [List.length_drop]; omega) h4
      repeat' (first | (with_reducible first | refine st_seq (fun K' hn he hr => ?_) | refine st_block (fun K' hn he hr => ?_) | refine st_region ?_ | refine st_draw ?_ | refine st_cond ?_ | refine st_loop ?_ | refine st_op (fun G gn => ?_) | refine st_gop ?_ | refine st_dop (fun G gn => ?_) | refine st_gdop ?_ | refine st_tl ?_) | ((conv => whnf); first | (with_reducible first | (refine gn _ _ ?_; clear gn G) | (refine gn _ _ _ _ ?_; clear gn G) | refine Wr.mk ?_ | (refine hn _ _ ?_; clear hn he hr K') | (refine he _ _ _ ?_; clear hn he hr K') | (refine hr _ _ ?_; clear hn he hr K') | refine Bo.yes (by decide) ?_ | refine Bo.no (by decide) ?_ | refine Nd.mk trivial ?_ | refine Nd.mk (by decide) ?_ | refine Nd.mk ?_ ?_ | refine Leaf.mk rfl ?_ | refine Fin.mk ?_ rfl | refine Fin.mk ?_ ?_) | ((with_reducible refine Eqn.mk (fun hq => ?_) ?_) <;> try contradiction) | ((with_reducible refine Bo.gen (fun c hb => ?_)) <;> (try simp only [Nat.reduceAdd, Int.reduceToNat, toD, toDs, bl0] at hb) <;> (try simp only [↓reduceIte, reduceCtorEq, Int.reduceEq, Int.reduceLT, Int.reduceLE, eqA, eqAs, cmpI, bl1, toD, toDs, bl0, l1, l4, hm, hz, y0, y1, y2, List.nil_append, Int.reduceToNat, Int.toNat_natCast, Nat.sub_zero, Nat.reduceSub, List.drop_zero, List.take_take, Nat.min_self, tda, List.drop_drop, Nat.reduceAdd, List.length_drop] at hb) <;> first | (obtain rfl : c = true := hb) | (obtain rfl : c = false := hb) | skip) | ((with_reducible refine Br.cs (fun hq => ?_) (fun hq => ?_)) <;> (try simp only [↓reduceIte, reduceCtorEq, Int.reduceEq, Int.reduceLT, Int.reduceLE, eqA, eqAs, cmpI, bl1, toD, toDs, bl0, l1, l4, hm, hz, y0, y1, y2, List.nil_append, Int.reduceToNat, Int.toNat_natCast, Nat.sub_zero, Nat.reduceSub, List.drop_zero, List.take_take, Nat.min_self, tda, List.drop_drop, Nat.reduceAdd, List.length_drop] at hq) <;> first | contradiction | subst hq | skip) | ((with_reducible refine Nx.mk ?_ ?_ ?_ ?_) <;> try rfl)))
      all_goals (try rw [r14])
      all_goals (try rw [r16])
      all_goals (try rw [r12])
      all_goals (try rw [r6a])
      all_goals (try rw [r6b])
      all_goals (try rw [q16])
      all_goals first | rfl | omega | (unfold cutOK; omega) | (simp only [Int.reduceToNat, Nat.reduceSub, List.length_take, List.length_drop, Int.toNat_natCast]; omega) | (simp only [List.length_drop]; done) | (simp only [List.length_nil, Nat.zero_add, List.length_drop]; done) | (exact ⟨.inl rfl, by unfold roomy; simp only [List.length_drop, List.length_nil]; omega⟩) | (rw [List.nil_append]; rfl) | skip
      have hn0 := hn
      have he0 := he
      have hr0 := hr
      clear hn he hr
      refine loop_of (fun i : Nat => [(0, .sl u8 xs .no), (2, .ptr 0 [] TFr), (4, .ptr 1 [] TFr), (5, .sl u8 (xs.drop 12) .no), (6, .int .i64 i)])
        (fun i : Nat => [.var TFr fr0 false, .var TFr (frA (xs.take i ++ List.replicate (6 - i) (.i 0)) ((xs.drop 6).take i ++ List.replicate (6 - i) (.i 0)) false 0 false 0 [] .no) false])
        (fun i => i ≤ 6) (fun i => 6 - i) 0 rfl rfl (by omega) (fun _ _ => rfl) ?_
      intro i hi J hJ K' hn he hr
      have hw6 : i < 6 → IntKind.i64.wrap (6 + (i : Int)) = 6 + i := fun _ => wi64_in (by omega) (by omega)
      have hw1 : i < 6 → IntKind.i64.wrap ((i : Int) + 1) = ((i + 1 : Nat) : Int) := fun _ => wi64_in (by omega) (by omega)
      repeat' (first | (with_reducible first | refine st_seq (fun K' hn he hr => ?_) | refine st_block (fun K' hn he hr => ?_) | refine st_region ?_ | refine st_draw ?_ | refine st_cond ?_ | refine st_loop ?_ | refine st_op (fun G gn => ?_) | refine st_gop ?_ | refine st_dop (fun G gn => ?_) | refine st_gdop ?_ | refine st_tl ?_) | ((conv => whnf); first | (with_reducible first | (refine gn _ _ ?_; clear gn G) | (refine gn _ _ _ _ ?_; clear gn G) | refine Wr.mk ?_ | (refine hn _ _ ?_; clear hn he hr K') | (refine he _ _ _ ?_; clear hn he hr K') | (refine hr _ _ ?_; clear hn he hr K') | refine Bo.yes (by decide) ?_ | refine Bo.no (by decide) ?_ | refine Nd.mk trivial ?_ | refine Nd.mk (by decide) ?_ | refine Nd.mk ?_ ?_ | refine Leaf.mk rfl ?_ | refine Fin.mk ?_ rfl | refine Fin.mk ?_ ?_) | ((with_reducible refine Eqn.mk (fun hq => ?_) ?_) <;> try contradiction) | ((with_reducible refine Bo.gen (fun c hb => ?_)) <;> (try simp only [Nat.reduceAdd, Int.reduceToNat, toD, toDs, bl0] at hb) <;> (try simp only [↓reduceIte, reduceCtorEq, Int.reduceEq, Int.reduceLT, Int.reduceLE, eqA, eqAs, cmpI, bl1, toD, toDs, bl0] at hb) <;> first | (obtain rfl : c = true := hb) | (obtain rfl : c = false := hb) | skip) | ((with_reducible refine Br.cs (fun hq => ?_) (fun hq => ?_)) <;> (try simp only [↓reduceIte, reduceCtorEq, Int.reduceEq, Int.reduceLT, Int.reduceLE, eqA, eqAs, cmpI, bl1, toD, toDs, bl0] at hq) <;> first | contradiction | subst hq | skip) | ((with_reducible refine Nx.mk ?_ ?_ ?_ ?_) <;> try rfl)))
      all_goals simp only [ctd, cfd] at *
      all_goals try (first | omega | (rw [hw6 (by omega)]; omega))
      · have q4 := fill_set xs i (.i (xs.getD i (.i 0)).int) (by omega) (by omega) (by rw [canon hok.1.2])
        have q10 := fill_set (xs.drop 6) i (.i (xs.getD (6 + i) (.i 0)).int) (by omega) (by simp; omega) (by rw [canon hok.1.2, List.getD_eq_getElem?_getD, List.getD_eq_getElem?_getD, List.getElem?_drop])
        have t6 : (IntKind.i64.wrap (6 + (i : Int))).toNat = 6 + i := by rw [hw6 (by omega)]; omega
        refine J_of (hJ (i + 1) (by omega) (by omega)) ?_ ?_
        · rw [hw1 (by omega)]
          all_goals rfl
        · rw [t6, ← q4, ← q10]
          all_goals rfl
      · have : i = 6 := by omega
        subst this
        refine he0 _ _ _ ?_
        clear hn0 he0 hr0 hJ
        simp only [Nat.sub_self, List.replicate_zero, List.append_nil]
        repeat' (first | (with_reducible first | refine st_seq (fun K' hn he hr => ?_) | refine st_block (fun K' hn he hr => ?_) | refine st_region ?_ | refine st_draw ?_ | refine st_cond ?_ | refine st_loop ?_ | refine st_op (fun G gn => ?_) | refine st_gop ?_ | refine st_dop (fun G gn => ?_) | refine st_gdop ?_ | refine st_tl ?_) | ((conv => whnf); first | (with_reducible first | (refine gn _ _ ?_; clear gn G) | (refine gn _ _ _ _ ?_; clear gn G) | refine Wr.mk ?_ | (refine hn _ _ ?_; clear hn he hr K') | (refine he _ _ _ ?_; clear hn he hr K') | (refine hr _ _ ?_; clear hn he hr K') | refine Bo.yes (by decide) ?_ | refine Bo.no (by decide) ?_ | refine Nd.mk trivial ?_ | refine Nd.mk (by decide) ?_ | refine Nd.mk ?_ ?_ | refine Leaf.mk rfl ?_ | refine Fin.mk ?_ rfl | refine Fin.mk ?_ ?_) | ((with_reducible refine Eqn.mk (fun hq => ?_) ?_) <;> try contradiction) | ((with_reducible refine Bo.gen (fun c hb => ?_)) <;> (try simp only [Nat.reduceAdd, Int.reduceToNat, toD, toDs, bl0] at hb) <;> (try simp only [↓reduceIte, reduceCtorEq, Int.reduceEq, Int.reduceLT, Int.reduceLE, eqA, eqAs, cmpI, bl1, toD, toDs, bl0, l1, l4, hm, hz, y0, y1, y2, List.nil_append, Int.reduceToNat, Int.toNat_natCast, Nat.sub_zero, Nat.reduceSub, List.drop_zero, List.take_take, Nat.min_self, tda, List.drop_drop, Nat.reduceAdd, List.length_drop] at hb) <;> first | (obtain rfl : c = true := hb) | (obtain rfl : c = false := hb) | skip) | ((with_reducible refine Br.cs (fun hq => ?_) (fun hq => ?_)) <;> (try simp only [↓reduceIte, reduceCtorEq, Int.reduceEq, Int.reduceLT, Int.reduceLE, eqA, eqAs, cmpI, bl1, toD, toDs, bl0, l1, l4, hm, hz, y0, y1, y2, List.nil_append, Int.reduceToNat, Int.toNat_natCast, Nat.sub_zero, Nat.reduceSub, List.drop_zero, List.take_take, Nat.min_self, tda, List.drop_drop, Nat.reduceAdd, List.length_drop] at hq) <;> first | contradiction | subst hq | skip) | ((with_reducible refine Nx.mk ?_ ?_ ?_ ?_) <;> try rfl)))
        all_goals (try rw [r14])
        all_goals (try rw [r16])
        all_goals (try rw [r12])
        all_goals (try rw [r6a])
        all_goals (try rw [r6b])
        all_goals first | rfl | omega | (unfold cutOK; omega) | (simp only [Int.reduceToNat, Nat.reduceSub, List.length_take, List.length_drop, Int.toNat_natCast]; omega) | (simp only [List.length_drop]; done) | (simp only [List.length_nil, Nat.zero_add, List.length_drop]; done) | (exact ⟨.inl rfl, by unfold roomy; simp only [List.length_drop, List.length_nil]; omega⟩) | (rw [List.nil_append]; rfl)
    · have l1 : ¬ (xs.length : Int) < 14 := by omega
      have l4 : ¬ 1502 < ((xs.length - 12 : Nat) : Int) := by omega
      have hz := chk_fr30 (by rw [List.length_drop]; omega) h4
      repeat' (first | (with_reducible first | refine st_seq (fun K' hn he hr => ?_) | refine st_block (fun K' hn he hr => ?_) | refine st_region ?_ | refine st_draw ?_ | refine st_cond ?_ | refine st_loop ?_ | refine st_op (fun G gn => ?_) | refine st_gop ?_ | refine st_dop (fun G gn => ?_) | refine st_gdop ?_ | refine st_tl ?_) | ((conv => whnf); first | (with_reducible first | (refine gn _ _ ?_; clear gn G) | (refine gn _ _ _ _ ?_; clear gn G) | refine Wr.mk ?_ | (refine hn _ _ ?_; clear hn he hr K') | (refine he _ _ _ ?_; clear hn he hr K') | (refine hr _ _ ?_; clear hn he hr K') | refine Bo.yes (by decide) ?_ | refine Bo.no (by decide) ?_ | refine Nd.mk trivial ?_ | refine Nd.mk (by decide) ?_ | refine Nd.mk ?_ ?_ | refine Leaf.mk rfl ?_ | refine Fin.mk ?_ rfl | refine Fin.mk ?_ ?_) | ((with_reducible refine Eqn.mk (fun hq => ?_) ?_) <;> try contradiction) | ((with_reducible refine Bo.gen (fun c hb => ?_)) <;> (try simp only [Nat.reduceAdd, Int.reduceToNat, toD, toDs, bl0] at hb) <;> (try simp only [↓reduceIte, reduceCtorEq, Int.reduceEq, Int.reduceLT, Int.reduceLE, eqA, eqAs, cmpI, bl1, toD, toDs, bl0, l1, l4, hm, hz, y0, y1, y2, List.nil_append, Int.reduceToNat, Int.toNat_natCast, Nat.sub_zero, Nat.reduceSub, List.drop_zero, List.take_take, Nat.min_self, tda, List.drop_drop, Nat.reduceAdd, List.length_drop] at hb) <;> first | (obtain rfl : c = true := hb) | (obtain rfl : c = false := hb) | skip) | ((with_reducible refine Br.cs (fun hq => ?_) (fun hq => ?_)) <;> (try simp only [↓reduceIte, reduceCtorEq, Int.reduceEq, Int.reduceLT, Int.reduceLE, eqA, eqAs, cmpI, bl1, toD, toDs, bl0, l1, l4, hm, hz, y0, y1, y2, List.nil_append, Int.reduceToNat, Int.toNat_natCast, Nat.sub_zero, Nat.reduceSub, List.drop_zero, List.take_take, Nat.min_self, tda, List.drop_drop, Nat.reduceAdd, List.length_drop] at hq) <;> first | contradiction | subst hq | skip) | ((with_reducible refine Nx.mk ?_ ?_ ?_ ?_) <;> try rfl)))
      all_goals (try rw [r14])
      all_goals (try rw [r16])
      all_goals (try rw [r12])
      all_goals (try rw [r6a])
      all_goals (try rw [r6b])
      all_goals (try rw [q16])
      all_goals first | rfl | omega | (unfold cutOK; omega) | (simp only [Int.reduceToNat, Nat.reduceSub, List.length_take, List.length_drop, Int.toNat_natCast]; omega) | (simp only [List.length_drop]; done) | (simp only [List.length_nil, Nat.zero_add, List.length_drop]; done) | (exact ⟨.inl rfl, by unfold roomy; simp only [List.length_drop, List.length_nil]; omega⟩) | (rw [List.nil_append]; rfl) | skip
      have hn0 := hn
      have he0 := he
      have hr0 := hr
      clear hn he hr
      refine loop_of (fun i : Nat => [(0, .sl u8 xs .no), (2, .ptr 0 [] TFr), (4, .ptr 1 [] TFr), (5, .sl u8 (xs.drop 12) .no), (6, .int .i64 i)])
        (fun i : Nat => [.var TFr fr0 false, .var TFr (frA (xs.take i ++ List.replicate (6 - i) (.i 0)) ((xs.drop 6).take i ++ List.replicate (6 - i) (.i 0)) false 0 false 0 [] .no) false])
        (fun i => i ≤ 6) (fun i => 6 - i) 0 rfl rfl (by omega) (fun _ _ => rfl) ?_
      intro i hi J hJ K' hn he hr
      have hw6 : i < 6 → IntKind.i64.wrap (6 + (i : Int)) = 6 + i := fun _ => wi64_in (by omega) (by omega)
      have hw1 : i < 6 → IntKind.i64.wrap ((i : Int) + 1) = ((i + 1 : Nat) : Int) := fun _ => wi64_in (by omega) (by omega)
      repeat' (first | (with_reducible first | refine st_seq (fun K' hn he hr => ?_) | refine st_block (fun K' hn he hr => ?_) | refine st_region ?_ | refine st_draw ?_ | refine st_cond ?_ | refine st_loop ?_ | refine st_op (fun G gn => ?_) | refine st_gop ?_ | refine st_dop (fun G gn => ?_) | refine st_gdop ?_ | refine st_tl ?_) | ((conv => whnf); first | (with_reducible first | (refine gn _ _ ?_; clear gn G) | (refine gn _ _ _ _ ?_; clear gn G) | refine Wr.mk ?_ | (refine hn _ _ ?_; clear hn he hr K') | (refine he _ _ _ ?_; clear hn he hr K') | (refine hr _ _ ?_; clear hn he hr K') | refine Bo.yes (by decide) ?_ | refine Bo.no (by decide) ?_ | refine Nd.mk trivial ?_ | refine Nd.mk (by decide) ?_ | refine Nd.mk ?_ ?_ | refine Leaf.mk rfl ?_ | refine Fin.mk ?_ rfl | refine Fin.mk ?_ ?_) | ((with_reducible refine Eqn.mk (fun hq => ?_) ?_) <;> try contradiction) | ((with_reducible refine Bo.gen (fun c hb => ?_)) <;> (try simp only [Nat.reduceAdd, Int.reduceToNat, toD, toDs, bl0] at hb) <;> (try simp only [↓reduceIte, reduceCtorEq, Int.reduceEq, Int.reduceLT, Int.reduceLE, eqA, eqAs, cmpI, bl1, toD, toDs, bl0] at hb) <;> first | (obtain rfl : c = true := hb) | (obtain rfl : c = false := hb) | skip) | ((with_reducible refine Br.cs (fun hq => ?_) (fun hq => ?_)) <;> (try simp only [↓reduceIte, reduceCtorEq, Int.reduceEq, Int.reduceLT, Int.reduceLE, eqA, eqAs, cmpI, bl1, toD, toDs, bl0] at hq) <;> first | contradiction | subst hq | skip) | ((with_reducible refine Nx.mk ?_ ?_ ?_ ?_) <;> try rfl)))
      all_goals simp only [ctd, cfd] at *
      all_goals try (first | omega | (rw [hw6 (by omega)]; omega))
      · have q4 := fill_set xs i (.i (xs.getD i (.i 0)).int) (by omega) (by omega) (by rw [canon hok.1.2])
        have q10 := fill_set (xs.drop 6) i (.i (xs.getD (6 + i) (.i 0)).int) (by omega) (by simp; omega) (by rw [canon hok.1.2, List.getD_eq_getElem?_getD, List.getD_eq_getElem?_getD, List.getElem?_drop])
        have t6 : (IntKind.i64.wrap (6 + (i : Int))).toNat = 6 + i := by rw [hw6 (by omega)]; omega
        refine J_of (hJ (i + 1) (by omega) (by omega)) ?_ ?_
        · rw [hw1 (by omega)]
          all_goals rfl
        · rw [t6, ← q4, ← q10]
          all_goals rfl
      · have : i = 6 := by omega
        subst this
        refine he0 _ _ _ ?_
        clear hn0 he0 hr0 hJ
        simp only [Nat.sub_self, List.replicate_zero, List.append_nil]
        repeat' (first | (with_reducible first | refine st_seq (fun K' hn he hr => ?_) | refine st_block (fun K' hn he hr => ?_) | refine st_region ?_ | refine st_draw ?_ | refine st_cond ?_ | refine st_loop ?_ | refine st_op (fun G gn => ?_) | refine st_gop ?_ | refine st_dop (fun G gn => ?_) | refine st_gdop ?_ | refine st_tl ?_) | ((conv => whnf); first | (with_reducible first | (refine gn _ _ ?_; clear gn G) | (refine gn _ _ _ _ ?_; clear gn G) | refine Wr.mk ?_ | (refine hn _ _ ?_; clear hn he hr K') | (refine he _ _ _ ?_; clear hn he hr K') | (refine hr _ _ ?_; clear hn he hr K') | refine Bo.yes (by decide) ?_ | refine Bo.no (by decide) ?_ | refine Nd.mk trivial ?_ | refine Nd.mk (by decide) ?_ | refine Nd.mk ?_ ?_ | refine Leaf.mk rfl ?_ | refine Fin.mk ?_ rfl | refine Fin.mk ?_ ?_) | ((with_reducible refine Eqn.mk (fun hq => ?_) ?_) <;> try contradiction) | ((with_reducible refine Bo.gen (fun c hb => ?_)) <;> (try simp only [Nat.reduceAdd, Int.reduceToNat, toD, toDs, bl0] at hb) <;> (try simp only [↓reduceIte, reduceCtorEq, Int.reduceEq, Int.reduceLT, Int.reduceLE, eqA, eqAs, cmpI, bl1, toD, toDs, bl0, l1, l4, hm, hz, y0, y1, y2, List.nil_append, Int.reduceToNat, Int.toNat_natCast, Nat.sub_zero, Nat.reduceSub, List.drop_zero, List.take_take, Nat.min_self, tda, List.drop_drop, Nat.reduceAdd, List.length_drop] at hb) <;> first | (obtain rfl : c = true := hb) | (obtain rfl : c = false := hb) | skip) | ((with_reducible refine Br.cs (fun hq => ?_) (fun hq => ?_)) <;> (try simp only [↓reduceIte, reduceCtorEq, Int.reduceEq, Int.reduceLT, Int.reduceLE, eqA, eqAs, cmpI, bl1, toD, toDs, bl0, l1, l4, hm, hz, y0, y1, y2, List.nil_append, Int.reduceToNat, Int.toNat_natCast, Nat.sub_zero, Nat.reduceSub, List.drop_zero, List.take_take, Nat.min_self, tda, List.drop_drop, Nat.reduceAdd, List.length_drop] at hq) <;> first | contradiction | subst hq | skip) | ((with_reducible refine Nx.mk ?_ ?_ ?_ ?_) <;> try rfl)))
        all_goals (try rw [r14])
        all_goals (try rw [r16])
        all_goals (try rw [r12])
        all_goals (try rw [r6a])
        all_goals (try rw [r6b])
        all_goals first | rfl | omega | (unfold cutOK; omega) | (simp only [Int.reduceToNat, Nat.reduceSub, List.length_take, List.length_drop, Int.toNat_natCast]; omega) | (simp only [List.length_drop]; done) | (simp only [List.length_nil, Nat.zero_add, List.length_drop]; done) | (exact ⟨.inl rfl, by unfold roomy; simp only [List.length_drop, List.length_nil]; omega⟩) | (rw [List.nil_append]; rfl)
  · trivial
end Go.Vc.Seat
