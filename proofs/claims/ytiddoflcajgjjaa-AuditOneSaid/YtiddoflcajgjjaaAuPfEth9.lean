/- A part of the proof of the seat's laws: AuPfEth9. It states no claim by itself. -/
import Derived.Test.YtiddoflcajgjjaaAuPfEth8
import Derived.Test.YtiddoflcajgjjaaAuPfDec
set_option linter.unusedVariables false
set_option linter.unusedSimpArgs false
namespace Go.Vc.Seat
open Go.Vc Go.Proofs.Try
theorem chk_fr {da sa : List D} {t : Bool} {p : Int} {d : Bool} {v : Int} {rest : List D} (h : rest.length ≤ 1502) (g : frOK da sa t p d v rest = true) : frChk da sa t p d v rest = 0 := chk_ok (by omega) g
theorem chk_fr30 {da sa : List D} {t : Bool} {p : Int} {d : Bool} {v : Int} {rest : List D} (h : rest.length ≤ 1502) (g : frOK da sa t p d v rest = false) : frChk da sa t p d v rest = 30 := chk_not (by omega) g
theorem y0 : (((zeroD TFr).fld 3).fld 0).int = 0 := rfl
theorem y1 : (((zeroD TFr).fld 3).fld 1).bool = false := rfl
theorem y2 : (((zeroD TFr).fld 3).fld 2).int = 0 := rfl
theorem tda (n : Nat) (xs : List D) : List.take (xs.length - n) (List.drop n xs) = List.drop n xs := List.take_of_length_le (by simp)
set_option maxRecDepth 20000 in
set_option maxHeartbeats 8000000 in
theorem pok_ether_Decode : POK prog orc f_ether_Decode := by
  refine pok_of ok_ether_Decode mixed (by simp [ac_ether_Decode, acP, callsP, pok_ether_marked, pok_tag_Take, pok_slices_Clone_u8, pok_ether_Check]) (by simp [ac_ether_Decode, acS, callsS]) fun args hok => ?_
  show Fits orc nt_ether_Decode rs_ether_Decode ac_ether_Decode args (pFrDec2 args)
  unfold ac_ether_Decode
  refine dec2 ?_
  unfold pFrDec
  split
  · rename_i xs
    simp only [okAs, okA, maxLen] at hok
    have r12 : List.take ((xs.length : Int).toNat - Int.toNat 12) (List.drop (Int.toNat 12) xs) = xs.drop 12 := tda 12 xs
    have r14 : List.take ((xs.length : Int).toNat - Int.toNat 14) (List.drop (Int.toNat 14) xs) = xs.drop 14 := tda 14 xs
    have r16 : List.drop (Int.toNat 4) (List.take ((xs.length : Int).toNat - Int.toNat 12) (List.drop (Int.toNat 12) xs)) = xs.drop 16 := by
      rw [r12]
      show List.drop 4 (List.drop 12 xs) = _
      rw [List.drop_drop]
    have r6a : List.take 6 (List.take (Int.toNat 6 - Int.toNat 0) (List.drop (Int.toNat 0) xs)) = xs.take 6 := by
      show List.take 6 (List.take 6 xs) = _
      rw [List.take_take]
      rfl
    have r6b : List.take 6 (List.take (Int.toNat 12 - Int.toNat 6) (List.drop (Int.toNat 6) xs)) = (xs.drop 6).take 6 := by
      show List.take 6 (List.take 6 (xs.drop 6)) = _
      rw [List.take_take]
      rfl
    refine ⟨fun h1 => ⟨rfl, ?_⟩, fun h1 => ⟨fun hm => ⟨fun h2 => ⟨rfl, ?_⟩, fun h2 => ⟨fun h3 hc => ⟨rfl, ?_⟩, fun h3 => ⟨fun h4 => ⟨rfl, ?_⟩, fun h4 => ⟨rfl, ?_⟩⟩⟩⟩, fun hm => ⟨fun h3 hc => ⟨rfl, ?_⟩, fun h3 => ⟨fun h4 => ⟨rfl, ?_⟩, fun h4 => ⟨rfl, ?_⟩⟩⟩⟩⟩
    all_goals simp only [Bool.not_eq_true', Bool.not_eq_false', short_iff, short_f] at *
    · have l1 : (xs.length : Int) < 14 := by omega
      repeat' (first | (with_reducible first | refine st_seq (fun K' hn he hr => ?_) | refine st_block (fun K' hn he hr => ?_) | refine st_region ?_ | refine st_draw ?_ | refine st_cond ?_ | refine st_loop ?_ | refine st_op (fun G gn => ?_) | refine st_gop ?_ | refine st_dop (fun G gn => ?_) | refine st_gdop ?_ | refine st_tl ?_) | ((conv => whnf); first | (with_reducible first | (refine gn _ _ ?_; clear gn G) | (refine gn _ _ _ _ ?_; clear gn G) | refine Wr.mk ?_ | (refine hn _ _ ?_; clear hn he hr K') | (refine he _ _ _ ?_; clear hn he hr K') | (refine hr _ _ ?_; clear hn he hr K') | refine Bo.yes (by decide) ?_ | refine Bo.no (by decide) ?_ | refine Nd.mk trivial ?_ | refine Nd.mk (by decide) ?_ | refine Nd.mk ?_ ?_ | refine Leaf.mk rfl ?_ | refine Fin.mk ?_ rfl | refine Fin.mk ?_ ?_) | ((with_reducible refine Eqn.mk (fun hq => ?_) ?_) <;> try contradiction) | ((with_reducible refine Bo.gen (fun c hb => ?_)) <;> (try simp only [Nat.reduceAdd, Int.reduceToNat, toD, toDs, bl0] at hb) <;> (try simp only [↓reduceIte, reduceCtorEq, Int.reduceEq, Int.reduceLT, Int.reduceLE, eqA, eqAs, cmpI, bl1, toD, toDs, bl0, l1] at hb) <;> first | (obtain rfl : c = true := hb) | (obtain rfl : c = false := hb) | skip) | ((with_reducible refine Br.cs (fun hq => ?_) (fun hq => ?_)) <;> (try simp only [↓reduceIte, reduceCtorEq, Int.reduceEq, Int.reduceLT, Int.reduceLE, eqA, eqAs, cmpI, bl1, toD, toDs, bl0, l1] at hq) <;> first | contradiction | subst hq | skip) | ((with_reducible refine Nx.mk ?_ ?_ ?_ ?_) <;> try rfl)))
      all_goals (try rw [r14])
      all_goals (try rw [r16])
      all_goals (try rw [r12])
      all_goals (try rw [r6a])
      all_goals (try rw [r6b])
      all_goals first | rfl | omega | (unfold cutOK; omega) | (simp only [Int.reduceToNat, Nat.reduceSub, List.length_take, List.length_drop, Int.toNat_natCast]; omega) | (simp only [List.length_drop]; done)
    · have l1 : ¬ (xs.length : Int) < 14 := by omega
      have l2 : (xs.length : Int) < 18 := by omega
      have l3 : ((xs.length - 12 : Nat) : Int) < 6 := by omega
      repeat' (first | (with_reducible first | refine st_seq (fun K' hn he hr => ?_) | refine st_block (fun K' hn he hr => ?_) | refine st_region ?_ | refine st_draw ?_ | refine st_cond ?_ | refine st_loop ?_ | refine st_op (fun G gn => ?_) | refine st_gop ?_ | refine st_dop (fun G gn => ?_) | refine st_gdop ?_ | refine st_tl ?_) | ((conv => whnf); first | (with_reducible first | (refine gn _ _ ?_; clear gn G) | (refine gn _ _ _ _ ?_; clear gn G) | refine Wr.mk ?_ | (refine hn _ _ ?_; clear hn he hr K') | (refine he _ _ _ ?_; clear hn he hr K') | (refine hr _ _ ?_; clear hn he hr K') | refine Bo.yes (by decide) ?_ | refine Bo.no (by decide) ?_ | refine Nd.mk trivial ?_ | refine Nd.mk (by decide) ?_ | refine Nd.mk ?_ ?_ | refine Leaf.mk rfl ?_ | refine Fin.mk ?_ rfl | refine Fin.mk ?_ ?_) | ((with_reducible refine Eqn.mk (fun hq => ?_) ?_) <;> try contradiction) | ((with_reducible refine Bo.gen (fun c hb => ?_)) <;> (try simp only [Nat.reduceAdd, Int.reduceToNat, toD, toDs, bl0] at hb) <;> (try simp only [↓reduceIte, reduceCtorEq, Int.reduceEq, Int.reduceLT, Int.reduceLE, eqA, eqAs, cmpI, bl1, toD, toDs, bl0, l1, l2, l3, hm, y0, y1, y2, Int.reduceToNat, Int.toNat_natCast, Nat.sub_zero, Nat.reduceSub, List.drop_zero, List.take_take, Nat.min_self, tda, List.drop_drop, Nat.reduceAdd, List.length_drop] at hb) <;> first | (obtain rfl : c = true := hb) | (obtain rfl : c = false := hb) | skip) | ((with_reducible refine Br.cs (fun hq => ?_) (fun hq => ?_)) <;> (try simp only [↓reduceIte, reduceCtorEq, Int.reduceEq, Int.reduceLT, Int.reduceLE, eqA, eqAs, cmpI, bl1, toD, toDs, bl0, l1, l2, l3, hm, y0, y1, y2, Int.reduceToNat, Int.toNat_natCast, Nat.sub_zero, Nat.reduceSub, List.drop_zero, List.take_take, Nat.min_self, tda, List.drop_drop, Nat.reduceAdd, List.length_drop] at hq) <;> first | contradiction | subst hq | skip) | ((with_reducible refine Nx.mk ?_ ?_ ?_ ?_) <;> try rfl)))
      all_goals (try rw [r14])
      all_goals (try rw [r16])
      all_goals (try rw [r12])
      all_goals (try rw [r6a])
      all_goals (try rw [r6b])
      all_goals first | rfl | omega | (unfold cutOK; omega) | (simp only [Int.reduceToNat, Nat.reduceSub, List.length_take, List.length_drop, Int.toNat_natCast]; omega) | (simp only [List.length_drop]; done)
    · have l1 : ¬ (xs.length : Int) < 14 := by omega
      have l2 : ¬ (xs.length : Int) < 18 := by omega
      have l3 : ¬ ((xs.length - 12 : Nat) : Int) < 6 := by omega
      have l4 : 1502 < ((xs.length - 16 : Nat) : Int) := by omega
      repeat' (first | (with_reducible first | refine st_seq (fun K' hn he hr => ?_) | refine st_block (fun K' hn he hr => ?_) | refine st_region ?_ | refine st_draw ?_ | refine st_cond ?_ | refine st_loop ?_ | refine st_op (fun G gn => ?_) | refine st_gop ?_ | refine st_dop (fun G gn => ?_) | refine st_gdop ?_ | refine st_tl ?_) | ((conv => whnf); first | (with_reducible first | (refine gn _ _ ?_; clear gn G) | (refine gn _ _ _ _ ?_; clear gn G) | refine Wr.mk ?_ | (refine hn _ _ ?_; clear hn he hr K') | (refine he _ _ _ ?_; clear hn he hr K') | (refine hr _ _ ?_; clear hn he hr K') | refine Bo.yes (by decide) ?_ | refine Bo.no (by decide) ?_ | refine Nd.mk trivial ?_ | refine Nd.mk (by decide) ?_ | refine Nd.mk ?_ ?_ | refine Leaf.mk rfl ?_ | refine Fin.mk ?_ rfl | refine Fin.mk ?_ ?_) | ((with_reducible refine Eqn.mk (fun hq => ?_) ?_) <;> try contradiction) | ((with_reducible refine Bo.gen (fun c hb => ?_)) <;> (try simp only [Nat.reduceAdd, Int.reduceToNat, toD, toDs, bl0] at hb) <;> (try simp only [↓reduceIte, reduceCtorEq, Int.reduceEq, Int.reduceLT, Int.reduceLE, eqA, eqAs, cmpI, bl1, toD, toDs, bl0, l1, l2, l3, l4, hm, y0, y1, y2, Int.reduceToNat, Int.toNat_natCast, Nat.sub_zero, Nat.reduceSub, List.drop_zero, List.take_take, Nat.min_self, tda, List.drop_drop, Nat.reduceAdd, List.length_drop] at hb) <;> first | (obtain rfl : c = true := hb) | (obtain rfl : c = false := hb) | skip) | ((with_reducible refine Br.cs (fun hq => ?_) (fun hq => ?_)) <;> (try simp only [↓reduceIte, reduceCtorEq, Int.reduceEq, Int.reduceLT, Int.reduceLE, eqA, eqAs, cmpI, bl1, toD, toDs, bl0, l1, l2, l3, l4, hm, y0, y1, y2, Int.reduceToNat, Int.toNat_natCast, Nat.sub_zero, Nat.reduceSub, List.drop_zero, List.take_take, Nat.min_self, tda, List.drop_drop, Nat.reduceAdd, List.length_drop] at hq) <;> first | contradiction | subst hq | skip) | ((with_reducible refine Nx.mk ?_ ?_ ?_ ?_) <;> try rfl)))
      all_goals (try rw [r14])
      all_goals (try rw [r16])
      all_goals (try rw [r12])
      all_goals (try rw [r6a])
      all_goals (try rw [r6b])
      all_goals first | rfl | omega | (unfold cutOK; omega) | (simp only [Int.reduceToNat, Nat.reduceSub, List.length_take, List.length_drop, Int.toNat_natCast]; omega) | (simp only [List.length_drop]; done)
    · have l1 : ¬ (xs.length : Int) < 14 := by omega
      have l2 : ¬ (xs.length : Int) < 18 := by omega
      have l3 : ¬ ((xs.length - 12 : Nat) : Int) < 6 := by omega
      have l4 : ¬ 1502 < ((xs.length - 16 : Nat) : Int) := by omega
      have l5 : (decide (xs.length - 14 < 2)) = false := by simp; omega
      rw [Bool.and_eq_true] at h4
      obtain ⟨hk, hf⟩ := h4
      have hz := chk_fr (by rw [List.length_drop]; omega) hf
      unfold n2 at hk hf hz ⊢
      repeat' (first | (with_reducible first | refine st_seq (fun K' hn he hr => ?_) | refine st_block (fun K' hn he hr => ?_) | refine st_region ?_ | refine st_draw ?_ | refine st_cond ?_ | refine st_loop ?_ | refine st_op (fun G gn => ?_) | refine st_gop ?_ | refine st_dop (fun G gn => ?_) | refine st_gdop ?_ | refine st_tl ?_) | ((conv => whnf); first | (with_reducible first | (refine gn _ _ ?_; clear gn G) | (refine gn _ _ _ _ ?_; clear gn G) | refine Wr.mk ?_ | (refine hn _ _ ?_; clear hn he hr K') | (refine he _ _ _ ?_; clear hn he hr K') | (refine hr _ _ ?_; clear hn he hr K') | refine Bo.yes (by decide) ?_ | refine Bo.no (by decide) ?_ | refine Nd.mk trivial ?_ | refine Nd.mk (by decide) ?_ | refine Nd.mk ?_ ?_ | refine Leaf.mk rfl ?_ | refine Fin.mk ?_ rfl | refine Fin.mk ?_ ?_) | ((with_reducible refine Eqn.mk (fun hq => ?_) ?_) <;> try contradiction) | ((with_reducible refine Bo.gen (fun c hb => ?_)) <;> (try simp only [Nat.reduceAdd, Int.reduceToNat, toD, toDs, bl0] at hb) <;> (try simp only [↓reduceIte, reduceCtorEq, Int.reduceEq, Int.reduceLT, Int.reduceLE, eqA, eqAs, cmpI, bl1, toD, toDs, bl0, l1, l2, l3, l4, l5, hm, hk, hz, y0, y1, y2, Int.reduceToNat, Int.toNat_natCast, Nat.sub_zero, Nat.reduceSub, List.drop_zero, List.take_take, Nat.min_self, tda, List.drop_drop, Nat.reduceAdd, List.length_drop] at hb) <;> first | (obtain rfl : c = true := hb) | (obtain rfl : c = false := hb) | skip) | ((with_reducible refine Br.cs (fun hq => ?_) (fun hq => ?_)) <;> (try simp only [↓reduceIte, reduceCtorEq, Int.reduceEq, Int.reduceLT, Int.reduceLE, eqA, eqAs, cmpI, bl1, toD, toDs, bl0, l1, l2, l3, l4, l5, hm, hk, hz, y0, y1, y2, Int.reduceToNat, Int.toNat_natCast, Nat.sub_zero, Nat.reduceSub, List.drop_zero, List.take_take, Nat.min_self, tda, List.drop_drop, Nat.reduceAdd, List.length_drop] at hq) <;> first | contradiction | subst hq | skip) | ((with_reducible refine Nx.mk ?_ ?_ ?_ ?_) <;> try rfl)))
      all_goals (try rw [r14])
      all_goals (try rw [r16])
      all_goals (try rw [r12])
      all_goals (try rw [r6a])
      all_goals (try rw [r6b])
      all_goals first | rfl | omega | (unfold cutOK; omega) | (simp only [Int.reduceToNat, Nat.reduceSub, List.length_take, List.length_drop, Int.toNat_natCast]; omega) | (simp only [List.length_drop]; done)
    · have l1 : ¬ (xs.length : Int) < 14 := by omega
      have l2 : ¬ (xs.length : Int) < 18 := by omega
      have l3 : ¬ ((xs.length - 12 : Nat) : Int) < 6 := by omega
      have l4 : ¬ 1502 < ((xs.length - 16 : Nat) : Int) := by omega
      have l5 : (decide (xs.length - 14 < 2)) = false := by simp; omega
      unfold n2 at h4
      cases hk : tagOK ((ato (xs.drop 14) 0 * 256 + ato (xs.drop 14) 1) / 8192) ((ato (xs.drop 14) 0 * 256 + ato (xs.drop 14) 1) % 4096)
      · clear h4
        repeat' (first | (with_reducible first | refine st_seq (fun K' hn he hr => ?_) | refine st_block (fun K' hn he hr => ?_) | refine st_region ?_ | refine st_draw ?_ | refine st_cond ?_ | refine st_loop ?_ | refine st_op (fun G gn => ?_) | refine st_gop ?_ | refine st_dop (fun G gn => ?_) | refine st_gdop ?_ | refine st_tl ?_) | ((conv => whnf); first | (with_reducible first | (refine gn _ _ ?_; clear gn G) | (refine gn _ _ _ _ ?_; clear gn G) | refine Wr.mk ?_ | (refine hn _ _ ?_; clear hn he hr K') | (refine he _ _ _ ?_; clear hn he hr K') | (refine hr _ _ ?_; clear hn he hr K') | refine Bo.yes (by decide) ?_ | refine Bo.no (by decide) ?_ | refine Nd.mk trivial ?_ | refine Nd.mk (by decide) ?_ | refine Nd.mk ?_ ?_ | refine Leaf.mk rfl ?_ | refine Fin.mk ?_ rfl | refine Fin.mk ?_ ?_) | ((with_reducible refine Eqn.mk (fun hq => ?_) ?_) <;> try contradiction) | ((with_reducible refine Bo.gen (fun c hb => ?_)) <;> (try simp only [Nat.reduceAdd, Int.reduceToNat, toD, toDs, bl0] at hb) <;> (try simp only [↓reduceIte, reduceCtorEq, Int.reduceEq, Int.reduceLT, Int.reduceLE, eqA, eqAs, cmpI, bl1, toD, toDs, bl0, l1, l2, l3, l4, l5, hm, hk, y0, y1, y2, Int.reduceToNat, Int.toNat_natCast, Nat.sub_zero, Nat.reduceSub, List.drop_zero, List.take_take, Nat.min_self, tda, List.drop_drop, Nat.reduceAdd, List.length_drop] at hb) <;> first | (obtain rfl : c = true := hb) | (obtain rfl : c = false := hb) | skip) | ((with_reducible refine Br.cs (fun hq => ?_) (fun hq => ?_)) <;> (try simp only [↓reduceIte, reduceCtorEq, Int.reduceEq, Int.reduceLT, Int.reduceLE, eqA, eqAs, cmpI, bl1, toD, toDs, bl0, l1, l2, l3, l4, l5, hm, hk, y0, y1, y2, Int.reduceToNat, Int.toNat_natCast, Nat.sub_zero, Nat.reduceSub, List.drop_zero, List.take_take, Nat.min_self, tda, List.drop_drop, Nat.reduceAdd, List.length_drop] at hq) <;> first | contradiction | subst hq | skip) | ((with_reducible refine Nx.mk ?_ ?_ ?_ ?_) <;> try rfl)))
        all_goals (try rw [r14])
        all_goals (try rw [r16])
        all_goals (try rw [r12])
        all_goals (try rw [r6a])
        all_goals (try rw [r6b])
        all_goals first | rfl | omega | (unfold cutOK; omega) | (simp only [Int.reduceToNat, Nat.reduceSub, List.length_take, List.length_drop, Int.toNat_natCast]; omega) | (simp only [List.length_drop]; done)
      · rw [hk, Bool.true_and] at h4
        have hz := chk_fr30 (by rw [List.length_drop]; omega) h4
        repeat' (first | (with_reducible first | refine st_seq (fun K' hn he hr => ?_) | refine st_block (fun K' hn he hr => ?_) | refine st_region ?_ | refine st_draw ?_ | refine st_cond ?_ | refine st_loop ?_ | refine st_op (fun G gn => ?_) | refine st_gop ?_ | refine st_dop (fun G gn => ?_) | refine st_gdop ?_ | refine st_tl ?_) | ((conv => whnf); first | (with_reducible first | (refine gn _ _ ?_; clear gn G) | (refine gn _ _ _ _ ?_; clear gn G) | refine Wr.mk ?_ | (refine hn _ _ ?_; clear hn he hr K') | (refine he _ _ _ ?_; clear hn he hr K') | (refine hr _ _ ?_; clear hn he hr K') | refine Bo.yes (by decide) ?_ | refine Bo.no (by decide) ?_ | refine Nd.mk trivial ?_ | refine Nd.mk (by decide) ?_ | refine Nd.mk ?_ ?_ | refine Leaf.mk rfl ?_ | refine Fin.mk ?_ rfl | refine Fin.mk ?_ ?_) | ((with_reducible refine Eqn.mk (fun hq => ?_) ?_) <;> try contradiction) | ((with_reducible refine Bo.gen (fun c hb => ?_)) <;> (try simp only [Nat.reduceAdd, Int.reduceToNat, toD, toDs, bl0] at hb) <;> (try simp only [↓reduceIte, reduceCtorEq, Int.reduceEq, Int.reduceLT, Int.reduceLE, eqA, eqAs, cmpI, bl1, toD, toDs, bl0, l1, l2, l3, l4, l5, hm, hk, hz, y0, y1, y2, Int.reduceToNat, Int.toNat_natCast, Nat.sub_zero, Nat.reduceSub, List.drop_zero, List.take_take, Nat.min_self, tda, List.drop_drop, Nat.reduceAdd, List.length_drop] at hb) <;> first | (obtain rfl : c = true := hb) | (obtain rfl : c = false := hb) | skip) | ((with_reducible refine Br.cs (fun hq => ?_) (fun hq => ?_)) <;> (try simp only [↓reduceIte, reduceCtorEq, Int.reduceEq, Int.reduceLT, Int.reduceLE, eqA, eqAs, cmpI, bl1, toD, toDs, bl0, l1, l2, l3, l4, l5, hm, hk, hz, y0, y1, y2, Int.reduceToNat, Int.toNat_natCast, Nat.sub_zero, Nat.reduceSub, List.drop_zero, List.take_take, Nat.min_self, tda, List.drop_drop, Nat.reduceAdd, List.length_drop] at hq) <;> first | contradiction | subst hq | skip) | ((with_reducible refine Nx.mk ?_ ?_ ?_ ?_) <;> try rfl)))
        all_goals (try rw [r14])
        all_goals (try rw [r16])
        all_goals (try rw [r12])
        all_goals (try rw [r6a])
        all_goals (try rw [r6b])
        all_goals first | rfl | omega | (unfold cutOK; omega) | (simp only [Int.reduceToNat, Nat.reduceSub, List.length_take, List.length_drop, Int.toNat_natCast]; omega) | (simp only [List.length_drop]; done)
    · have l1 : ¬ (xs.length : Int) < 14 := by omega
      have l4 : 1502 < ((xs.length - 12 : Nat) : Int) := by omega
      repeat' (first | (with_reducible first | refine st_seq (fun K' hn he hr => ?_) | refine st_block (fun K' hn he hr => ?_) | refine st_region ?_ | refine st_draw ?_ | refine st_cond ?_ | refine st_loop ?_ | refine st_op (fun G gn => ?_) | refine st_gop ?_ | refine st_dop (fun G gn => ?_) | refine st_gdop ?_ | refine st_tl ?_) | ((conv => whnf); first | (with_reducible first | (refine gn _ _ ?_; clear gn G) | (refine gn _ _ _ _ ?_; clear gn G) | refine Wr.mk ?_ | (refine hn _ _ ?_; clear hn he hr K') | (refine he _ _ _ ?_; clear hn he hr K') | (refine hr _ _ ?_; clear hn he hr K') | refine Bo.yes (by decide) ?_ | refine Bo.no (by decide) ?_ | refine Nd.mk trivial ?_ | refine Nd.mk (by decide) ?_ | refine Nd.mk ?_ ?_ | refine Leaf.mk rfl ?_ | refine Fin.mk ?_ rfl | refine Fin.mk ?_ ?_) | ((with_reducible refine Eqn.mk (fun hq => ?_) ?_) <;> try contradiction) | ((with_reducible refine Bo.gen (fun c hb => ?_)) <;> (try simp only [Nat.reduceAdd, Int.reduceToNat, toD, toDs, bl0] at hb) <;> (try simp only [↓reduceIte, reduceCtorEq, Int.reduceEq, Int.reduceLT, Int.reduceLE, eqA, eqAs, cmpI, bl1, toD, toDs, bl0, l1, l4, hm, y0, y1, y2, Int.reduceToNat, Int.toNat_natCast, Nat.sub_zero, Nat.reduceSub, List.drop_zero, List.take_take, Nat.min_self, tda, List.drop_drop, Nat.reduceAdd, List.length_drop] at hb) <;> first | (obtain rfl : c = true := hb) | (obtain rfl : c = false := hb) | skip) | ((with_reducible refine Br.cs (fun hq => ?_) (fun hq => ?_)) <;> (try simp only [↓reduceIte, reduceCtorEq, Int.reduceEq, Int.reduceLT, Int.reduceLE, eqA, eqAs, cmpI, bl1, toD, toDs, bl0, l1, l4, hm, y0, y1, y2, Int.reduceToNat, Int.toNat_natCast, Nat.sub_zero, Nat.reduceSub, List.drop_zero, List.take_take, Nat.min_self, tda, List.drop_drop, Nat.reduceAdd, List.length_drop] at hq) <;> first | contradiction | subst hq | skip) | ((with_reducible refine Nx.mk ?_ ?_ ?_ ?_) <;> try rfl)))
      all_goals (try rw [r14])
      all_goals (try rw [r16])
      all_goals (try rw [r12])
      all_goals (try rw [r6a])
      all_goals (try rw [r6b])
      all_goals first | rfl | omega | (unfold cutOK; omega) | (simp only [Int.reduceToNat, Nat.reduceSub, List.length_take, List.length_drop, Int.toNat_natCast]; omega) | (simp only [List.length_drop]; done)
    · have l1 : ¬ (xs.length : Int) < 14 := by omega
      have l4 : ¬ 1502 < ((xs.length - 12 : Nat) : Int) := by omega
      have hz := chk_fr (by rw [List.length_drop]; omega) h4
      repeat' (first | (with_reducible first | refine st_seq (fun K' hn he hr => ?_) | refine st_block (fun K' hn he hr => ?_) | refine st_region ?_ | refine st_draw ?_ | refine st_cond ?_ | refine st_loop ?_ | refine st_op (fun G gn => ?_) | refine st_gop ?_ | refine st_dop (fun G gn => ?_) | refine st_gdop ?_ | refine st_tl ?_) | ((conv => whnf); first | (with_reducible first | (refine gn _ _ ?_; clear gn G) | (refine gn _ _ _ _ ?_; clear gn G) | refine Wr.mk ?_ | (refine hn _ _ ?_; clear hn he hr K') | (refine he _ _ _ ?_; clear hn he hr K') | (refine hr _ _ ?_; clear hn he hr K') | refine Bo.yes (by decide) ?_ | refine Bo.no (by decide) ?_ | refine Nd.mk trivial ?_ | refine Nd.mk (by decide) ?_ | refine Nd.mk ?_ ?_ | refine Leaf.mk rfl ?_ | refine Fin.mk ?_ rfl | refine Fin.mk ?_ ?_) | ((with_reducible refine Eqn.mk (fun hq => ?_) ?_) <;> try contradiction) | ((with_reducible refine Bo.gen (fun c hb => ?_)) <;> (try simp only [Nat.reduceAdd, Int.reduceToNat, toD, toDs, bl0] at hb) <;> (try simp only [↓reduceIte, reduceCtorEq, Int.reduceEq, Int.reduceLT, Int.reduceLE, eqA, eqAs, cmpI, bl1, toD, toDs, bl0, l1, l4, hm, hz, y0, y1, y2, Int.reduceToNat, Int.toNat_natCast, Nat.sub_zero, Nat.reduceSub, List.drop_zero, List.take_take, Nat.min_self, tda, List.drop_drop, Nat.reduceAdd, List.length_drop] at hb) <;> first | (obtain rfl : c = true := hb) | (obtain rfl : c = false := hb) | skip) | ((with_reducible refine Br.cs (fun hq => ?_) (fun hq => ?_)) <;> (try simp only [↓reduceIte, reduceCtorEq, Int.reduceEq, Int.reduceLT, Int.reduceLE, eqA, eqAs, cmpI, bl1, toD, toDs, bl0, l1, l4, hm, hz, y0, y1, y2, Int.reduceToNat, Int.toNat_natCast, Nat.sub_zero, Nat.reduceSub, List.drop_zero, List.take_take, Nat.min_self, tda, List.drop_drop, Nat.reduceAdd, List.length_drop] at hq) <;> first | contradiction | subst hq | skip) | ((with_reducible refine Nx.mk ?_ ?_ ?_ ?_) <;> try rfl)))
      all_goals (try rw [r14])
      all_goals (try rw [r16])
      all_goals (try rw [r12])
      all_goals (try rw [r6a])
      all_goals (try rw [r6b])
      all_goals first | rfl | omega | (unfold cutOK; omega) | (simp only [Int.reduceToNat, Nat.reduceSub, List.length_take, List.length_drop, Int.toNat_natCast]; omega) | (simp only [List.length_drop]; done)
    · have l1 : ¬ (xs.length : Int) < 14 := by omega
      have l4 : ¬ 1502 < ((xs.length - 12 : Nat) : Int) := by omega
      have hz := chk_fr30 (by rw [List.length_drop]; omega) h4
      repeat' (first | (with_reducible first | refine st_seq (fun K' hn he hr => ?_) | refine st_block (fun K' hn he hr => ?_) | refine st_region ?_ | refine st_draw ?_ | refine st_cond ?_ | refine st_loop ?_ | refine st_op (fun G gn => ?_) | refine st_gop ?_ | refine st_dop (fun G gn => ?_) | refine st_gdop ?_ | refine st_tl ?_) | ((conv => whnf); first | (with_reducible first | (refine gn _ _ ?_; clear gn G) | (refine gn _ _ _ _ ?_; clear gn G) | refine Wr.mk ?_ | (refine hn _ _ ?_; clear hn he hr K') | (refine he _ _ _ ?_; clear hn he hr K') | (refine hr _ _ ?_; clear hn he hr K') | refine Bo.yes (by decide) ?_ | refine Bo.no (by decide) ?_ | refine Nd.mk trivial ?_ | refine Nd.mk (by decide) ?_ | refine Nd.mk ?_ ?_ | refine Leaf.mk rfl ?_ | refine Fin.mk ?_ rfl | refine Fin.mk ?_ ?_) | ((with_reducible refine Eqn.mk (fun hq => ?_) ?_) <;> try contradiction) | ((with_reducible refine Bo.gen (fun c hb => ?_)) <;> (try simp only [Nat.reduceAdd, Int.reduceToNat, toD, toDs, bl0] at hb) <;> (try simp only [↓reduceIte, reduceCtorEq, Int.reduceEq, Int.reduceLT, Int.reduceLE, eqA, eqAs, cmpI, bl1, toD, toDs, bl0, l1, l4, hm, hz, y0, y1, y2, Int.reduceToNat, Int.toNat_natCast, Nat.sub_zero, Nat.reduceSub, List.drop_zero, List.take_take, Nat.min_self, tda, List.drop_drop, Nat.reduceAdd, List.length_drop] at hb) <;> first | (obtain rfl : c = true := hb) | (obtain rfl : c = false := hb) | skip) | ((with_reducible refine Br.cs (fun hq => ?_) (fun hq => ?_)) <;> (try simp only [↓reduceIte, reduceCtorEq, Int.reduceEq, Int.reduceLT, Int.reduceLE, eqA, eqAs, cmpI, bl1, toD, toDs, bl0, l1, l4, hm, hz, y0, y1, y2, Int.reduceToNat, Int.toNat_natCast, Nat.sub_zero, Nat.reduceSub, List.drop_zero, List.take_take, Nat.min_self, tda, List.drop_drop, Nat.reduceAdd, List.length_drop] at hq) <;> first | contradiction | subst hq | skip) | ((with_reducible refine Nx.mk ?_ ?_ ?_ ?_) <;> try rfl)))
      all_goals (try rw [r14])
      all_goals (try rw [r16])
      all_goals (try rw [r12])
      all_goals (try rw [r6a])
      all_goals (try rw [r6b])
      all_goals first | rfl | omega | (unfold cutOK; omega) | (simp only [Int.reduceToNat, Nat.reduceSub, List.length_take, List.length_drop, Int.toNat_natCast]; omega) | (simp only [List.length_drop]; done)
  · trivial
end Go.Vc.Seat
