/- A part of the proof of the seat's laws: AuPfEth4. It states no claim by itself. -/
import Derived.Test.YtiddoflcajgjjaaAuPfEth3
set_option linter.unusedVariables false
set_option linter.unusedSimpArgs false
namespace Go.Vc.Seat
open Go.Vc Go.Proofs.Try
theorem bytes_inj : ∀ (xs ys : List D), (∀ x ∈ xs, okD (.int .u8) x) → (∀ x ∈ ys, okD (.int .u8) x) → xs.map (fun d => UInt8.ofNat d.int.toNat) = ys.map (fun d => UInt8.ofNat d.int.toNat) → xs = ys
  | [], [], _, _, _ => rfl
  | [], _ :: _, _, _, h => by simp at h
  | _ :: _, [], _, _, h => by simp at h
  | x :: xs, y :: ys, hx, hy, h => by
    simp only [List.map_cons, List.cons.injEq] at h
    have h1 := hx x (by simp)
    have h2 := hy y (by simp)
    have b1 : 0 ≤ x.int ∧ x.int ≤ 255 := ato_le hx 0
    have b2 : 0 ≤ y.int ∧ y.int ≤ 255 := ato_le hy 0
    have e : x.int = y.int := by
      have := congrArg UInt8.toNat h.1
      simp only [UInt8.toNat_ofNat'] at this
      omega
    rw [h1.2, h2.2, e, bytes_inj xs ys (fun z hz => hx z (by simp [hz])) (fun z hz => hy z (by simp [hz])) h.2]
theorem sameB_iff {xs ys : List D} (hx : ∀ x ∈ xs, okD (.int .u8) x) (hy : ∀ x ∈ ys, okD (.int .u8) x) : sameB xs ys = true ↔ xs = ys := by
  unfold sameB
  rw [decide_eq_true_eq]
  constructor
  · intro h
    refine bytes_inj xs ys hx hy ?_
    have := congrArg (fun b => b.data.toList) h
    simpa [bytesOf] using this
  · intro h; rw [h]
theorem sameB_self (xs : List D) : sameB xs xs = true := by simp [sameB]
theorem pok_slices_Equal_u8 : POK prog orc f_slices_Equal_u8 := by
  refine pok_of ok_slices_Equal_u8 mixed (by simp [ac_slices_Equal_u8, acP, callsP]) (by simp [ac_slices_Equal_u8, acS, callsS]) fun args hok => ?_
  show Fits orc nt_slices_Equal_u8 rs_slices_Equal_u8 ac_slices_Equal_u8 args (pEqual8 args)
  unfold ac_slices_Equal_u8
  unfold pEqual8
  split
  · rename_i xs ys
    simp only [okAs, okA, maxLen] at hok
    refine ⟨rfl, ?_⟩
    cases hlen : decide ((xs.length : Int) = ys.length)
    · repeat' (first | (with_reducible first | refine st_seq (fun K' hn he hr => ?_) | refine st_block (fun K' hn he hr => ?_) | refine st_region ?_ | refine st_draw ?_ | refine st_cond ?_ | refine st_loop ?_ | refine st_op (fun G gn => ?_) | refine st_gop ?_ | refine st_dop (fun G gn => ?_) | refine st_gdop ?_ | refine st_tl ?_) | ((conv => whnf); first | (with_reducible first | (refine gn _ _ ?_; clear gn G) | (refine gn _ _ _ _ ?_; clear gn G) | refine Wr.mk ?_ | (refine hn _ _ ?_; clear hn he hr K') | (refine he _ _ _ ?_; clear hn he hr K') | (refine hr _ _ ?_; clear hn he hr K') | refine Bo.yes (by decide) ?_ | refine Bo.no (by decide) ?_ | refine Nd.mk trivial ?_ | refine Nd.mk (by decide) ?_ | refine Nd.mk ?_ ?_ | refine Leaf.mk rfl ?_ | refine Fin.mk ?_ rfl | refine Fin.mk ?_ ?_) | ((with_reducible refine Eqn.mk (fun hq => ?_) ?_) <;> try contradiction) | ((with_reducible refine Bo.gen (fun c hb => ?_)) <;> (try simp only [Nat.reduceAdd, Int.reduceToNat, toD, toDs, bl0] at hb) <;> (try simp only [↓reduceIte, reduceCtorEq, Int.reduceEq, Int.reduceLT, Int.reduceLE, eqA, eqAs, cmpI, bl1, toD, toDs, bl0, hlen] at hb) <;> first | (obtain rfl : c = true := hb) | (obtain rfl : c = false := hb) | skip) | ((with_reducible refine Br.cs (fun hq => ?_) (fun hq => ?_)) <;> (try simp only [↓reduceIte, reduceCtorEq, Int.reduceEq, Int.reduceLT, Int.reduceLE, eqA, eqAs, cmpI, bl1, toD, toDs, bl0, hlen] at hq) <;> first | contradiction | subst hq | skip) | ((with_reducible refine Nx.mk ?_ ?_ ?_ ?_) <;> try rfl)))
      all_goals (refine congrArg AV.bool ?_; symm; rw [← Bool.not_eq_true, sameB_iff hok.1.2 hok.2.1.2]; rintro rfl; simp at hlen)
    · repeat' (first | (with_reducible first | refine st_seq (fun K' hn he hr => ?_) | refine st_block (fun K' hn he hr => ?_) | refine st_region ?_ | refine st_draw ?_ | refine st_cond ?_ | refine st_loop ?_ | refine st_op (fun G gn => ?_) | refine st_gop ?_ | refine st_dop (fun G gn => ?_) | refine st_gdop ?_ | refine st_tl ?_) | ((conv => whnf); first | (with_reducible first | (refine gn _ _ ?_; clear gn G) | (refine gn _ _ _ _ ?_; clear gn G) | refine Wr.mk ?_ | (refine hn _ _ ?_; clear hn he hr K') | (refine he _ _ _ ?_; clear hn he hr K') | (refine hr _ _ ?_; clear hn he hr K') | refine Bo.yes (by decide) ?_ | refine Bo.no (by decide) ?_ | refine Nd.mk trivial ?_ | refine Nd.mk (by decide) ?_ | refine Nd.mk ?_ ?_ | refine Leaf.mk rfl ?_ | refine Fin.mk ?_ rfl | refine Fin.mk ?_ ?_) | ((with_reducible refine Eqn.mk (fun hq => ?_) ?_) <;> try contradiction) | ((with_reducible refine Bo.gen (fun c hb => ?_)) <;> (try simp only [Nat.reduceAdd, Int.reduceToNat, toD, toDs, bl0] at hb) <;> (try simp only [↓reduceIte, reduceCtorEq, Int.reduceEq, Int.reduceLT, Int.reduceLE, eqA, eqAs, cmpI, bl1, toD, toDs, bl0, hlen] at hb) <;> first | (obtain rfl : c = true := hb) | (obtain rfl : c = false := hb) | skip) | ((with_reducible refine Br.cs (fun hq => ?_) (fun hq => ?_)) <;> (try simp only [↓reduceIte, reduceCtorEq, Int.reduceEq, Int.reduceLT, Int.reduceLE, eqA, eqAs, cmpI, bl1, toD, toDs, bl0, hlen] at hq) <;> first | contradiction | subst hq | skip) | ((with_reducible refine Nx.mk ?_ ?_ ?_ ?_) <;> try rfl)))
      refine loop_of (fun i : Nat => [(0, .sl u8 xs .no), (1, .sl u8 ys .no), (12, .int .i64 xs.length), (13, .int .i64 i)]) (fun i => []) (fun i => i ≤ xs.length ∧ ∀ j, j < i → xs.getD j (.i 0) = ys.getD j (.i 0)) (fun i => xs.length - i) 0 rfl rfl ⟨by omega, fun j hj => by omega⟩ (fun _ _ => rfl) ?_
      intro i hi J hJ K' hn he hr
      have hl : xs.length = ys.length := by have := of_decide_eq_true hlen; omega
      have hw : i < xs.length → IntKind.i64.wrap ((i : Int) + 1) = ((i + 1 : Nat) : Int) := fun _ => wi64_in (by omega) (by omega)
      repeat' (first | (with_reducible first | refine st_seq (fun K' hn he hr => ?_) | refine st_block (fun K' hn he hr => ?_) | refine st_region ?_ | refine st_draw ?_ | refine st_cond ?_ | refine st_loop ?_ | refine st_op (fun G gn => ?_) | refine st_gop ?_ | refine st_dop (fun G gn => ?_) | refine st_gdop ?_ | refine st_tl ?_) | ((conv => whnf); first | (with_reducible first | (refine gn _ _ ?_; clear gn G) | (refine gn _ _ _ _ ?_; clear gn G) | refine Wr.mk ?_ | (refine hn _ _ ?_; clear hn he hr K') | (refine he _ _ _ ?_; clear hn he hr K') | (refine hr _ _ ?_; clear hn he hr K') | refine Bo.yes (by decide) ?_ | refine Bo.no (by decide) ?_ | refine Nd.mk trivial ?_ | refine Nd.mk (by decide) ?_ | refine Nd.mk ?_ ?_ | refine Leaf.mk rfl ?_ | refine Fin.mk ?_ rfl | refine Fin.mk ?_ ?_) | ((with_reducible refine Eqn.mk (fun hq => ?_) ?_) <;> try contradiction) | ((with_reducible refine Bo.gen (fun c hb => ?_)) <;> (try simp only [Nat.reduceAdd, Int.reduceToNat, toD, toDs, bl0] at hb) <;> (try simp only [↓reduceIte, reduceCtorEq, Int.reduceEq, Int.reduceLT, Int.reduceLE, eqA, eqAs, cmpI, bl1, toD, toDs, bl0] at hb) <;> first | (obtain rfl : c = true := hb) | (obtain rfl : c = false := hb) | skip) | ((with_reducible refine Br.cs (fun hq => ?_) (fun hq => ?_)) <;> (try simp only [↓reduceIte, reduceCtorEq, Int.reduceEq, Int.reduceLT, Int.reduceLE, eqA, eqAs, cmpI, bl1, toD, toDs, bl0] at hq) <;> first | contradiction | subst hq | skip) | ((with_reducible refine Nx.mk ?_ ?_ ?_ ?_) <;> try rfl)))
      all_goals simp only [ct_not, cf_not, ctd, cfd, dtd, dfd, Int.toNat_natCast] at *
      · omega
      · omega
      · refine congrArg AV.bool ?_
        symm
        rw [← Bool.not_eq_true, sameB_iff hok.1.2 hok.2.1.2]
        rintro rfl
        exact absurd rfl hb
      · refine J_of (hJ (i + 1) ⟨by omega, six_step hi.2 ?_⟩ (by omega)) ?_ rfl
        · rw [← canon hok.1.2 i, ← canon hok.2.1.2 i, hb]
        · rw [hw (by omega)]
          all_goals rfl
      · have : i = xs.length := by omega
        subst this
        refine congrArg AV.bool ?_
        symm
        rw [sameB_iff hok.1.2 hok.2.1.2]
        refine List.ext_getElem hl fun j h1 h2 => ?_
        have := hi.2 j h1
        rw [List.getD_eq_getElem?_getD, List.getD_eq_getElem?_getD, List.getElem?_eq_getElem h1, List.getElem?_eq_getElem h2] at this
        exact this
  · trivial
end Go.Vc.Seat
