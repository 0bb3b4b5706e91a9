/- A part of the proof of the seat's laws: PfSn23. It states no claim by itself. -/
import Derived.Test.YtpdcgjpkcjhbjaaPfSn17
set_option linter.unusedVariables false
set_option linter.unusedSimpArgs false
set_option linter.unusedSectionVars false
namespace Go.Vc.Seat
open Go.Vc Go.Proofs.Try

def normE (e : D) : D := .a [.i (fi e 0), .i (fi e 1), .i (fi e 2), .i (fi e 3), .i (fi e 4), .i (fi e 5)]
def swapE (e : D) : D := .a [.i (fi e 2), .i (fi e 3), .i (fi e 0), .i (fi e 1), .i (fi e 5), .i (fi e 4)]
theorem sidesD_cons (e : D) (l : List D) : sidesD (e :: l) = sideA e :: sideB e :: sidesD l := rfl
theorem sidesD_snoc (l : List D) (e : D) : sidesD (l ++ [e]) = sidesD l ++ [sideA e, sideB e] := by
  unfold sidesD
  rw [List.flatMap_append]
  rfl
/-- One more edge at the end, turned or not: the sides are those of one more edge in front. -/
theorem turn_step {es m : List D} {k : Nat} {x : D} (hk : k < es.length) (hp : (sidesD m).Perm (sidesD (es.drop (es.length - k)))) (hx : x = normE (es.getD (es.length - 1 - k) (.i 0)) ∨ x = swapE (es.getD (es.length - 1 - k) (.i 0))) :
    (sidesD (m ++ [x])).Perm (sidesD (es.drop (es.length - (k + 1)))) := by
  have hi : es.length - 1 - k < es.length := by omega
  have hd : es.drop (es.length - (k + 1)) = es.getD (es.length - 1 - k) (.i 0) :: es.drop (es.length - k) := by
    rw [show es.length - (k + 1) = es.length - 1 - k by omega, List.drop_eq_getElem_cons hi, show es.length - 1 - k + 1 = es.length - k by omega, List.getD_eq_getElem?_getD, List.getElem?_eq_getElem hi]
    rfl
  rw [hd, sidesD_cons, sidesD_snoc]
  refine List.perm_append_comm.trans ?_
  rcases hx with rfl | rfl
  · exact (hp.cons _).cons _
  · exact (List.Perm.swap _ _ _).trans ((hp.cons _).cons _)
theorem getD_in {l : List D} {i : Nat} (h : i < l.length) : l.getD i (.i 0) = l[i] := by
  rw [List.getD_eq_getElem?_getD, List.getElem?_eq_getElem h]
  rfl
theorem sidesOK_iff (n : Nat) (l : List D) : sidesOK n l = true ↔ (∀ s ∈ l, sideOK n s = true) ∧ l.Pairwise (fun s t => samePlace s t = false) := by
  unfold sidesOK
  rw [decide_eq_true_eq]
  constructor
  · intro h
    refine ⟨fun s hs => ?_, ?_⟩
    · obtain ⟨i, hi, rfl⟩ := mem_at hs
      exact (h i hi).1
    · rw [List.pairwise_iff_getElem]
      intro i j hi hj hij
      have := (h j hj).2 i hij
      rw [getD_in hi, getD_in hj] at this
      exact this
  · rintro ⟨h1, h2⟩ i hi
    refine ⟨h1 _ (at_mem hi), fun k hk => ?_⟩
    rw [List.pairwise_iff_getElem] at h2
    have hk' : k < l.length := by omega
    rw [getD_in hi, getD_in hk']
    exact h2 k i hk' hi hk
theorem samePlace_symm {s t : D} (h : samePlace s t = false) : samePlace t s = false := by
  unfold samePlace at *
  rw [decide_eq_false_iff_not] at *
  exact fun k => h ⟨k.1.symm, k.2.symm⟩
theorem spanOK_perm {ids es m : List D} (hp : (sidesD m).Perm (sidesD es)) (hl : m.length = es.length) : spanOK ids m = spanOK ids es := by
  have hs : sidesOK ids.length (sidesD m) = sidesOK ids.length (sidesD es) := by
    rw [Bool.eq_iff_iff, sidesOK_iff, sidesOK_iff]
    constructor
    · rintro ⟨h1, h2⟩
      exact ⟨fun s hs => h1 s (hp.mem_iff.2 hs), hp.pairwise h2 samePlace_symm⟩
    · rintro ⟨h1, h2⟩
      exact ⟨fun s hs => h1 s (hp.mem_iff.1 hs), hp.symm.pairwise h2 samePlace_symm⟩
  unfold spanOK
  rw [hs, hl]
theorem least_congr {L : Nat → Span.Lab} {v : Nat} {T T' : List Span.Side} (h : ∀ s, s ∈ T ↔ s ∈ T') : Span.least L v T = Span.least L v T' := by
  have key : ∀ (A B : List Span.Side), (∀ s, s ∈ A ↔ s ∈ B) → ¬ Span.lt (Span.least L v A) (Span.least L v B) := by
    intro A B hAB
    rcases Span.least_is L v A with e | ⟨s, h1, h2, h3⟩
    · rw [e]
      exact Span.least_le L v B
    · rw [h3]
      exact Span.least_side L v B s ((hAB s).1 h1) h2
  exact Span.eq_of (key T' T fun s => (h s).symm) (key T T' h)
theorem B_congr {S S' : List Span.Side} {ids : Nat → Int} (h : ∀ s, s ∈ S ↔ s ∈ S') : ∀ k, Span.B S ids k = Span.B S' ids k
  | 0 => rfl
  | k + 1 => by
    funext v
    show Span.least (Span.B S ids k) v S = Span.least (Span.B S' ids k) v S'
    rw [B_congr h k]
    exact least_congr h
theorem labs_perm {ids ss ss' : List D} (hp : ss'.Perm ss) : labs ids ss' = labs ids ss := by
  unfold labs
  exact B_congr (fun s => (hp.map sideOf).mem_iff) _
theorem best_eq {ids : List D} {F : Nat → Span.Lab} {v : Int} {ss ss' : List D} {a a' : Int × V4} (hm : ∀ s, s ∈ ss' ↔ s ∈ ss) (h : Best ids F v ss a) (h' : Best ids F v ss' a') : a' = a := by
  by_cases hex : ∃ s ∈ ss, fi s 0 = v
  · obtain ⟨s, g1, g2, rfl, g4⟩ := h.at' hex
    obtain ⟨t, ht, htv⟩ := hex
    obtain ⟨s', k1, k2, rfl, k4⟩ := h'.at' ⟨t, (hm t).2 ht, htv⟩
    have a := g4 s' ((hm s').1 k1) k2
    have b := k4 s ((hm s).2 g1) g2
    obtain ⟨e1, e2⟩ := klt_tri a b
    rw [e1, e2]
  · rw [h.no fun s hs hv => hex ⟨s, hs, hv⟩, h'.no fun s hs hv => hex ⟨s, (hm s).1 hs, hv⟩]
theorem rpN_perm {ids es m : List D} (hp : (sidesD m).Perm (sidesD es)) (h : spanOK ids es = true) : rpN ids (sidesD m) = rpN ids (sidesD es) := by
  funext v
  unfold rpN
  rw [labs_perm hp]
  have hb := best_of (ids := ids) (F := labs ids (sidesD es)) (v := (v : Int)) (sidesD es) fun t ht _ => by have := sp_side h ht; omega
  have hb' := best_of (ids := ids) (F := labs ids (sidesD es)) (v := (v : Int)) (sidesD m) fun t ht _ => by have := sp_side h (hp.mem_iff.1 ht); omega
  rw [best_eq (fun s => hp.mem_iff) hb hb']
theorem nodesD_perm {ids es m : List D} (hp : (sidesD m).Perm (sidesD es)) (h : spanOK ids es = true) : nodesD ids m = nodesD ids es := by
  unfold nodesD
  rw [labs_perm hp, rpN_perm hp h]
theorem endsD_perm {ids es m : List D} (hp : (sidesD m).Perm (sidesD es)) (h : spanOK ids es = true) : (endsD ids m).Perm (endsD ids es) := by
  unfold endsD
  rw [nodesD_perm hp h]
  exact hp.map _
theorem ends_found {p q : List D} (hp : q.Perm p) {i : Nat} (hi : i < p.length) : ∃ k, k < q.length ∧ q.getD k (.i 0) = p.getD i (.i 0) := mem_at (hp.mem_iff.2 (at_mem hi))
end Go.Vc.Seat
