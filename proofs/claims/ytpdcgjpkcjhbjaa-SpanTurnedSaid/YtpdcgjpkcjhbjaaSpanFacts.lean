/- Facts about each bridge's root, cost and best port. Plain law: no program stands here. -/
import Derived.Test.YtpdcgjpkcjhbjaaSpSpan3
set_option linter.unusedVariables false
set_option linter.unusedSimpArgs false
namespace Go.Vc.Span
theorem B_small {S : List Side} {ids : Nat → Int} {n : Nat} {m : Int} (hS : ∀ s ∈ S, s.me < n ∧ s.you < n ∧ 0 < s.c ∧ s.c ≤ m) (hm : 0 ≤ m) : ∀ (k v : Nat), v < n → 0 ≤ (B S ids k v).2 ∧ (B S ids k v).2 ≤ m * k
  | 0, v, hv => by
    show (0 : Int) ≤ 0 ∧ (0 : Int) ≤ m * (0 : Nat)
    simp
  | k + 1, v, hv => by
    have e : m * ((k + 1 : Nat) : Int) = m * (k : Nat) + m := by rw [show ((k + 1 : Nat) : Int) = (k : Int) + 1 by omega, Int.mul_add, Int.mul_one]
    rcases least_is (B S ids k) v S with h | ⟨s, h1, h2, h3⟩
    · have := B_small (ids := ids) hS hm k v hv
      rw [show B S ids (k + 1) v = B S ids k v from h]
      omega
    · have hs := hS s h1
      have := B_small (ids := ids) hS hm k s.you hs.2.1
      rw [show B S ids (k + 1) v = way (B S ids k) s from h3]
      show 0 ≤ (B S ids k s.you).2 + s.c ∧ (B S ids k s.you).2 + s.c ≤ _
      omega
theorem B_is {S : List Side} {ids : Nat → Int} : ∀ (k v : Nat), B S ids k v = (ids v, 0) ∨ ∃ s ∈ S, s.me = v ∧ ∃ j, j < k ∧ B S ids k v = way (B S ids j) s
  | 0, v => .inl rfl
  | k + 1, v => by
    rcases least_is (B S ids k) v S with h | ⟨s, h1, h2, h3⟩
    · rcases B_is (S := S) (ids := ids) k v with g | ⟨s, g1, g2, j, g3, g4⟩
      · exact .inl (h.trans g)
      · exact .inr ⟨s, g1, g2, j, by omega, h.trans g4⟩
    · exact .inr ⟨s, h1, h2, k, by omega, h3⟩
/-- The end is the own number, or what a side tells. -/
theorem F_is {S : List Side} {ids : Nat → Int} {n : Nat} (hS : ∀ s ∈ S, s.me < n ∧ s.you < n ∧ 0 < s.c) (v : Nat) : B S ids n v = (ids v, 0) ∨ ∃ s ∈ S, s.me = v ∧ B S ids n v = way (B S ids n) s := by
  rcases B_is (S := S) (ids := ids) n v with h | ⟨s, h1, h2, j, h3, h4⟩
  · exact .inl h
  · refine .inr ⟨s, h1, h2, ?_⟩
    have a := F_fix hS (ids := ids) h1 (k := n) (by omega)
    rw [h2] at a
    have b := way_mono (s := s) (B_le_of S ids (Nat.le_of_lt h3) s.you)
    rw [h4]
    rw [h4] at a
    exact eq_of b a |>.symm ▸ rfl
end Go.Vc.Span
namespace Go.Vc
def vlt (x y : V4) : Prop := x.r < y.r ∨ (x.r = y.r ∧ (x.c < y.c ∨ (x.c = y.c ∧ (x.b < y.b ∨ (x.b = y.b ∧ x.p < y.p)))))
theorem bet_iff (x y : V4) : bet x y = true ↔ vlt x y := by
  unfold bet betterV vlt
  by_cases h1 : x.r = y.r
  · by_cases h2 : x.c = y.c
    · by_cases h3 : x.b = y.b
      · simp [h1, h2, h3]
      · simp [h1, h2, h3]
    · simp [h1, h2]
  · simp [h1]
theorem bet_f (x y : V4) : bet x y = false ↔ ¬ vlt x y := by rw [← bet_iff, Bool.not_eq_true]
theorem V4.ext' {x y : V4} (h1 : x.r = y.r) (h2 : x.c = y.c) (h3 : x.b = y.b) (h4 : x.p = y.p) : x = y := by
  cases x; cases y; simp only at *; subst h1; subst h2; subst h3; subst h4; rfl
/-- A vector, and the port on which it comes in, before another. -/
def klt (v : V4) (p : Int) (w : V4) (q : Int) : Prop := vlt v w ∨ (v = w ∧ p < q)
theorem vlt_trans {x y z : V4} (h : vlt x y) (k : vlt y z) : vlt x z := by unfold vlt at *; omega
theorem vlt_irrefl (x : V4) : ¬ vlt x x := by unfold vlt; omega
theorem vlt_asymm {x y : V4} (h : vlt x y) : ¬ vlt y x := fun k => vlt_irrefl x (vlt_trans h k)
theorem vlt_tri {x y : V4} (h : ¬ vlt x y) (k : ¬ vlt y x) : x = y := by
  unfold vlt at *
  exact V4.ext' (by omega) (by omega) (by omega) (by omega)
theorem klt_trans {x y z : V4} {p q r : Int} (h : klt x p y q) (k : klt y q z r) : klt x p z r := by
  unfold klt at *
  rcases h with h | ⟨rfl, h⟩
  · rcases k with k | ⟨rfl, k⟩
    · exact .inl (vlt_trans h k)
    · exact .inl h
  · rcases k with k | ⟨rfl, k⟩
    · exact .inl k
    · exact .inr ⟨rfl, by omega⟩
theorem klt_irrefl (x : V4) (p : Int) : ¬ klt x p x p := by
  rintro (h | ⟨_, h⟩)
  · exact vlt_irrefl x h
  · omega
theorem klt_tri {x y : V4} {p q : Int} (h : ¬ klt x p y q) (k : ¬ klt y q x p) : x = y ∧ p = q := by
  unfold klt at *
  have e : x = y := vlt_tri (fun a => h (.inl a)) (fun a => k (.inl a))
  refine ⟨e, ?_⟩
  subst e
  have h1 : ¬ p < q := fun a => h (.inr ⟨rfl, a⟩)
  have h2 : ¬ q < p := fun a => k (.inr ⟨rfl, a⟩)
  omega
theorem rpWins_iff (a : Int × V4) (v : V4) (p : Int) : rpWins a v p = true ↔ a.1 < 0 ∨ klt v p a.2 a.1 := by
  unfold rpWins klt
  simp only [Bool.or_eq_true, decide_eq_true_eq, bet_iff]
/-- What the choice among sides comes to. -/
structure Best (ids : List D) (F : Nat → Span.Lab) (v : Int) (ss : List D) (a : Int × V4) : Prop where
  no : (∀ s ∈ ss, fi s 0 ≠ v) → a = (-1, ⟨0, 0, 0, 0⟩)
  at' : (∃ s ∈ ss, fi s 0 = v) → ∃ s ∈ ss, fi s 0 = v ∧ a = (fi s 1, addV ids F s) ∧ ∀ t ∈ ss, fi t 0 = v → ¬ klt (addV ids F t) (fi t 1) (addV ids F s) (fi s 1)
theorem best_step {ids : List D} {F : Nat → Span.Lab} {v : Int} {ss : List D} {a : Int × V4} {s : D} (hp : ∀ t ∈ ss, fi t 0 = v → 0 ≤ fi t 1) (h : Best ids F v ss a) : Best ids F v (ss ++ [s]) (rpS ids F v a s) := by
  unfold rpS
  by_cases hs : fi s 0 = v
  · rw [if_pos hs]
    refine ⟨fun hn => absurd hs (hn s (by simp)), fun _ => ?_⟩
    unfold rpStep
    by_cases hw : rpWins a (addV ids F s) (fi s 1) = true
    · rw [if_pos hw]
      refine ⟨s, by simp, hs, rfl, fun t ht htv => ?_⟩
      rcases List.mem_append.1 ht with ht | ht
      · obtain ⟨b, hb, hbv, rfl, hmin⟩ := h.at' ⟨t, ht, htv⟩
        rcases (rpWins_iff _ _ _).1 hw with hw | hw
        · exact absurd hw (by have := hp b hb hbv; show ¬ fi b 1 < 0; omega)
        · exact fun k => hmin t ht htv (klt_trans k hw)
      · obtain rfl : t = s := by simpa using ht
        exact klt_irrefl _ _
    · rw [if_neg hw]
      have hw' := fun k => hw ((rpWins_iff a (addV ids F s) (fi s 1)).2 k)
      by_cases hex : ∃ t ∈ ss, fi t 0 = v
      · obtain ⟨b, hb, hbv, rfl, hmin⟩ := h.at' hex
        refine ⟨b, by simp [hb], hbv, rfl, fun t ht htv => ?_⟩
        rcases List.mem_append.1 ht with ht | ht
        · exact hmin t ht htv
        · obtain rfl : t = s := by simpa using ht
          exact fun k => hw' (.inr k)
      · have := h.no (fun t ht htv => hex ⟨t, ht, htv⟩)
        subst this
        exact absurd (show (-1 : Int) < 0 by decide) (fun k => hw' (.inl k))
  · rw [if_neg hs]
    refine ⟨fun hn => h.no fun t ht => hn t (by simp [ht]), fun ⟨t, ht, htv⟩ => ?_⟩
    have ht' : t ∈ ss := by
      rcases List.mem_append.1 ht with ht | ht
      · exact ht
      · obtain rfl : t = s := by simpa using ht
        exact absurd htv hs
    obtain ⟨b, hb, hbv, he, hmin⟩ := h.at' ⟨t, ht', htv⟩
    refine ⟨b, by simp [hb], hbv, he, fun t ht htv => ?_⟩
    rcases List.mem_append.1 ht with ht | ht
    · exact hmin t ht htv
    · obtain rfl : t = s := by simpa using ht
      exact absurd htv hs
theorem best_of {ids : List D} {F : Nat → Span.Lab} {v : Int} : ∀ (ss : List D), (∀ t ∈ ss, fi t 0 = v → 0 ≤ fi t 1) → Best ids F v ss (rpOf ids F v ss) := by
  intro ss hp
  have key : ∀ (r : List D) (p : List D) (a : Int × V4), (∀ t ∈ p ++ r, fi t 0 = v → 0 ≤ fi t 1) → Best ids F v p a → Best ids F v (p ++ r) (r.foldl (rpS ids F v) a) := by
    intro r
    induction r with
    | nil => intro p a _ h; simpa using h
    | cons s r ih =>
      intro p a hp h
      have h1 := best_step (s := s) (fun t ht => hp t (by simp [ht])) h
      have := ih (p ++ [s]) _ (by simpa using hp) h1
      simpa using this
  have := key ss [] (-1, ⟨0, 0, 0, 0⟩) (by simpa using hp) ⟨fun _ => rfl, fun ⟨t, ht, _⟩ => by simp at ht⟩
  rw [List.nil_append] at this
  exact this
end Go.Vc
