/- Least walks: relaxing until nothing improves, and relaxing in as many rounds as there are nodes, come to the same. Plain law: no program stands here. -/
import Derived.Test.YtpdcgjpkcjhbjaaVcExt
set_option linter.unusedVariables false
namespace Go.Vc.Span
abbrev Lab := Int × Int
def lt (a b : Lab) : Prop := a.1 < b.1 ∨ (a.1 = b.1 ∧ a.2 < b.2)
instance (a b : Lab) : Decidable (lt a b) := by unfold lt; exact inferInstance
theorem lt_irrefl (a : Lab) : ¬ lt a a := by unfold lt; omega
theorem lt_trans {a b c : Lab} (h : lt a b) (k : lt b c) : lt a c := by unfold lt at *; omega
theorem lt_of_le {a b c : Lab} (h : ¬ lt b a) (k : lt b c) : lt a c := by unfold lt at *; omega
theorem lt_of_lt_le {a b c : Lab} (h : lt a b) (k : ¬ lt c b) : lt a c := by unfold lt at *; omega
theorem le_trans {a b c : Lab} (h : ¬ lt b a) (k : ¬ lt c b) : ¬ lt c a := by unfold lt at *; omega
theorem eq_of {a b : Lab} (h : ¬ lt b a) (k : ¬ lt a b) : a = b := by
  unfold lt at *
  exact Prod.ext (by omega) (by omega)
/-- An edge, as one of its ends sees it. -/
structure Side where
  me : Nat
  you : Nat
  c : Int
def way (L : Nat → Lab) (s : Side) : Lab := ((L s.you).1, (L s.you).2 + s.c)
theorem way_mono {L M : Nat → Lab} {s : Side} (h : ¬ lt (M s.you) (L s.you)) : ¬ lt (way M s) (way L s) := by
  unfold lt way at *
  simp only at *
  omega
theorem way_more {L : Nat → Lab} {s : Side} (h : 0 < s.c) : lt (L s.you) (way L s) := .inr ⟨rfl, by simp only [way]; omega⟩
section
variable (S : List Side) (ids : Nat → Int)
/-- The least of a place's own and of what its sides tell. -/
def least (L : Nat → Lab) (v : Nat) : List Side → Lab
  | [] => L v
  | s :: r => if s.me = v ∧ lt (way L s) (least L v r) then way L s else least L v r
theorem least_le (L : Nat → Lab) (v : Nat) : ∀ T, ¬ lt (L v) (least L v T)
  | [] => lt_irrefl _
  | s :: r => by
    unfold least
    split
    · rename_i h
      intro k
      exact least_le L v r (lt_trans k h.2)
    · exact least_le L v r
theorem least_side (L : Nat → Lab) (v : Nat) : ∀ (T : List Side) (s : Side), s ∈ T → s.me = v → ¬ lt (way L s) (least L v T)
  | t :: r, s, hs, hv => by
    unfold least
    rcases List.mem_cons.1 hs with rfl | hs
    · split
      · exact lt_irrefl _
      · rename_i h
        intro k
        exact h ⟨hv, k⟩
    · have := least_side L v r s hs hv
      split
      · rename_i h
        intro k
        exact this (lt_trans k h.2)
      · exact this
theorem least_is (L : Nat → Lab) (v : Nat) : ∀ T : List Side, least L v T = L v ∨ ∃ s ∈ T, s.me = v ∧ least L v T = way L s
  | [] => .inl rfl
  | t :: r => by
    unfold least
    split
    · rename_i h
      exact .inr ⟨t, by simp, h.1, rfl⟩
    · rcases least_is L v r with h | ⟨s, h1, h2, h3⟩
      · exact .inl h
      · exact .inr ⟨s, by simp [h1], h2, h3⟩
/-- The least over walks of at most so many edges. -/
def B : Nat → Nat → Lab
  | 0, v => (ids v, 0)
  | k + 1, v => least (B k) v S
theorem B_le (k v : Nat) : ¬ lt (B S ids k v) (B S ids (k + 1) v) := least_le _ _ _
theorem B_le_of {j k : Nat} (h : j ≤ k) (v : Nat) : ¬ lt (B S ids j v) (B S ids k v) := by
  induction k with
  | zero => obtain rfl : j = 0 := by omega
            exact lt_irrefl _
  | succ k ih =>
    rcases Nat.lt_or_eq_of_le h with h | rfl
    · exact le_trans (B_le S ids k v) (ih (by omega))
    · exact lt_irrefl _
variable {S ids}
variable {n : Nat} (hS : ∀ s ∈ S, s.me < n ∧ s.you < n ∧ 0 < s.c)
include hS
theorem chain : ∀ (k v : Nat), v < n → lt (B S ids (k + 1) v) (B S ids k v) → ∃ l : List Nat, l.length = k + 1 ∧ l.Nodup ∧ ∀ w ∈ l, w < n ∧ ∃ j, j ≤ k ∧ lt (B S ids j w) (B S ids (k + 1) v)
  | 0, v, hv, h => by
    rcases least_is (B S ids 0) v S with e | ⟨s, h1, h2, h3⟩
    · exact absurd h (by show ¬ lt (least _ v S) _; rw [e]; exact lt_irrefl _)
    · refine ⟨[s.you], rfl, by simp, fun w hw => ?_⟩
      obtain rfl : w = s.you := by simpa using hw
      refine ⟨(hS s h1).2.1, 0, Nat.le_refl _, ?_⟩
      show lt _ (least _ v S)
      rw [h3]
      exact way_more (hS s h1).2.2
  | k + 1, v, hv, h => by
    rcases least_is (B S ids (k + 1)) v S with e | ⟨s, h1, h2, h3⟩
    · exact absurd h (by show ¬ lt (least _ v S) _; rw [e]; exact lt_irrefl _)
    · have hu := (hS s h1).2.1
      have e2 : B S ids (k + 2) v = way (B S ids (k + 1)) s := h3
      have hlt : lt (B S ids (k + 1) s.you) (B S ids k s.you) := by
        refine Classical.byContradiction fun hn => ?_
        have m := way_mono (L := B S ids k) (M := B S ids (k + 1)) (s := s) hn
        have l := least_side (B S ids k) v S s h1 h2
        have : ¬ lt (B S ids (k + 2) v) (B S ids (k + 1) v) := by
          rw [e2]
          exact le_trans (b := way (B S ids k) s) l m
        exact this h
      obtain ⟨l, hl, hd, hw⟩ := chain k s.you hu hlt
      have h4 : lt (B S ids (k + 1) s.you) (B S ids (k + 2) v) := by rw [e2]; exact way_more (hS s h1).2.2
      refine ⟨s.you :: l, by simp [hl], ?_, ?_⟩
      · rw [List.nodup_cons]
        refine ⟨fun hin => ?_, hd⟩
        obtain ⟨_, j, hj, hjl⟩ := hw _ hin
        exact B_le_of S ids hj s.you (lt_trans hjl hlt)
      · intro w hin
        rcases List.mem_cons.1 hin with rfl | hin
        · exact ⟨hu, k + 1, Nat.le_refl _, h4⟩
        · obtain ⟨q1, j, hj, hjl⟩ := hw _ hin
          exact ⟨q1, j, by omega, lt_trans hjl h4⟩
omit hS in
theorem nodup_le : ∀ (n : Nat) (l : List Nat), l.Nodup → (∀ w ∈ l, w < n) → l.length ≤ n
  | 0, l, _, h => by
    cases l with
    | nil => simp
    | cons a l => exact absurd (h a (by simp)) (by omega)
  | n + 1, l, hd, h => by
    have h1 : (l.filter (fun w => decide (w ≠ n))).length ≤ n := nodup_le n _ (hd.filter _) fun w hw => by
      have := List.mem_filter.1 hw
      have h2 := h w this.1
      have h3 : w ≠ n := by simpa using this.2
      omega
    have h2 : (l.filter (fun w => decide (w = n))).length ≤ 1 := by
      have hd2 := hd.filter (fun w => decide (w = n))
      have ha : ∀ w ∈ l.filter (fun w => decide (w = n)), w = n := fun w hw => by simpa using (List.mem_filter.1 hw).2
      generalize l.filter (fun w => decide (w = n)) = m at hd2 ha
      match m with
      | [] => simp
      | [_] => simp
      | a :: b :: r =>
        have h1 := ha a (by simp)
        have h2 := ha b (by simp)
        exact absurd (h1.trans h2.symm) ((List.pairwise_cons.1 hd2).1 b (by simp))
    have h3 : l.length = (l.filter (fun w => decide (w = n))).length + (l.filter (fun w => decide (w ≠ n))).length := by
      clear h1 h2 hd h
      induction l with
      | nil => rfl
      | cons a l ih =>
        by_cases ha : a = n <;> simp [ha] at ih ⊢ <;> omega
    omega
/-- After as many rounds as there are nodes nothing gets less. -/
theorem B_fix (v : Nat) (hv : v < n) {k : Nat} (hk : n ≤ k + 1) : B S ids (k + 1) v = B S ids k v := by
  by_cases h : lt (B S ids (k + 1) v) (B S ids k v)
  · exfalso
    obtain ⟨l, hl, hd, hw⟩ := chain hS k v hv h
    have : v ∉ l := fun hin => by
      obtain ⟨_, j, hj, hjl⟩ := hw _ hin
      exact B_le_of S ids hj v (lt_trans hjl h)
    have h2 := nodup_le n (v :: l) (by rw [List.nodup_cons]; exact ⟨this, hd⟩) (fun w hin => by
      rcases List.mem_cons.1 hin with rfl | hin
      · exact hv
      · exact (hw w hin).1)
    simp only [List.length_cons, hl] at h2
    omega
  · exact eq_of (B_le S ids k v) h |>.symm ▸ rfl
/-- The end: no side tells anything less. -/
theorem F_fix {s : Side} (hs : s ∈ S) {k : Nat} (hk : n ≤ k + 1) : ¬ lt (way (B S ids k) s) (B S ids k s.me) := by
  have h := least_side (B S ids k) s.me S s hs rfl
  have e := B_fix hS (ids := ids) s.me (hS s hs).1 hk
  rw [show least (B S ids k) s.me S = B S ids k s.me from e] at h
  exact h
/-- What nothing improves, and lies not above the start, lies not above. -/
theorem le_B {L : Nat → Lab} (h0 : ∀ v, v < n → ¬ lt (ids v, 0) (L v)) (hL : ∀ s ∈ S, ¬ lt (way L s) (L s.me)) : ∀ (k v : Nat), v < n → ¬ lt (B S ids k v) (L v)
  | 0, v, hv => h0 v hv
  | k + 1, v, hv => by
    rcases least_is (B S ids k) v S with e | ⟨s, h1, h2, h3⟩
    · show ¬ lt (least _ v S) _
      rw [e]
      exact le_B h0 hL k v hv
    · show ¬ lt (least _ v S) _
      rw [h3]
      have a := le_B h0 hL k s.you (hS s h1).2.1
      have m := way_mono (L := L) (M := B S ids k) (s := s) a
      have b := hL s h1
      rw [h2] at b
      exact le_trans b m
end
/-! ### Labels in a row, improved one by one -/
def upd (L : Nat → Lab) (v : Nat) (x : Lab) : Nat → Lab := fun w => if w = v then x else L w
def relax (L : Nat → Lab) (s : Side) : Nat → Lab := if lt (way L s) (L s.me) then upd L s.me (way L s) else L
theorem relax_le (L : Nat → Lab) (s : Side) (v : Nat) : ¬ lt (L v) (relax L s v) := by
  unfold relax
  split
  · rename_i h
    unfold upd
    split
    · rename_i e
      subst e
      intro k
      exact lt_irrefl _ (lt_trans h k)
    · exact lt_irrefl _
  · exact lt_irrefl _
theorem relax_side (L : Nat → Lab) (s : Side) : ¬ lt (way L s) (relax L s s.me) := by
  unfold relax
  split
  · simp only [upd, ↓reduceIte]
    exact lt_irrefl _
  · assumption
/-- What is no more than a fixpoint stays so. -/
theorem relax_ge {F L : Nat → Lab} {s : Side} (hF : ¬ lt (way F s) (F s.me)) (h : ∀ v, ¬ lt (L v) (F v)) (v : Nat) : ¬ lt (relax L s v) (F v) := by
  unfold relax
  split
  · unfold upd
    split
    · rename_i e
      subst e
      exact le_trans hF (way_mono (h s.you))
    · exact h v
  · exact h v
def rounds (L : Nat → Lab) : List Side → Nat → Lab
  | [] => L
  | s :: r => rounds (relax L s) r
theorem rounds_le : ∀ (T : List Side) (L : Nat → Lab) (v : Nat), ¬ lt (L v) (rounds L T v)
  | [], L, v => lt_irrefl _
  | s :: r, L, v => le_trans (rounds_le r (relax L s) v) (relax_le L s v)
theorem rounds_side {M : Nat → Lab} : ∀ (T : List Side) (L : Nat → Lab), (∀ v, ¬ lt (M v) (L v)) → ∀ s ∈ T, ¬ lt (way M s) (rounds L T s.me)
  | t :: r, L, h, s, hs => by
    rcases List.mem_cons.1 hs with rfl | hs
    · have a := relax_side L s
      have b := way_mono (s := s) (h s.you)
      exact le_trans (rounds_le r (relax L s) s.me) (le_trans a b)
    · exact rounds_side r (relax L t) (fun v => le_trans (relax_le L t v) (h v)) s hs
/-- A round comes at least as far as one more edge. -/
theorem rounds_B {S : List Side} {ids : Nat → Int} {k : Nat} {L : Nat → Lab} (h : ∀ v, ¬ lt (B S ids k v) (L v)) (v : Nat) : ¬ lt (B S ids (k + 1) v) (rounds L S v) := by
  rcases least_is (B S ids k) v S with e | ⟨s, h1, h2, h3⟩
  · show ¬ lt (least _ v S) _
    rw [e]
    exact le_trans (rounds_le S L v) (h v)
  · show ¬ lt (least _ v S) _
    rw [h3]
    subst h2
    exact rounds_side S L h s h1
/-! ### How great a cost may become -/
/-- How many of the first places lie below. -/
def below (L : Nat → Lab) (x : Lab) : Nat → Nat
  | 0 => 0
  | n + 1 => below L x n + if lt (L n) x then 1 else 0
theorem below_le (L : Nat → Lab) (x : Lab) : ∀ n, below L x n ≤ n
  | 0 => Nat.le_refl _
  | n + 1 => by
    have := below_le L x n
    unfold below
    split <;> omega
theorem below_mono {L M : Nat → Lab} {x y : Lab} (h : ∀ v, lt (L v) x → lt (M v) y) : ∀ n, below L x n ≤ below M y n
  | 0 => Nat.le_refl _
  | n + 1 => by
    have := below_mono h n
    unfold below
    by_cases c : lt (L n) x
    · rw [if_pos c, if_pos (h n c)]; omega
    · rw [if_neg c]; split <;> omega
theorem below_lt {L M : Nat → Lab} {x y : Lab} (h : ∀ v, lt (L v) x → lt (M v) y) (u : Nat) (h1 : ¬ lt (L u) x) (h2 : lt (M u) y) : ∀ n, u < n → below L x n < below M y n
  | n + 1, hn => by
    have hm := below_mono h n
    unfold below
    rcases Nat.lt_or_eq_of_le (Nat.le_of_lt_succ hn) with hu | rfl
    · have := below_lt h u h1 h2 n hu
      by_cases c : lt (L n) x
      · rw [if_pos c, if_pos (h n c)]; omega
      · rw [if_neg c]; split <;> omega
    · rw [if_neg h1, if_pos h2]; omega
theorem below_self (L : Nat → Lab) (v : Nat) : ∀ n, v < n → below L (L v) n < n
  | n + 1, hn => by
    unfold below
    rcases Nat.lt_or_eq_of_le (Nat.le_of_lt_succ hn) with hu | rfl
    · have := below_self L v n hu
      split <;> omega
    · rw [if_neg (lt_irrefl _)]
      have := below_le L (L v) v
      omega
def Small (m : Int) (n : Nat) (L : Nat → Lab) : Prop := ∀ v, v < n → 0 ≤ (L v).2 ∧ (L v).2 ≤ m * below L (L v) n
theorem Small.relax {m : Int} {n : Nat} {L : Nat → Lab} {s : Side} (h : Small m n L) (hm : s.me < n) (hy : s.you < n) (hc : 0 < s.c ∧ s.c ≤ m) : Small m n (relax L s) := by
  unfold Span.relax
  split
  · rename_i hlt
    have hsub : ∀ (x : Lab) v, lt (L v) x → lt (upd L s.me (way L s) v) x := fun x v hv => by
      unfold upd
      split
      · rename_i e; subst e; exact lt_trans hlt hv
      · exact hv
    intro v hv
    by_cases hvm : v = s.me
    · subst hvm
      have e : upd L s.me (way L s) s.me = way L s := by simp [upd]
      rw [e]
      have hu := h s.you hy
      have hb : below L (L s.you) n < below (upd L s.me (way L s)) (way L s) n := by
        refine below_lt (fun w hw => hsub _ w (lt_trans hw (way_more hc.1))) s.you (lt_irrefl _) (hsub _ _ (way_more hc.1)) n hy
      have e2 : (way L s).2 = (L s.you).2 + s.c := rfl
      have h3 : m * ((below L (L s.you) n : Nat) + 1 : Int) ≤ m * (below (upd L s.me (way L s)) (way L s) n : Nat) := Int.mul_le_mul_of_nonneg_left (by omega) (by omega)
      rw [Int.mul_add, Int.mul_one] at h3
      omega
    · have e : upd L s.me (way L s) v = L v := by simp [upd, hvm]
      rw [e]
      have h1 := h v hv
      have hb := below_mono (hsub (L v)) n
      have h3 : m * ((below L (L v) n : Nat) : Int) ≤ m * (below (upd L s.me (way L s)) (L v) n : Nat) := Int.mul_le_mul_of_nonneg_left (by omega) (by omega)
      omega
  · exact h
theorem Small.bound {m : Int} {n : Nat} {L : Nat → Lab} (h : Small m n L) (hm : 0 ≤ m) {v : Nat} (hv : v < n) : 0 ≤ (L v).2 ∧ (L v).2 ≤ m * (n - 1 : Nat) := by
  have h1 := h v hv
  have hb := below_self L v n hv
  have h3 : m * ((below L (L v) n : Nat) : Int) ≤ m * ((n - 1 : Nat) : Int) := Int.mul_le_mul_of_nonneg_left (by omega) hm
  exact ⟨h1.1, by omega⟩
end Go.Vc.Span
