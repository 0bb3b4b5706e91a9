/- A part of the proof of the seat's laws: PfSn25. It states no claim by itself. -/
import Derived.Test.YtpdcgjpkcjhbjaaPfSn21
import Derived.Test.YtpdcgjpkcjhbjaaPfSn23
set_option linter.unusedVariables false
set_option linter.unusedSimpArgs false
set_option linter.unusedSectionVars false
namespace Go.Vc.Seat
open Go.Vc Go.Proofs.Try

/-! ### What joining comes to -/
def unitS (es : List D) : List Span.Side := es.flatMap fun e => [⟨(fi e 0).toNat, (fi e 2).toNat, 1⟩, ⟨(fi e 2).toNat, (fi e 0).toNat, 1⟩]
/-- The least place to which edges lead. -/
def least0 (n : Nat) (es : List D) (v : Nat) : Int := (Span.B (unitS es) (fun v => (v : Int)) n v).1
theorem jS_le (L : Nat → Int) (e : D) (v : Nat) : jS L e v ≤ L v := by
  unfold jS jUpd
  by_cases h1 : v = (fi e 2).toNat
  · rw [if_pos h1, h1]; exact Int.min_le_right _ _
  · rw [if_neg h1]
    by_cases h2 : v = (fi e 0).toNat
    · rw [if_pos h2, h2]; exact Int.min_le_left _ _
    · rw [if_neg h2]; exact Int.le_refl _
theorem foldl_le : ∀ (es : List D) (L : Nat → Int) (v : Nat), es.foldl jS L v ≤ L v
  | [], L, v => Int.le_refl _
  | e :: r, L, v => Int.le_trans (foldl_le r (jS L e) v) (jS_le L e v)
theorem jR_le (es : List D) : ∀ (k v : Nat), jR es k v ≤ v
  | 0, v => Int.le_refl _
  | k + 1, v => Int.le_trans (foldl_le es (jR es k) v) (jR_le es k v)
theorem jS_edge (L : Nat → Int) (e : D) : jS L e (fi e 0).toNat ≤ L (fi e 2).toNat ∧ jS L e (fi e 2).toNat ≤ L (fi e 0).toNat := by
  unfold jS jUpd
  constructor
  · by_cases h1 : (fi e 0).toNat = (fi e 2).toNat
    · rw [if_pos h1]; exact Int.min_le_right _ _
    · rw [if_neg h1, if_pos rfl]; exact Int.min_le_right _ _
  · rw [if_pos rfl]; exact Int.min_le_left _ _
theorem foldl_edge {M : Nat → Int} : ∀ (es : List D) (L : Nat → Int), (∀ v, L v ≤ M v) → ∀ e ∈ es, es.foldl jS L (fi e 0).toNat ≤ M (fi e 2).toNat ∧ es.foldl jS L (fi e 2).toNat ≤ M (fi e 0).toNat
  | x :: r, L, h, e, he => by
    rcases List.mem_cons.1 he with rfl | he
    · have a := jS_edge L e
      exact ⟨Int.le_trans (foldl_le r _ _) (Int.le_trans a.1 (h _)), Int.le_trans (foldl_le r _ _) (Int.le_trans a.2 (h _))⟩
    · exact foldl_edge r (jS L x) (fun v => Int.le_trans (jS_le L x v) (h v)) e he
theorem jR_B (es : List D) : ∀ (k v : Nat), jR es k v ≤ (Span.B (unitS es) (fun v => (v : Int)) k v).1
  | 0, v => Int.le_refl _
  | k + 1, v => by
    rcases Span.least_is (Span.B (unitS es) (fun v => (v : Int)) k) v (unitS es) with h | ⟨s, h1, h2, h3⟩
    · rw [show Span.B (unitS es) (fun v => (v : Int)) (k + 1) v = _ from h]
      exact Int.le_trans (foldl_le es (jR es k) v) (jR_B es k v)
    · rw [show Span.B (unitS es) (fun v => (v : Int)) (k + 1) v = _ from h3]
      show es.foldl jS (jR es k) v ≤ (Span.B (unitS es) (fun v => (v : Int)) k s.you).1
      obtain ⟨e, he, hm⟩ := List.mem_flatMap.1 h1
      have a := foldl_edge es (jR es k) (fun v => Int.le_refl (jR es k v)) e he
      simp only [List.mem_cons, List.not_mem_nil, or_false] at hm
      rcases hm with rfl | rfl
      · subst h2
        exact Int.le_trans a.1 (jR_B es k _)
      · subst h2
        exact Int.le_trans a.2 (jR_B es k _)
theorem unit_in {n : Nat} {es : List D} (hj : jOK n es) : ∀ s ∈ unitS es, s.me < n ∧ s.you < n ∧ 0 < s.c := by
  intro s hs
  obtain ⟨e, he, hm⟩ := List.mem_flatMap.1 hs
  obtain ⟨i, hi, rfl⟩ := mem_at he
  have := hj.2.2 i hi
  simp only [List.mem_cons, List.not_mem_nil, or_false] at hm
  rcases hm with rfl | rfl
  · exact ⟨by show (fi _ 0).toNat < n; omega, by show (fi _ 2).toNat < n; omega, by show (0 : Int) < 1; decide⟩
  · exact ⟨by show (fi _ 2).toNat < n; omega, by show (fi _ 0).toNat < n; omega, by show (0 : Int) < 1; decide⟩
theorem jOK_mem {n : Nat} {es : List D} (hj : jOK n es) {e : D} (he : e ∈ es) : (fi e 0).toNat < n ∧ (fi e 2).toNat < n := by
  obtain ⟨i, hi, rfl⟩ := mem_at he
  have := hj.2.2 i hi
  omega
theorem least0_edge {n : Nat} {es : List D} (hj : jOK n es) {e : D} (he : e ∈ es) : least0 n es (fi e 0).toNat = least0 n es (fi e 2).toNat := by
  have h1 : (⟨(fi e 0).toNat, (fi e 2).toNat, 1⟩ : Span.Side) ∈ unitS es := List.mem_flatMap.2 ⟨e, he, by simp⟩
  have h2 : (⟨(fi e 2).toNat, (fi e 0).toNat, 1⟩ : Span.Side) ∈ unitS es := List.mem_flatMap.2 ⟨e, he, by simp⟩
  have f1 := Span.F_fix (unit_in hj) (ids := fun v => (v : Int)) h1 (k := n) (by omega)
  have f2 := Span.F_fix (unit_in hj) (ids := fun v => (v : Int)) h2 (k := n) (by omega)
  unfold Span.lt Span.way at f1 f2
  simp only at f1 f2
  unfold least0
  omega
theorem least0_le (n : Nat) (es : List D) (v : Nat) : least0 n es v ≤ v := by
  have := Span.B_le_of (unitS es) (fun v => (v : Int)) (Nat.zero_le n) v
  unfold Span.lt at this
  have e : Span.B (unitS es) (fun v => (v : Int)) 0 v = ((v : Int), 0) := rfl
  rw [e] at this
  unfold least0
  simp only at this
  omega
/-- After as many rounds as there are nodes each holds the least one to which edges lead. -/
theorem jR_is {n : Nat} {es : List D} (hj : jOK n es) {v : Nat} (hv : v < n) : jR es n v = least0 n es v := by
  have a := jR_B es n v
  have k := (jKeep_R (n := n) (G := least0 n es) (es := es) (fun e he => ⟨(jOK_mem hj he).1, (jOK_mem hj he).2, least0_edge hj he⟩) n v hv)
  have b := least0_le n es (jR es n v).toNat
  rw [k.2.2] at b
  have a' : jR es n v ≤ least0 n es v := a
  omega
theorem jR_edge {n : Nat} {es : List D} (hj : jOK n es) {e : D} (he : e ∈ es) : jR es n (fi e 0).toNat = jR es n (fi e 2).toNat := by
  rw [jR_is hj (jOK_mem hj he).1, jR_is hj (jOK_mem hj he).2, least0_edge hj he]
/-- Two sets of edges that join the same join alike. -/
theorem jR_same {n : Nat} {es C : List D} (hj : jOK n es) (hc : jOK n C) (h1 : ∀ e ∈ C, jR es n (fi e 0).toNat = jR es n (fi e 2).toNat) (h2 : ∀ e ∈ es, jR C n (fi e 0).toNat = jR C n (fi e 2).toNat) {v : Nat} (hv : v < n) : jR es n v = jR C n v := by
  have a := jKeep_R (n := n) (G := jR es n) (es := C) (fun e he => ⟨(jOK_mem hc he).1, (jOK_mem hc he).2, h1 e he⟩) n v hv
  have b := jKeep_R (n := n) (G := jR C n) (es := es) (fun e he => ⟨(jOK_mem hj he).1, (jOK_mem hj he).2, h2 e he⟩) n v hv
  have c := jR_le es n (jR C n v).toNat
  have d := jR_le C n (jR es n v).toNat
  rw [a.2.2] at c
  rw [b.2.2] at d
  omega
theorem jR_idem {n : Nat} {es : List D} (hj : jOK n es) {v : Nat} (hv : v < n) : 0 ≤ jR es n v ∧ jR es n v < n ∧ jR es n (jR es n v).toNat = jR es n v :=
  jKeep_R (n := n) (G := jR es n) (es := es) (fun e he => ⟨(jOK_mem hj he).1, (jOK_mem hj he).2, jR_edge hj he⟩) n v hv
/-! ### Counting -/
theorem len_le_of_nodup : ∀ (l m : List Nat), l.Nodup → (∀ x ∈ l, x ∈ m) → l.length ≤ m.length
  | [], m, _, _ => Nat.zero_le _
  | a :: r, m, hd, h => by
    have ha := h a (by simp)
    have hd' := List.nodup_cons.1 hd
    have := len_le_of_nodup r (m.erase a) hd'.2 fun x hx => (List.mem_erase_of_ne (fun e => hd'.1 (by rw [← e]; exact hx))).2 (h x (by simp [hx]))
    rw [List.length_erase_of_mem ha] at this
    have hp := List.length_pos_of_mem ha
    simp only [List.length_cons]
    omega
theorem cnt_succ (p : Nat → Bool) (n : Nat) : cnt p (n + 1) = cnt p n + (if p n = true then 1 else 0) := rfl
theorem cnt_filter (p : Nat → Bool) : ∀ n, cnt p n = ((List.range n).filter p).length
  | 0 => rfl
  | n + 1 => by
    rw [List.range_succ, List.filter_append, List.length_append, ← cnt_filter p n, cnt_succ]
    by_cases h : p n = true <;> simp [h]
theorem cnt_inj {p q : Nat → Bool} {n : Nat} (f : Nat → Nat) (h : ∀ i, i < n → p i = true → f i < n ∧ q (f i) = true) (hi : ∀ i j, i < n → j < n → p i = true → p j = true → f i = f j → i = j) : cnt p n ≤ cnt q n := by
  rw [cnt_filter, cnt_filter, ← List.length_map (f := f)]
  refine len_le_of_nodup _ _ ?_ fun x hx => ?_
  · rw [List.nodup_iff_pairwise_ne, List.pairwise_map]
    have hd : ((List.range n).filter p).Nodup := List.nodup_range.filter _
    rw [List.nodup_iff_pairwise_ne] at hd
    refine hd.imp_of_mem fun {a b} ha hb hab e => hab ?_
    have ha := List.mem_filter.1 ha
    have hb := List.mem_filter.1 hb
    exact hi a b (by simpa using ha.1) (by simpa using hb.1) ha.2 hb.2 e
  · obtain ⟨i, hi, rfl⟩ := List.mem_map.1 hx
    have hi := List.mem_filter.1 hi
    have := h i (by simpa using hi.1) hi.2
    exact List.mem_filter.2 ⟨by simpa using this.1, this.2⟩
theorem cnt_pairs {r c : Nat → Bool} : ∀ (n : Nat), (∀ i, i < n → ((if r (2 * i) = true then 1 else 0) + (if r (2 * i + 1) = true then 1 else 0) : Nat) = if c i = true then 1 else 0) → cnt r (2 * n) = cnt c n
  | 0, _ => rfl
  | n + 1, h => by
    have a := cnt_pairs n fun i hi => h i (by omega)
    have b := h n (by omega)
    rw [show 2 * (n + 1) = 2 * n + 1 + 1 by omega]
    rw [cnt_succ, cnt_succ, cnt_succ, a]
    omega
def sumN (f : Nat → Nat) : Nat → Nat
  | 0 => 0
  | n + 1 => sumN f n + f n
theorem sumN_add (f g : Nat → Nat) : ∀ n, sumN (fun v => f v + g v) n = sumN f n + sumN g n
  | 0 => rfl
  | n + 1 => by
    unfold sumN
    rw [sumN_add f g n]
    omega
theorem sumN_zero : ∀ n, sumN (fun _ => 0) n = 0
  | 0 => rfl
  | n + 1 => by unfold sumN; rw [sumN_zero n]
theorem sumN_one {f : Nat → Nat} {b : Nat} (hf : ∀ v, v ≠ b → f v = 0) : ∀ n, sumN f n = if b < n then f b else 0
  | 0 => rfl
  | n + 1 => by
    unfold sumN
    rw [sumN_one hf n]
    by_cases h1 : b < n
    · rw [if_pos h1, if_pos (by omega), hf n (by omega)]; rfl
    · rw [if_neg h1]
      by_cases h2 : b = n
      · subst h2; rw [if_pos (by omega)]; omega
      · rw [if_neg (by omega), hf n (by omega)]
theorem sumN_congr {f g : Nat → Nat} : ∀ n, (∀ v, v < n → f v = g v) → sumN f n = sumN g n
  | 0, _ => rfl
  | n + 1, h => by
    unfold sumN
    rw [sumN_congr n (fun v hv => h v (by omega)), h n (by omega)]
theorem sumN_not (p : Nat → Bool) : ∀ n, sumN (fun v => if p v = true then 0 else 1) n + cnt p n = n
  | 0 => rfl
  | n + 1 => by
    have := sumN_not p n
    rw [cnt_succ]
    unfold sumN
    split <;> omega
/-- Whatever stands at one place of many is counted there. -/
theorem cnt_sum {r : Nat → Bool} {q : Nat → Nat → Bool} {n : Nat} {b : Nat → Nat} : ∀ (K : Nat), (∀ k, k < K → b k < n ∧ ∀ v, q v k = (decide (b k = v) && r k)) → cnt r K = sumN (fun v => cnt (q v) K) n
  | 0, _ => (sumN_zero n).symm
  | K + 1, h => by
    have a := cnt_sum K fun k hk => h k (by omega)
    obtain ⟨h1, h2⟩ := h K (by omega)
    have e : (fun v => cnt (q v) (K + 1)) = fun v => cnt (q v) K + (if q v K = true then 1 else 0) := rfl
    rw [e, sumN_add, ← a]
    have e2 : sumN (fun v => if q v K = true then 1 else 0) n = if r K = true then 1 else 0 := by
      rw [sumN_one (b := b K) (fun v hv => by rw [h2 v]; simp [Ne.symm hv]), if_pos h1, h2]
      simp
    rw [e2]
    rfl
end Go.Vc.Seat
