/- Operations whose order is open: any order comes to what the text's order says. -/
import Derived.Test.YtgcakbnkeiajeaaVcDrawA
import Derived.Orders
set_option linter.unusedVariables false
set_option linter.unusedSimpArgs false
namespace Go.Vc


/-! ### The check -/
def maskOf (ms : List Nat) : List Edge → Nat
  | [] => 0
  | e :: r => (bif Region.binds .any e then (1 <<< e.on) ||| ms.getD e.on 0 else 0) ||| maskOf ms r
def masksGo : List Oper → List Nat → List Nat
  | [], ms => ms
  | o :: r, ms => masksGo r (ms ++ [maskOf ms o.after.toList])
def backOK (o : Oper) (i : Nat) : Bool := o.after.toList.all fun e => !(Region.binds .any e) || Nat.blt e.on i
def arT : Ar → List Nat
  | .t n => [n]
  | .k _ => []
def readsOf (g : GD) : List Nat := (match g.1 with | some (t, _) => [t] | none => []) ++ g.2.ars.flatMap arT
def readGo (mask t : Nat) : List GD → Nat → Bool
  | [], _ => true
  | g :: r, k => (match g.2.dst with | some d => !(Nat.beq d t) || Nat.testBit mask k | none => true) && readGo mask t r (k + 1)
def dstIn (d : Nat) : List GD → Bool
  | [] => false
  | g :: r => (match g.2.dst with | some d' => Nat.beq d d' | none => false) || dstIn d r
def dstsOK : List GD → Bool
  | [] => true
  | g :: r => (match g.2.dst with | some d => !(dstIn d r) | none => true) && dstsOK r
/-- What is told to lie before does. -/
def preOK (ms : List Nat) (pre : List (List Nat)) : Nat → Nat → Bool
  | 0, _ => true
  | k + 1, i => (pre.getD i []).all (fun j => Nat.testBit (ms.getD i 0) j) && preOK ms pre k (i + 1)
/-- The open part, one by one. -/
def parOK (P : Program) (nt : Nat) (ops : Array Oper) (ms : List Nat) (all : List GD) : List Oper → List GD → Nat → Bool
  | _, [], _ => true
  | [], _ :: _, _ => false
  | o :: r, g :: s, i => guardOK ops o g.1 && oOK P nt o g.2 && Nat.beq (ms.getD i 0) (maskOf ms o.after.toList) && backOK o i && (readsOf g).all (fun t => readGo (ms.getD i 0) t all 0) && parOK P nt ops ms all r s (i + 1)
def onPrev (o : Oper) (i : Nat) : Bool := o.after.toList.any fun e => Region.binds .any e && Nat.beq (e.on + 1) i
/-- The rest, each behind the one before. -/
def tailOK : List Oper → Nat → Bool
  | [], _ => true
  | o :: r, i => backOK o i && onPrev o i && tailOK r (i + 1)
def drawOK (P : Program) (nt n : Nat) (ops : Array Oper) (pre : List (List Nat)) (par : List GD) (tail : List GD) : Bool :=
  let m := par.length
  let ms := masksGo ops.toList []
  parOK P nt ops ms par ops.toList par 0 && dstsOK par && preOK ms pre m 0 && opsOK P nt ops (ops.toList.drop m) tail &&
  (match ops.toList.drop m with
   | [] => true
   | o :: r => backOK o m && Nat.beq (Nat.land (maskOf ms o.after.toList) (2 ^ m - 1)) (2 ^ m - 1) && tailOK r (m + 1))

section
variable {P : Program} {nt n : Nat} {ops : Array Oper} {par : List GD} {ms : List Nat}

theorem maskOf_spec : ∀ (es : List Edge) (k : Nat), Nat.testBit (maskOf ms es) k = true → ∃ e ∈ es, Region.binds .any e = true ∧ (k = e.on ∨ Nat.testBit (ms.getD e.on 0) k = true)
  | [], k, h => by simp [maskOf] at h
  | e :: r, k, h => by
    simp only [maskOf, Nat.testBit_or, Bool.or_eq_true] at h
    rcases h with h | h
    · cases hb : Region.binds .any e with
      | false => rw [hb] at h; simp at h
      | true =>
        rw [hb] at h
        simp only [cond_true, Nat.testBit_or, Bool.or_eq_true] at h
        refine ⟨e, by simp, hb, ?_⟩
        rcases h with h | h
        · left
          rw [Nat.testBit_shiftLeft] at h
          simp only [Bool.and_eq_true, decide_eq_true_eq] at h
          obtain ⟨h1, h2⟩ := h
          have : k - e.on = 0 := by
            rcases Nat.eq_zero_or_pos (k - e.on) with h3 | h3
            · exact h3
            · obtain ⟨j, hj⟩ : ∃ j, k - e.on = j + 1 := ⟨k - e.on - 1, by omega⟩
              rw [hj, Nat.testBit_succ] at h2
              simp at h2
          omega
        · exact .inr h
    · obtain ⟨e', h1, h2⟩ := maskOf_spec r k h
      exact ⟨e', by simp [h1], h2⟩

theorem backOK_spec {o : Oper} {i : Nat} (h : backOK o i = true) : ∀ e ∈ o.after, Region.binds .any e = true → e.on < i := fun e he hb => by
  have := (List.all_eq_true.1 h) e (by simpa using he)
  rw [hb] at this
  simpa using this

theorem parOK_get : ∀ (l : List Oper) (s : List GD) (k : Nat), parOK P nt ops ms par l s k = true → ∀ i g, s[i]? = some g → ∃ o, l[i]? = some o ∧ guardOK ops o g.1 = true ∧ oOK P nt o g.2 = true ∧ ms.getD (k + i) 0 = maskOf ms o.after.toList ∧ backOK o (k + i) = true ∧
    ∀ t ∈ readsOf g, readGo (ms.getD (k + i) 0) t par 0 = true
  | _, [], _, _, i, g, h => by simp at h
  | [], _ :: _, _, h, _, _, _ => by simp [parOK] at h
  | o :: r, g :: s, k, h, 0, g', hg => by
    simp only [parOK, Bool.and_eq_true] at h
    simp at hg
    subst hg
    obtain ⟨⟨⟨⟨⟨h1, h2⟩, h3⟩, h4⟩, h5⟩, _⟩ := h
    exact ⟨o, rfl, h1, h2, Nat.eq_of_beq_eq_true h3, h4, fun t ht => (List.all_eq_true.1 h5) t ht⟩
  | o :: r, g :: s, k, h, i + 1, g', hg => by
    simp only [parOK, Bool.and_eq_true] at h
    obtain ⟨o', h1, h2⟩ := parOK_get r s (k + 1) h.2 i g' (by simpa using hg)
    rw [show k + (i + 1) = k + 1 + i by omega]
    exact ⟨o', by simpa using h1, h2⟩

theorem readGo_spec {mask t : Nat} : ∀ (l : List GD) (k : Nat), readGo mask t l k = true → ∀ (i : Nat) (g : GD), l[i]? = some g → g.2.dst = some t → Nat.testBit mask (k + i) = true
  | [], _, _, _, _, h, _ => by simp at h
  | g :: r, k, h, 0, g', hg, hd => by
    simp at hg
    subst hg
    simp only [readGo, hd, Bool.and_eq_true] at h
    simpa using h.1
  | g :: r, k, h, i + 1, g', hg, hd => by
    simp only [readGo, Bool.and_eq_true] at h
    have := readGo_spec r (k + 1) h.2 i g' (by simpa using hg) hd
    rwa [show k + (i + 1) = k + 1 + i by omega]

theorem dstIn_spec {d : Nat} : ∀ (l : List GD), dstIn d l = false → ∀ (i : Nat) (g : GD), l[i]? = some g → g.2.dst ≠ some d
  | [], _, _, _, h => by simp at h
  | g :: r, h, 0, g', hg => by
    simp at hg
    subst hg
    simp only [dstIn, Bool.or_eq_false_iff] at h
    intro hd
    rw [hd] at h
    simp at h
  | g :: r, h, i + 1, g', hg => by
    simp only [dstIn, Bool.or_eq_false_iff] at h
    exact dstIn_spec r h.2 i g' (by simpa using hg)
theorem dstsOK_spec : ∀ (l : List GD), dstsOK l = true → ∀ (i j : Nat) (g g' : GD) (d : Nat), l[i]? = some g → l[j]? = some g' → g.2.dst = some d → g'.2.dst = some d → i = j
  | [], _, _, _, _, _, _, h, _, _, _ => by simp at h
  | x :: r, h, 0, 0, g, g', d, _, _, _, _ => rfl
  | x :: r, h, 0, j + 1, g, g', d, hi, hj, hd, hd' => by
    simp at hi
    subst hi
    simp only [dstsOK, hd, Bool.and_eq_true] at h
    exact absurd hd' (dstIn_spec r (by simpa using h.1) j g' (by simpa using hj))
  | x :: r, h, i + 1, 0, g, g', d, hi, hj, hd, hd' => by
    simp at hj
    subst hj
    simp only [dstsOK, hd', Bool.and_eq_true] at h
    exact absurd hd (dstIn_spec r (by simpa using h.1) i g (by simpa using hi))
  | x :: r, h, i + 1, j + 1, g, g', d, hi, hj, hd, hd' => by
    simp only [dstsOK, Bool.and_eq_true] at h
    have := dstsOK_spec r h.2 i j g g' d (by simpa using hi) (by simpa using hj) hd hd'
    omega

theorem preOK_spec {pre : List (List Nat)} : ∀ (k i : Nat), preOK ms pre k i = true → ∀ j, i ≤ j → j < i + k → ∀ x ∈ pre.getD j [], Nat.testBit (ms.getD j 0) x = true
  | 0, i, _, j, h1, h2, _, _ => by omega
  | k + 1, i, h, j, h1, h2, x, hx => by
    simp only [preOK, Bool.and_eq_true] at h
    by_cases hij : j = i
    · subst hij
      exact (List.all_eq_true.1 h.1) x hx
    · exact preOK_spec k (i + 1) h.2 j (by omega) (by omega) x hx
theorem inN_spec {x : Nat} : ∀ {l : List Nat}, inN x l = true ↔ x ∈ l
  | [] => by simp [inN]
  | y :: r => by
    simp only [inN, Bool.or_eq_true, List.mem_cons]
    rw [inN_spec (l := r)]
    constructor
    · rintro (h | h)
      · exact .inl (Nat.eq_of_beq_eq_true h)
      · exact .inr h
    · rintro (h | h)
      · subst h; exact .inl (Nat.beq_refl x)
      · exact .inr h
theorem meets_spec : ∀ {xs ys : List Nat}, meets xs ys = true ↔ ∃ x, x ∈ xs ∧ x ∈ ys
  | [], ys => by simp [meets]
  | x :: r, ys => by
    simp only [meets, Bool.or_eq_true]
    rw [inN_spec, meets_spec (xs := r)]
    constructor
    · rintro (h | ⟨y, h1, h2⟩)
      · exact ⟨x, by simp, h⟩
      · exact ⟨y, by simp [h1], h2⟩
    · rintro ⟨y, h1, h2⟩
      rcases List.mem_cons.1 h1 with rfl | h1
      · exact .inl h2
      · exact .inr ⟨y, h1, h2⟩

/-! ### What operations came to -/
/-- A value, the blocks written, the blocks read. -/
abbrev Outs := Nat → AV × List (Nat × Blk) × List Nat
def Outs.w (outs : Outs) (i id : Nat) : Prop := lastW (outs i).2.1 id ≠ none
def Outs.r (outs : Outs) (i id : Nat) : Prop := id ∈ (outs i).2.2
def Outs.conf (outs : Outs) (i j : Nat) : Prop := ∃ id, (outs.w i id ∧ (outs.w j id ∨ outs.r j id)) ∨ (outs.r i id ∧ outs.w j id)

/-! ### What holds when some of the operations are done -/
structure Inv (par : List GD) (outs : Outs) (env0 : Env) (H00 : Heap) (L : Nat → Prop) (env : Env) (H : Heap) : Prop where
  a1 : ∀ i g, par[i]? = some g → L i → ∀ d, g.2.dst = some d → get env d = (outs i).1
  a2 : ∀ t, (∀ i g, par[i]? = some g → L i → g.2.dst ≠ some t) → get env t = get env0 t
  b1 : H.length = H00.length
  b2 : ∀ i g, par[i]? = some g → L i → ∀ id b, lastW (outs i).2.1 id = some b → (∀ j g', par[j]? = some g' → L j → i < j → lastW (outs j).2.1 id = none) → H[id]? = if id < H00.length then some b else none
  b3 : ∀ id, (∀ i g, par[i]? = some g → L i → lastW (outs i).2.1 id = none) → H[id]? = H00[id]?

theorem get_put (e : Env) (d t : Nat) (v : AV) : get (put e d v) t = if d = t then v else get e t := by
  simp only [put, get]
  cases h : Nat.beq d t with
  | true => rw [if_pos (Nat.eq_of_beq_eq_true h)]; rfl
  | false => rw [if_neg (fun e => by subst e; simp at h)]; rfl
theorem get_putO (e : Env) (d : Option Nat) (t : Nat) (v : AV) : get (putO e d v) t = if d = some t then v else get e t := by
  cases d with
  | none => simp [putO]
  | some d => simp only [putO, get_put, Option.some.injEq]

variable {outs : Outs} {env0 : Env} {H00 : Heap} {L : Nat → Prop} {env : Env} {H : Heap}

theorem inv_add (hd : dstsOK par = true) (hI : Inv par outs env0 H00 L env H) {i : Nat} {g : GD} (hg : par[i]? = some g) (hL : ¬ L i)
    (hord : ∀ j g', par[j]? = some g' → L j → i < j → ∀ id, lastW (outs i).2.1 id ≠ none → lastW (outs j).2.1 id = none)
    (L' : Nat → Prop) (hL' : ∀ j, L' j ↔ L j ∨ j = i) : Inv par outs env0 H00 L' (putO env g.2.dst (outs i).1) (setAll H (outs i).2.1) := by
  refine ⟨fun j g' hg' hj d hdst => ?_, fun t ht => ?_, ?_, fun j g' hg' hj id b hb hlast => ?_, fun id hid => ?_⟩
  · rw [get_putO]
    rcases (hL' j).1 hj with hj | rfl
    · have hne : ¬ g.2.dst = some d := fun e => by
        have := dstsOK_spec par hd i j g g' d hg hg' e hdst
        subst this
        exact hL hj
      rw [if_neg hne]
      exact hI.a1 j g' hg' hj d hdst
    · rw [hg] at hg'
      injection hg' with hg'
      subst hg'
      rw [if_pos hdst]
  · rw [get_putO, if_neg (ht i g hg ((hL' i).2 (.inr rfl)))]
    exact hI.a2 t fun j g' hg' hj => ht j g' hg' ((hL' j).2 (.inl hj))
  · rw [setAll_length]; exact hI.b1
  · rw [setAll_get]
    rcases (hL' j).1 hj with hj1 | rfl
    · have hni : lastW (outs i).2.1 id = none := by
        rcases Nat.lt_trichotomy i j with h | h | h
        · by_cases hx : lastW (outs i).2.1 id = none
          · exact hx
          · have := hord j g' hg' hj1 h id hx
            rw [this] at hb; cases hb
        · subst h; exact absurd hj1 hL
        · exact hlast i g hg ((hL' i).2 (.inr rfl)) h
      rw [hni]
      exact hI.b2 j g' hg' hj1 id b hb fun k g'' hg'' hk hjk => hlast k g'' hg'' ((hL' k).2 (.inl hk)) hjk
    · rw [hg] at hg'
      injection hg' with hg'
      subst hg'
      rw [hb, hI.b1]
  · rw [setAll_get, hid i g hg ((hL' i).2 (.inr rfl))]
    exact hI.b3 id fun k g' hg' hk => hid k g' hg' ((hL' k).2 (.inl hk))

/-- The last of those that did a thing. -/
theorem last_of {p : Nat → Prop} : ∀ n, (∃ i, i < n ∧ p i) → ∃ i, i < n ∧ p i ∧ ∀ j, j < n → i < j → ¬ p j
  | 0, h => by obtain ⟨i, h, _⟩ := h; omega
  | n + 1, h => by
    by_cases hn : p n
    · exact ⟨n, by omega, hn, fun j h1 h2 => by omega⟩
    · obtain ⟨i, h1, h2⟩ := h
      have hi : i ≠ n := fun e => hn (e ▸ h2)
      obtain ⟨i', g1, g2, g3⟩ := last_of n ⟨i, by omega, h2⟩
      exact ⟨i', by omega, g2, fun j k1 k2 => by
        by_cases hj : j = n
        · subst hj; exact hn
        · exact g3 j (by omega) k2⟩

theorem par_lt {i : Nat} {g : GD} (h : par[i]? = some g) : i < par.length := by
  rcases Nat.lt_or_ge i par.length with h' | h'
  · exact h'
  · rw [List.getElem?_eq_none h'] at h; cases h

/-- A block looks the same to two, if the same ones wrote it. -/
theorem inv_blk (hI : Inv par outs env0 H00 L env H) {L' : Nat → Prop} {env' : Env} {H' : Heap} (hI' : Inv par outs env0 H00 L' env' H') {id : Nat} (hL : ∀ i g, par[i]? = some g → lastW (outs i).2.1 id ≠ none → (L i ↔ L' i)) : H[id]? = H'[id]? := by
  by_cases h : ∃ i, i < par.length ∧ (L i ∧ lastW (outs i).2.1 id ≠ none)
  · obtain ⟨i, h1, ⟨h2, h3⟩, h4⟩ := last_of _ h
    have hg := List.getElem?_eq_getElem h1
    obtain ⟨b, hb⟩ := Option.ne_none_iff_exists'.1 h3
    rw [hI.b2 i _ hg h2 id b hb fun j g' hg' hj hij => by
        by_cases hx : lastW (outs j).2.1 id = none
        · exact hx
        · exact absurd ⟨hj, hx⟩ (h4 j (par_lt hg') hij),
      hI'.b2 i _ hg ((hL i _ hg h3).1 h2) id b hb fun j g' hg' hj hij => by
        by_cases hx : lastW (outs j).2.1 id = none
        · exact hx
        · exact absurd ⟨(hL j g' hg' hx).2 hj, hx⟩ (h4 j (par_lt hg') hij)]
  · rw [hI.b3 id fun i g hg hi => by
        by_cases hx : lastW (outs i).2.1 id = none
        · exact hx
        · exact absurd ⟨i, par_lt hg, hi, hx⟩ h,
      hI'.b3 id fun i g hg hi => by
        by_cases hx : lastW (outs i).2.1 id = none
        · exact hx
        · exact absurd ⟨i, par_lt hg, (hL i g hg hx).2 hi, hx⟩ h]

/-- Two that have done the same are the same. -/
theorem inv_same (hI : Inv par outs env0 H00 L env H) {L' : Nat → Prop} {env' : Env} {H' : Heap} (hI' : Inv par outs env0 H00 L' env' H') (hL : ∀ i, i < par.length → (L i ↔ L' i)) : (∀ t, get env t = get env' t) ∧ H = H' := by
  constructor
  · intro t
    by_cases h : ∃ i g, par[i]? = some g ∧ L i ∧ g.2.dst = some t
    · obtain ⟨i, g, h1, h2, h3⟩ := h
      rw [hI.a1 i g h1 h2 t h3, hI'.a1 i g h1 ((hL i (par_lt h1)).1 h2) t h3]
    · rw [hI.a2 t fun i g h1 h2 h3 => h ⟨i, g, h1, h2, h3⟩, hI'.a2 t fun i g h1 h2 h3 => h ⟨i, g, h1, (hL i (par_lt h1)).2 h2, h3⟩]
  · apply List.ext_getElem?
    intro id
    exact inv_blk hI hI' fun i g hg _ => hL i (par_lt hg)
end
end Go.Vc
