/- Operations whose order is open: the region. -/
import Derived.Test.YtgcakbnkeiajeaaVcDrawB
set_option linter.unusedVariables false
set_option linter.unusedSimpArgs false
namespace Go.Vc

def cu (f : Nat → Bool) : Nat → Nat
  | 0 => 0
  | n + 1 => cu f n + (bif f n then 0 else 1)
theorem cu_set {f f' : Nat → Bool} {j : Nat} (h : f j = false) (h' : f' j = true) (ho : ∀ k, k ≠ j → f' k = f k) : ∀ n, (j < n → cu f' n + 1 = cu f n) ∧ (n ≤ j → cu f' n = cu f n)
  | 0 => ⟨fun h => by omega, fun _ => rfl⟩
  | n + 1 => by
    obtain ⟨h1, h2⟩ := cu_set h h' ho n
    constructor
    · intro hj
      simp only [cu]
      by_cases hn : n = j
      · subst hn
        rw [h, h', h2 (Nat.le_refl _)]
        rfl
      · rw [ho n hn]
        have := h1 (by omega)
        omega
    · intro hj
      simp only [cu]
      rw [h2 (by omega), ho n (by omega)]
theorem cu_zero {f : Nat → Bool} : ∀ n, cu f n = 0 → ∀ j, j < n → f j = true
  | 0, _, j, h => by omega
  | n + 1, h, j, hj => by
    simp only [cu] at h
    by_cases hn : j = n
    · subst hn
      cases hf : f j with
      | true => rfl
      | false => rw [hf] at h; simp at h
    · exact cu_zero n (by omega) j (by omega)

/-- What an operation came to, in the text's order. -/
def Done (orc : Orc) (base : Nat) (par : List GD) (env0 : Env) (H00 : Heap) (outs : Outs) (i : Nat) (g : GD) : Prop :=
  ∃ e h, Inv par outs env0 H00 (· < i) e h ∧
    match g.1 with
    | none => ∃ c, (oout orc base g.2 e h).res = .one c (outs i).1 (outs i).2.1 (outs i).2.2 ∧ c
    | some (t, want) => ∃ b, get e t = .bool b ∧ (b = want → ∃ c, (oout orc base g.2 e h).res = .one c (outs i).1 (outs i).2.1 (outs i).2.2 ∧ c) ∧ (b = (!want) → outs i = (.undef, [], []))

section
variable {P : Program} {nt n : Nat} {ops : Array Oper} {par : List GD} {ms : List Nat} {orc : Orc} {base : Nat} {env0 : Env} {H00 h0 : Heap} {pre : List (List Nat)}

theorem inv_congr {outs outs' : Outs} {L : Nat → Prop} {env : Env} {H : Heap} (hI : Inv par outs env0 H00 L env H) (h : ∀ i, L i → outs' i = outs i) : Inv par outs' env0 H00 L env H :=
  ⟨fun i g hg hi d hd => by rw [h i hi]; exact hI.a1 i g hg hi d hd, hI.a2, hI.b1, fun i g hg hi id b hb hl => by rw [h i hi] at hb; exact hI.b2 i g hg hi id b hb fun j g' hg' hj hij => by rw [← h j hj]; exact hl j g' hg' hj hij,
    fun id hid => hI.b3 id fun i g hg hi => by rw [← h i hi]; exact hid i g hg hi⟩
theorem inv_L {outs : Outs} {L L' : Nat → Prop} {env : Env} {H : Heap} (hI : Inv par outs env0 H00 L env H) (h : ∀ i, i < par.length → (L' i ↔ L i)) : Inv par outs env0 H00 L' env H :=
  ⟨fun i g hg hi d hd => hI.a1 i g hg ((h i (par_lt hg)).1 hi) d hd, fun t ht => hI.a2 t fun i g hg hi => ht i g hg ((h i (par_lt hg)).2 hi), hI.b1,
    fun i g hg hi id b hb hl => hI.b2 i g hg ((h i (par_lt hg)).1 hi) id b hb fun j g' hg' hj hij => hl j g' hg' ((h j (par_lt hg')).2 hj) hij, fun id hid => hI.b3 id fun i g hg hi => hid i g hg ((h i (par_lt hg)).2 hi)⟩
theorem done_congr {outs outs' : Outs} {i : Nat} {g : GD} (hD : Done orc base par env0 H00 outs i g) (h : ∀ j, j ≤ i → outs' j = outs j) : Done orc base par env0 H00 outs' i g := by
  obtain ⟨e, hh, h1, h2⟩ := hD
  have hi := h i (Nat.le_refl _)
  refine ⟨e, hh, inv_congr h1 fun j hj => h j (by omega), ?_⟩
  rw [hi]
  exact h2

theorem okFp_spec {ws rs pr : List Nat} : ∀ (acc : List Fp), okFp ws rs pr acc = true → ∀ i w r, (i, w, r) ∈ acc → (∃ id, (id ∈ w ∧ (id ∈ ws ∨ id ∈ rs)) ∨ (id ∈ r ∧ id ∈ ws)) → i ∈ pr
  | [], _, _, _, _, h, _ => by simp at h
  | (j, w', r') :: acc, h, i, w, r, hm, hx => by
    simp only [okFp, Bool.and_eq_true] at h
    rcases List.mem_cons.1 hm with he | hm
    · injection he with e1 e2
      injection e2 with e2 e3
      subst e1; subst e2; subst e3
      have h1 := h.1
      simp only [Bool.or_eq_true] at h1
      rcases h1 with h1 | h1
      · exfalso
        obtain ⟨id, h2⟩ := hx
        have : (meets w ws || meets w rs || meets r ws) = true := by
          simp only [Bool.or_eq_true]
          rcases h2 with ⟨h2, h3 | h3⟩ | ⟨h2, h3⟩
          · exact .inl (.inl (meets_spec.2 ⟨id, h2, h3⟩))
          · exact .inl (.inr (meets_spec.2 ⟨id, h2, h3⟩))
          · exact .inr (meets_spec.2 ⟨id, h2, h3⟩)
        rw [this] at h1
        cases h1
      · exact inN_spec.1 h1
    · exact okFp_spec acc h.2 i w r hm hx

theorem text_run (hd : dstsOK par = true) {K : Env → Heap → Prop} : ∀ (s : List GD) (k : Nat) (acc : List Fp) (outs : Outs) (env : Env) (H : Heap), (∀ j, s[j]? = par[k + j]?) →
    Inv par outs env0 H00 (· < k) env H → (∀ i g, par[i]? = some g → i < k → Done orc base par env0 H00 outs i g) →
    (∀ i, i < k → i < par.length → outs i = (.undef, [], []) ∨ (i, (outs i).2.1.map (·.1), (outs i).2.2) ∈ acc) → (∀ i j, i < j → j < k → j < par.length → outs.conf i j → i ∈ pre.getD j []) →
    awpDs orc base pre s k acc env H K →
    ∃ outs' : Outs, (∀ i g, par[i]? = some g → Done orc base par env0 H00 outs' i g) ∧ (∀ i j, i < j → j < par.length → outs'.conf i j → i ∈ pre.getD j []) ∧ ∃ env' H', Inv par outs' env0 H00 (fun _ => True) env' H' ∧ K env' H'
  | [], k, acc, outs, env, H, hs, hI, hD, hacc, hcf, hK => by
    have hle : ∀ i, i < par.length → i < k := fun i hi => by
      rcases Nat.lt_or_ge i k with h | h
      · exact h
      · have := hs (i - k)
        rw [show k + (i - k) = i by omega, List.getElem?_eq_getElem hi] at this
        simp at this
    exact ⟨outs, fun i g hg => hD i g hg (hle i (par_lt hg)), fun i j h1 h2 h3 => hcf i j h1 (hle j h2) h2 h3, env, H, inv_L hI fun i hi => ⟨fun _ => hle i hi, fun _ => trivial⟩, hK⟩
  | g :: s, k, acc, outs, env, H, hs, hI, hD, hacc, hcf, hK => by
    have hg : par[k]? = some g := by have := hs 0; simpa using this.symm
    have hs' : ∀ j, s[j]? = par[k + 1 + j]? := fun j => by have := hs (j + 1); rw [show k + 1 + j = k + (j + 1) by omega, ← this]; rfl
    have go : ∀ (x : AV × List (Nat × Blk) × List Nat) (acc' : List Fp), (x = (.undef, [], []) ∧ acc' = acc ∨ okFp (x.2.1.map (·.1)) x.2.2 (pre.getD k []) acc = true ∧ acc' = (k, x.2.1.map (·.1), x.2.2) :: acc) → (match g.1 with
        | none => ∃ c, (oout orc base g.2 env H).res = .one c x.1 x.2.1 x.2.2 ∧ c
        | some (t, want) => ∃ b, get env t = .bool b ∧ (b = want → ∃ c, (oout orc base g.2 env H).res = .one c x.1 x.2.1 x.2.2 ∧ c) ∧ (b = (!want) → x = (AV.undef, [], []))) →
        awpDs orc base pre s (k + 1) acc' (putO env g.2.dst x.1) (setAll H x.2.1) K →
        ∃ outs' : Outs, (∀ i g, par[i]? = some g → Done orc base par env0 H00 outs' i g) ∧ (∀ i j, i < j → j < par.length → outs'.conf i j → i ∈ pre.getD j []) ∧ ∃ env' H', Inv par outs' env0 H00 (fun _ => True) env' H' ∧ K env' H' := by
      intro x acc' hacc' hm hK
      let outs1 : Outs := fun j => if j = k then x else outs j
      have e1 : outs1 k = x := if_pos rfl
      have e2 : ∀ j, j < k → outs1 j = outs j := fun j hj => if_neg (by omega)
      have hI1 : Inv par outs1 env0 H00 (· < k) env H := inv_congr hI fun i hi => e2 i hi
      have hDk : Done orc base par env0 H00 outs1 k g := by
        refine ⟨env, H, hI1, ?_⟩
        rw [e1]
        exact hm
      have hD1 : ∀ i g, par[i]? = some g → i < k + 1 → Done orc base par env0 H00 outs1 i g := fun i g' hg' hi => by
        by_cases hik : i = k
        · subst hik
          rw [hg] at hg'
          injection hg' with hg'
          subst hg'
          exact hDk
        · exact done_congr (hD i g' hg' (by omega)) fun j hj => e2 j (by omega)
      have hI2 := inv_add hd hI1 hg (Nat.lt_irrefl k) (fun j g' hg' hj hkj => by omega) (· < k + 1) (fun j => by omega)
      rw [e1] at hI2
      refine text_run hd s (k + 1) acc' outs1 _ _ hs' hI2 hD1 (fun i hi hip => ?_) (fun i j hij hj hjp hcx => ?_) hK
      · by_cases hik : i = k
        · subst hik
          rw [e1]
          rcases hacc' with ⟨h1, _⟩ | ⟨_, h2⟩
          · exact .inl h1
          · right; rw [h2]; exact List.mem_cons_self
        · rw [e2 i (by omega)]
          rcases hacc i (by omega) hip with h | h
          · exact .inl h
          · right
            rcases hacc' with ⟨_, h2⟩ | ⟨_, h2⟩
            · rw [h2]; exact h
            · rw [h2]; exact List.mem_cons_of_mem _ h
      · by_cases hjk : j = k
        · subst hjk
          have hconf : ∃ id, (lastW (outs i).2.1 id ≠ none ∧ (lastW x.2.1 id ≠ none ∨ id ∈ x.2.2)) ∨ (id ∈ (outs i).2.2 ∧ lastW x.2.1 id ≠ none) := by
            obtain ⟨id, hc⟩ := hcx
            simp only [Outs.w, Outs.r, e1, e2 i hij] at hc
            exact ⟨id, hc⟩
          have nn : ∀ (ws : List (Nat × Blk)) (id : Nat), lastW ws id ≠ none → id ∈ ws.map (·.1) := fun ws id h => by
            by_cases hm : id ∈ ws.map (·.1)
            · exact hm
            · exact absurd ((lastW_none ws id).2 hm) h
          rcases hacc' with ⟨h1, _⟩ | ⟨h1, _⟩
          · obtain ⟨id, hc⟩ := hconf
            rw [h1] at hc
            simp [lastW] at hc
          · rcases hacc i hij (by have := par_lt hg; omega) with h | h
            · obtain ⟨id, hc⟩ := hconf
              rw [h] at hc
              simp [lastW] at hc
            · refine okFp_spec acc h1 i _ _ h ?_
              obtain ⟨id, hc⟩ := hconf
              refine ⟨id, ?_⟩
              rcases hc with ⟨q1, q2 | q2⟩ | ⟨q1, q2⟩
              · exact .inl ⟨nn _ _ q1, .inl (nn _ _ q2)⟩
              · exact .inl ⟨nn _ _ q1, .inr q2⟩
              · exact .inr ⟨q1, nn _ _ q2⟩
        · refine hcf i j hij (by omega) hjp ?_
          obtain ⟨id, hc⟩ := hcx
          simp only [Outs.w, Outs.r, e2 i (by omega), e2 j (by omega)] at hc
          exact ⟨id, hc⟩
    have one : ∀ {q : OT}, otK q (kds (awpDs orc base pre s (k + 1)) g.2.gens g.2.dst k (pre.getD k []) acc env H K) →
        ∃ c v ws rs, q.res = .one c v ws rs ∧ c ∧ okFp (ws.map (·.1)) rs (pre.getD k []) acc = true ∧ awpDs orc base pre s (k + 1) ((k, ws.map (·.1), rs) :: acc) (putO env g.2.dst v) (setAll H ws) K := by
      intro q hq
      have hq := (otK_iff _ _).1 hq
      cases hr : q.res with
      | none => rw [hr] at hq; exact hq.elim
      | br _ _ _ => rw [hr] at hq; exact hq.elim
      | one c v ws rs =>
        rw [hr] at hq
        simp only [kds] at hq
        cases ho : okFp (ws.map (·.1)) rs (pre.getD k []) acc with
        | false => rw [ho] at hq; exact hq.elim
        | true =>
          rw [ho] at hq
          exact ⟨c, v, ws, rs, rfl, hq.1, ho, hq.2.use⟩
    obtain ⟨gu, o⟩ := g
    cases gu with
    | none =>
      simp only [awpDs] at hK
      obtain ⟨c, v, ws, rs, h1, h2, h3, h4⟩ := one hK
      exact go (v, ws, rs) _ (.inr ⟨h3, rfl⟩) ⟨c, h1, h2⟩ h4
    | some tw =>
      obtain ⟨t, want⟩ := tw
      simp only [awpDs] at hK
      split at hK
      · rename_i b hb
        have hK := Br.use hK
        by_cases hbw : b = want
        · obtain ⟨c, v, ws, rs, h1, h2, h3, h4⟩ := one (hK.1 hbw)
          exact go (v, ws, rs) _ (.inr ⟨h3, rfl⟩) ⟨b, hb, fun _ => ⟨c, h1, h2⟩, fun h => by subst hbw; cases b <;> simp at h⟩ h4
        · have hbw' : b = !want := by cases b <;> cases want <;> simp at hbw ⊢
          exact go (.undef, [], []) acc (.inl ⟨rfl, rfl⟩) ⟨b, hb, fun h => absurd h hbw, fun _ => rfl⟩ (hK.2 hbw')
      · exact hK.elim

variable {w : World} {S : SetS} {mu : Mu} {H : Heap} {env : Env} {a : Act} {L : Nat → Prop} {outs : Outs}

/-- Whatever is listed: what an operation waits for is listed too. -/
theorem mask_closed (hp : ∀ i, i < par.length → ∃ o, ops[i]? = some o ∧ ms.getD i 0 = maskOf ms o.after.toList ∧ backOK o i = true) (hL : ∀ i, L i → ∀ o, ops[i]? = some o → ∀ e ∈ o.after, Region.binds .any e = true → L e.on) :
    ∀ (i : Nat) (o : Oper), i ≤ par.length → backOK o i = true → (∀ e ∈ o.after, Region.binds .any e = true → L e.on) → ∀ k, Nat.testBit (maskOf ms o.after.toList) k = true → k < i ∧ L k := by
  intro i
  induction i using Nat.strongRecOn with
  | _ i ih =>
    intro o hi hb hdir k hk
    obtain ⟨e, he, hbi, hor⟩ := maskOf_spec _ _ hk
    have he' : e ∈ o.after := by simpa using he
    have hlt := backOK_spec hb e he' hbi
    rcases hor with rfl | hor
    · exact ⟨hlt, hdir e he' hbi⟩
    · obtain ⟨o', h1, h2, h3⟩ := hp e.on (by omega)
      rw [h2] at hor
      obtain ⟨g1, g2⟩ := ih e.on hlt o' (by omega) h3 (hL e.on (hdir e he' hbi) o' h1) k hor
      exact ⟨by omega, g2⟩

/-- One of them, at any time it is ready. -/
theorem par_step (hd : dstsOK par = true) (hcalls : ∀ x ∈ par, CallsOf P orc x.2)
    (hR : Rel nt w S mu H env a) (hI : Inv par outs env0 H00 L env H) {i : Nat} {g : GD} (hg : par[i]? = some g) (hLi : ¬ L i) {o : Oper} (hop : ops[i]? = some o) (hgu : guardOK ops o g.1 = true) (hok : oOK P nt o g.2 = true)
    (hreads : ∀ t ∈ readsOf g, ∀ j g', par[j]? = some g' → g'.2.dst = some t → j < i ∧ L j) (hD : ∀ j g, par[j]? = some g → Done orc base par env0 H00 outs j g)
    (hconf : ∀ i j, i < j → j < par.length → outs.conf i j → i ∈ pre.getD j []) (hpre1 : ∀ j ∈ pre.getD i [], L j) (hpre2 : ∀ j, L j → j < par.length → ∀ x ∈ pre.getD j [], L x)
    {Q : Exit → Act → World → Prop} {KK : Act → World → Prop} (hKK : ∀ a' w' env' H' S' mu', Rel nt w' S' mu' H' env' a' → Ev w S mu H w' S' mu' H' → Inv par outs env0 H00 (fun j => L j ∨ j = i) env' H' → KK a' w') :
    wpOp P ops Q i KK a w := by
  obtain ⟨e, h, hIe, hm⟩ := hD i g hg
  have hil := par_lt hg
  have hrd : ∀ t ∈ readsOf g, get env t = get e t := fun t ht => by
    by_cases hex : ∃ (j : Nat) (g' : GD), par[j]? = some g' ∧ g'.2.dst = some t
    · obtain ⟨j, g', h1, h2⟩ := hex
      obtain ⟨h3, h4⟩ := hreads t ht j g' h1 h2
      rw [hI.a1 j g' h1 h4 t h2, hIe.a1 j g' h1 h3 t h2]
    · rw [hI.a2 t fun j g' h1 _ h2 => hex ⟨j, g', h1, h2⟩, hIe.a2 t fun j g' h1 _ h2 => hex ⟨j, g', h1, h2⟩]
  have hars : ∀ x ∈ g.2.ars, x.ev env = x.ev e := fun x hx => by
    cases x with
    | k v => rfl
    | t m =>
      refine hrd m ?_
      simp only [readsOf, List.mem_append, List.mem_flatMap]
      exact .inr ⟨.t m, hx, by simp [arT]⟩
  have hdc : oout orc base g.2 env h = oout orc base g.2 e h := oout_congr g.2 hars
  -- a writer above, of a block that is touched here, would have waited
  have hup : ∀ j, L j → j < par.length → i < j → ∀ id, (outs.w i id ∨ outs.r i id) → lastW (outs j).2.1 id = none := fun j hj hjl hij id ht => by
    by_cases hx : lastW (outs j).2.1 id = none
    · exact hx
    · refine absurd (hpre2 j hj hjl i (hconf i j hij hjl ⟨id, ?_⟩)) hLi
      rcases ht with ht | ht
      · exact .inl ⟨ht, .inl hx⟩
      · exact .inr ⟨ht, hx⟩
  have hdown : ∀ j, j < i → ∀ id, (outs.w i id ∨ outs.r i id) → lastW (outs j).2.1 id ≠ none → L j := fun j hj id ht hx => hpre1 j (hconf j i hj hil ⟨id, .inl ⟨hx, ht⟩⟩)
  have hag : ∀ id, (outs.w i id ∨ outs.r i id) → H[id]? = h[id]? := fun id ht => by
    refine inv_blk hI hIe fun j g' hg' hx => ⟨fun hj => ?_, fun hj => hdown j hj id ht hx⟩
    rcases Nat.lt_trichotomy j i with h1 | h1 | h1
    · exact h1
    · subst h1; exact absurd hj hLi
    · exact absurd (hup j hj (par_lt hg') h1 id ht) hx
  have hInv := inv_add hd hI hg hLi (fun j g' hg' hj hij id hid => hup j hj (par_lt hg') hij id (.inl hid)) (fun j => L j ∨ j = i) (fun j => Iff.rfl)
  have hmem : g ∈ par := List.mem_of_getElem? hg
  have run : (∃ c, (oout orc base g.2 e h).res = .one c (outs i).1 (outs i).2.1 (outs i).2.2 ∧ c) → o.wp P a w KK Q := by
    rintro ⟨c, h1, h2⟩
    rw [← hdc] at h1
    have haw := oout_op h1 H (fun e' h' => e' = putO env g.2.dst (outs i).1 ∧ h' = setAll H (outs i).2.1) h2 (hI.b1.trans hIe.b1.symm) (fun id hid => hag id (by
      rcases hid with hid | hid
      · exact .inl fun hn => (lastW_none _ _).1 hn hid
      · exact .inr hid)) ⟨rfl, rfl⟩
    refine Oper.wp_mono (fun a' w' hp => ?_) (op_sound hR hok (hcalls g hmem) haw Q)
    obtain ⟨env', H', S', mu', hR', hE', rfl, rfl⟩ := hp
    exact hKK a' w' _ _ S' mu' hR' hE' hInv
  unfold wpOp
  simp only [hop]
  obtain ⟨gu, dop⟩ := g
  cases gu with
  | none =>
    rw [if_pos (wanted_none hgu a)]
    exact .inl (run hm)
  | some tw =>
    obtain ⟨t, want⟩ := tw
    obtain ⟨b, hb, h1, h2⟩ := hm
    have hb' : get env t = .bool b := by rw [hrd t (by simp [readsOf]), hb]
    have ht : t < a.tmps.size := by
      rcases Nat.lt_or_ge t a.tmps.size with h | h
      · exact h
      · have hr := hR.env t
        rw [hb'] at hr
        have hbv := hr.bool
        rw [Array.getD_eq_getD_getElem?, Array.getElem?_eq_none h] at hbv
        simp only [Option.getD_none, undef] at hbv
        cases hbv
    have hw := wanted_some hgu hR.env ht hb'
    by_cases hbw : b = want
    · rw [if_pos (by rw [hw, hbw]; simp)]
      exact .inl (run (h1 hbw))
    · have hbw' : b = !want := by cases b <;> cases want <;> simp at hbw ⊢
      rw [if_neg (by rw [hw]; simpa using hbw)]
      have hout := h2 hbw'
      rw [hout] at hInv
      exact hKK _ _ _ _ S mu (dOKo_put hR (oOK_dst hok) (by simp only [RelV])) (Ev.refl _ _ _ _) hInv
end
end Go.Vc
