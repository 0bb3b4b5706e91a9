/- Operations whose order is open: the whole region. -/
import Derived.Test.YtgcakbnkeiajeaaVcDrawC
set_option linter.unusedVariables false
set_option linter.unusedSimpArgs false
namespace Go.Vc

section
variable {P : Program} {nt n : Nat} {ops : Array Oper} {par : List GD} {ms : List Nat} {orc : Orc} {base : Nat} {env0 : Env} {H00 h0 : Heap} {K : Env → Heap → Prop} {Q : Exit → Act → World → Prop}
  {w0 : World} {S0 : SetS} {mu0 : Mu} {H0 : Heap}

theorem onPrev_spec {o : Oper} {i : Nat} (h : onPrev o i = true) : ∃ e ∈ o.after, Region.binds .any e = true ∧ e.on + 1 = i := by
  obtain ⟨e, he, hb⟩ := List.any_eq_true.1 h
  simp only [Bool.and_eq_true] at hb
  exact ⟨e, by simpa using he, hb.1, Nat.eq_of_beq_eq_true hb.2⟩

theorem getD_true_false {listed : Array Bool} {j : Nat} (hj : j < listed.size) : listed.getD j true = listed.getD j false := by
  simp [Array.getD, hj]

theorem set_getD {listed : Array Bool} {i j : Nat} (hi : i < listed.size) (d : Bool) : (listed.setIfInBounds i true).getD j d = if j = i then true else listed.getD j d := by
  rw [Array.getD_eq_getD_getElem?, Array.getD_eq_getD_getElem?, Array.getElem?_setIfInBounds]
  by_cases h : i = j
  · subst h; simp [hi]
  · rw [if_neg h, if_neg (fun e => h e.symm)]

/-- The rest, one behind the other. -/
theorem tail_sound : ∀ (l : List Oper) (s : List (Option (Nat × Bool) × AOp)) (k fuel : Nat) (listed : Array Bool) (w : World) (S : SetS) (mu : Mu) (H : Heap) (env : Env) (a : Act), (∀ j, l[j]? = ops[k + j]?) → k + l.length = ops.size → opsOK P nt ops l s = true → (∀ x ∈ s, CallsOf P orc x.2) →
    (∀ j o, l[j]? = some o → backOK o (k + j) = true) → (∀ j o, l[j + 1]? = some o → onPrev o (k + j + 1) = true) →
    listed.size = ops.size → (∀ j, j < k → listed.getD j true = true) → (∀ j, k ≤ j → j < ops.size → listed.getD j true = false) → l.length ≤ fuel →
    Rel nt w S mu H env a → Ev w0 S0 mu0 H0 w S mu H → awpOps orc base s env H K → (∀ a' w', OpPost nt w0 S0 mu0 H0 K a' w' → Q .normal a' w') → wpAny P .any ops Q fuel listed a w
  | [], [], k, fuel, listed, w, S, mu, H, env, a, hl, hk, _, _, _, _, hsz, hd, hu, hf, hR, hE, hK, hQ => by
    refine wpAny_done ?_ (hQ _ _ ⟨env, H, S, mu, hR, hE, hK⟩) fuel
    apply List.eq_nil_iff_forall_not_mem.2
    intro j hj
    obtain ⟨h1, o, ho, _⟩ := mem_ready.1 hj
    have hlt := (Array.getElem?_eq_some_iff.1 ho).1
    have := hd j (by simp at hk; omega)
    rw [h1] at this
    cases this
  | [], _ :: _, _, _, _, _, _, _, _, _, _, _, _, h, _, _, _, _, _, _, _, _, _, _, _ => by simp [opsOK] at h
  | _ :: _, [], _, _, _, _, _, _, _, _, _, _, _, h, _, _, _, _, _, _, _, _, _, _, _ => by simp [opsOK] at h
  | o :: r, (g, op) :: s, k, 0, _, _, _, _, _, _, _, _, _, _, _, _, _, _, _, _, hf, _, _, _, _ => by simp at hf
  | o :: r, (g, op) :: s, k, fuel + 1, listed, w, S, mu, H, env, a, hl, hk, h, hc, hb, hp, hsz, hd, hu, hf, hR, hE, hK, hQ => by
    simp only [opsOK, Bool.and_eq_true] at h
    obtain ⟨⟨hg, ho⟩, hr⟩ := h
    have hop : ops[k]? = some o := by have := hl 0; simpa using this.symm
    have hl' : ∀ j, r[j]? = ops[k + 1 + j]? := fun j => by have := hl (j + 1); rw [show k + 1 + j = k + (j + 1) by omega, ← this]; rfl
    have hklt : k < ops.size := by simp at hk; omega
    have hback := backOK_spec (hb 0 o rfl)
    rw [Nat.add_zero] at hback
    have hready : k ∈ Region.ready .any ops listed := mem_ready.2 ⟨hu k (Nat.le_refl _) hklt, o, hop, fun e he hbi => by
      have h1 := hd e.on (hback e he hbi)
      rw [← getD_true_false (by rw [hsz]; have := hback e he hbi; omega)]
      exact h1⟩
    have honly : ∀ j, j ∈ Region.ready .any ops listed → j = k := fun j hj => by
      obtain ⟨h1, o', ho', hall⟩ := mem_ready.1 hj
      have hlt := (Array.getElem?_eq_some_iff.1 ho').1
      have hjk : k ≤ j := by
        rcases Nat.lt_or_ge j k with h | h
        · rw [hd j h] at h1; cases h1
        · exact h
      rcases Nat.eq_or_lt_of_le hjk with h | h
      · exact h.symm
      · obtain ⟨e, he, hbi, hon⟩ := onPrev_spec (hp (j - k - 1) o' (by
          have := hl (j - k)
          rw [show k + (j - k) = j by omega, ho'] at this
          rw [show j - k - 1 + 1 = j - k by omega]
          exact this))
        have h2 := hall e he hbi
        have h3 := hu e.on (by omega) (by omega)
        rw [getD_true_false (by rw [hsz]; omega)] at h3
        rw [h3] at h2
        cases h2
    refine ⟨fun hn => absurd hready (by rw [hn]; exact List.not_mem_nil), fun j hj => ?_⟩
    have := honly j hj
    subst this
    have hc' : ∀ x ∈ s, CallsOf P orc x.2 := fun x hx => hc x (by simp [hx])
    have hcall := hc (g, op) (by simp)
    have hkl : j < listed.size := by rw [hsz]; exact hklt
    have next : ∀ (w' : World) (S' : SetS) (mu' : Mu) (H' : Heap) (env' : Env) (a' : Act), Rel nt w' S' mu' H' env' a' → Ev w0 S0 mu0 H0 w' S' mu' H' → awpOps orc base s env' H' K → wpAny P .any ops Q fuel (listed.setIfInBounds j true) a' w' := fun w' S' mu' H' env' a' hR' hE' hK' =>
      tail_sound r s (j + 1) fuel (listed.setIfInBounds j true) w' S' mu' H' env' a' hl' (by simp at hk; omega) hr hc'
        (fun i o' hi => by rw [show j + 1 + i = j + (i + 1) by omega]; exact hb (i + 1) o' (by simpa using hi)) (fun i o' hi => by rw [show j + 1 + i + 1 = j + (i + 1) + 1 by omega]; exact hp (i + 1) o' (by simpa using hi))
        (by simpa using hsz) (fun i hi => by
          rw [set_getD hkl]
          by_cases hij : i = j
          · rw [if_pos hij]
          · rw [if_neg hij]; exact hd i (by omega)) (fun i h1 h2 => by
          rw [set_getD hkl, if_neg (by omega)]
          exact hu i (by omega) h2) (by simp at hf; omega) hR' hE' hK' hQ
    have step : awpOp orc base op env H (fun e h => Cont op.gens e fun e => awpOps orc base s e h K) → o.wp P a w (wpAny P .any ops Q fuel (listed.setIfInBounds j true)) Q := fun hop =>
      Oper.wp_mono (fun a' w' hp => by
        obtain ⟨env', H', S', mu', hR', hE', hK'⟩ := hp
        exact next w' S' mu' H' env' a' hR' (hE.trans hE') hK'.use) (op_sound hR ho hcall hop Q)
    unfold wpOp
    simp only [hop]
    cases g with
    | none =>
      rw [if_pos (wanted_none hg a)]
      simp only [awpOps] at hK
      exact .inl (step hK)
    | some tw =>
      obtain ⟨t, want⟩ := tw
      simp only [awpOps] at hK
      split at hK
      · rename_i b hb
        have hK := Br.use hK
        have ht : t < a.tmps.size := by
          rcases Nat.lt_or_ge t a.tmps.size with h | h
          · exact h
          · have hr := hR.env t
            rw [hb] at hr
            have hbv := hr.bool
            rw [Array.getD_eq_getD_getElem?, Array.getElem?_eq_none h] at hbv
            simp only [Option.getD_none, undef] at hbv
            cases hbv
        have hw := wanted_some hg hR.env ht hb
        by_cases hbw : b = want
        · rw [if_pos (by rw [hw, hbw]; simp)]
          exact .inl (step (hK.1 hbw))
        · have hbw' : b = !want := by cases b <;> cases want <;> simp at hbw ⊢
          rw [if_neg (by rw [hw]; simpa using hbw)]
          exact next w S mu H _ _ (dOKo_put hR (oOK_dst ho) (by simp only [RelV])) hE (hK.2 hbw')
      · exact hK.elim

theorem Rel.ext {w : World} {S : SetS} {mu : Mu} {H : Heap} {env env' : Env} {a : Act} (h : Rel nt w S mu H env a) (he : ∀ t, get env t = get env' t) : Rel nt w S mu H env' a :=
  ⟨fun t => by rw [← he t]; exact h.env t, h.heap, h.tmps, h.defers⟩

theorem draw_sound {id : Nat} {pre : List (List Nat)} {tail : List (Option (Nat × Bool) × AOp)} {w : World} {S : SetS} {mu : Mu} {H : Heap} {env : Env} {a : Act} (hm : P.follows .mixedOrders = true) (hck : drawOK P nt n ops pre par tail = true) (hcp : ∀ x ∈ par, CallsOf P orc x.2) (hct : ∀ x ∈ tail, CallsOf P orc x.2)
    (hR : Rel nt w S mu H env a) (hK : awpDs orc H.length pre par 0 [] env (H ++ List.replicate n .resv) fun e h1 => awpOps orc H.length tail e h1 K) (hQ : ∀ a' w', OpPost nt w S mu H K a' w' → Q .normal a' w') :
    (Code.region id ops true).wp P Q a w := by
  refine wp_region_any hm ?_
  simp only [drawOK, Bool.and_eq_true] at hck
  obtain ⟨⟨⟨⟨hpar, hdst⟩, hpre⟩, htl⟩, hlast⟩ := hck
  generalize hms : masksGo ops.toList [] = ms at hpar hlast hpre
  have hpg := parOK_get ops.toList par 0 hpar
  have hplen : par.length ≤ ops.size := by
    rcases Nat.lt_or_ge ops.size par.length with h | h
    · obtain ⟨o, h1, _⟩ := hpg ops.size _ (List.getElem?_eq_getElem h)
      rw [List.getElem?_eq_none (by simp)] at h1
      cases h1
    · exact h
  obtain ⟨R1, E1⟩ := resv_turn (hR.drawn (w.drawn + 1)) n
  have E0 : Ev w S mu H { w with drawn := w.drawn + 1 } S mu (H ++ List.replicate n .resv) := (Ev.drawn (w.drawn + 1)).trans E1
  have hlen : (H ++ List.replicate n Blk.resv).length = H.length + n := by simp
  have hI0 : ∀ outs : Outs, Inv par outs env (H ++ List.replicate n .resv) (fun _ => False) env (H ++ List.replicate n .resv) := fun outs =>
    ⟨fun _ _ _ h => h.elim, fun _ _ => rfl, rfl, fun _ _ _ h => h.elim, fun _ _ => rfl⟩
  obtain ⟨outs, hD, hconf, env', H', hI', hK'⟩ := text_run hdst par 0 [] (fun _ => (.undef, [], [])) env _ (fun j => by simp) (inv_L (hI0 _) fun i _ => ⟨fun h => absurd h (by omega), fun h => h.elim⟩) (fun i g _ h => absurd h (by omega))
    (fun i h => absurd h (by omega)) (fun i j _ h => absurd h (by omega)) hK
  have hp : ∀ i, i < par.length → ∃ o, ops[i]? = some o ∧ ms.getD i 0 = maskOf ms o.after.toList ∧ backOK o i = true := fun i hi => by
    obtain ⟨o, h1, h2, h3, h4, h5, h6⟩ := hpg i _ (List.getElem?_eq_getElem hi)
    rw [Nat.zero_add] at h4 h5
    exact ⟨o, by simpa using h1, h4, h5⟩
  -- the rest
  have hdrop : ∀ j, (ops.toList.drop par.length)[j]? = ops[par.length + j]? := fun j => by rw [List.getElem?_drop]; simp
  have hb0 : ∀ (l : List Oper) (k : Nat), tailOK l k = true → (∀ j o, l[j]? = some o → backOK o (k + j) = true ∧ onPrev o (k + j) = true) := by
    intro l
    induction l with
    | nil => intro k _ j o h; simp at h
    | cons x r ih =>
      intro k h j o hj
      simp only [tailOK, Bool.and_eq_true] at h
      cases j with
      | zero => simp at hj; subst hj; exact h.1
      | succ j =>
        have := ih (k + 1) h.2 j o (by simpa using hj)
        rwa [show k + 1 + j = k + (j + 1) by omega] at this
  have hback : ∀ j o, (ops.toList.drop par.length)[j]? = some o → backOK o (par.length + j) = true := by
    intro j o hj
    cases hl : ops.toList.drop par.length with
    | nil => rw [hl] at hj; simp at hj
    | cons x r =>
      rw [hl] at hj hlast
      simp only [Bool.and_eq_true] at hlast
      cases j with
      | zero => simp at hj; subst hj; exact hlast.1.1
      | succ j =>
        have := (hb0 r _ hlast.2 j o (by simpa using hj)).1
        rwa [show par.length + 1 + j = par.length + (j + 1) by omega] at this
  have hprev : ∀ j o, (ops.toList.drop par.length)[j + 1]? = some o → onPrev o (par.length + j + 1) = true := by
    intro j o hj
    cases hl : ops.toList.drop par.length with
    | nil => rw [hl] at hj; simp at hj
    | cons x r =>
      rw [hl] at hj hlast
      simp only [Bool.and_eq_true] at hlast
      have := (hb0 r _ hlast.2 j o (by simpa using hj)).2
      rwa [show par.length + 1 + j = par.length + j + 1 by omega] at this
  have main : ∀ (fuel : Nat) (listed : Array Bool) (w' : World) (S' : SetS) (mu' : Mu) (H1 : Heap) (e1 : Env) (a' : Act), cu (fun j => listed.getD j true) ops.size ≤ fuel → listed.size = ops.size →
      (∀ j, par.length ≤ j → j < ops.size → listed.getD j true = false) → (∀ i, listed.getD i false = true → ∀ o, ops[i]? = some o → ∀ e ∈ o.after, Region.binds .any e = true → listed.getD e.on false = true) →
      Rel nt w' S' mu' H1 e1 a' → Ev w S mu H w' S' mu' H1 → Inv par outs env (H ++ List.replicate n .resv) (fun i => listed.getD i false = true) e1 H1 → wpAny P .any ops Q fuel listed a' w' := by
    intro fuel
    induction fuel with
    | zero =>
      intro listed w' S' mu' H1 e1 a' hcu hsz hun hcl hR' hE' hI1
      have hall := cu_zero _ (Nat.le_zero.1 hcu)
      have hpe : ∀ i, i < ops.size → i < par.length := fun i hi => by
        rcases Nat.lt_or_ge i par.length with h | h
        · exact h
        · have h1 := hun i h hi
          rw [hall i hi] at h1
          cases h1
      have hps : par.length = ops.size := by
        rcases Nat.lt_or_ge par.length ops.size with h | h
        · have := hpe par.length h; omega
        · omega
      obtain ⟨hs1, hs2⟩ := inv_same hI1 hI' (fun i hi => ⟨fun _ => trivial, fun _ => by rw [← getD_true_false (by rw [hsz]; omega)]; exact hall i (by omega)⟩)
      subst hs2
      exact tail_sound (ops.toList.drop par.length) tail par.length 0 listed w' S' mu' H1 env' a' hdrop (by simp; omega) htl hct hback hprev hsz (fun j hj => hall j (by omega)) hun (by simp; omega) (hR'.ext hs1) hE' hK' hQ
    | succ fuel ih =>
      intro listed w' S' mu' H1 e1 a' hcu hsz hun hcl hR' hE' hI1
      by_cases hall : ∀ i, i < par.length → listed.getD i true = true
      · obtain ⟨hs1, hs2⟩ := inv_same hI1 hI' (fun i hi => ⟨fun _ => trivial, fun _ => by rw [← getD_true_false (by rw [hsz]; omega)]; exact hall i hi⟩)
        subst hs2
        have hcut : ∀ (f : Nat → Bool) (m : Nat), (∀ j, j < m → f j = true) → ∀ k, (∀ j, m ≤ j → j < m + k → f j = false) → cu f (m + k) = k := by
          intro f m h1 k
          induction k with
          | zero =>
            intro _
            have : ∀ m', m' ≤ m → cu f m' = 0 := by
              intro m'
              induction m' with
              | zero => intro _; rfl
              | succ m' ih' =>
                intro hm'
                simp only [cu]
                rw [ih' (by omega), h1 m' (by omega)]
                rfl
            exact this m (Nat.le_refl _)
          | succ k ihk =>
            intro h2
            show cu f (m + k) + (bif f (m + k) then 0 else 1) = k + 1
            rw [ihk (fun j a b => h2 j a (by omega)), h2 (m + k) (by omega) (by omega)]
            rfl
        have hk := hcut (fun j => listed.getD j true) par.length hall (ops.size - par.length) (fun j h1 h2 => hun j h1 (by omega))
        rw [show par.length + (ops.size - par.length) = ops.size by omega] at hk
        exact tail_sound (ops.toList.drop par.length) tail par.length (fuel + 1) listed w' S' mu' H1 env' a' hdrop (by simp; omega) htl hct hback hprev hsz hall hun (by simp; omega) (hR'.ext hs1) hE' hK' hQ
      · -- one is ready
        have hex : ∃ i, i < par.length ∧ listed.getD i true = false ∧ ∀ j, j < i → listed.getD j true = true := by
          have : ∀ m, m ≤ par.length → (∀ j, j < m → listed.getD j true = true) ∨ ∃ i, i < par.length ∧ listed.getD i true = false ∧ ∀ j, j < i → listed.getD j true = true := by
            intro m
            induction m with
            | zero => intro _; exact .inl fun j hj => by omega
            | succ m ihm =>
              intro hm
              rcases ihm (by omega) with h | h
              · cases hv : listed.getD m true with
                | false => exact .inr ⟨m, by omega, hv, h⟩
                | true =>
                  refine .inl fun j hj => ?_
                  by_cases hjm : j = m
                  · subst hjm; exact hv
                  · exact h j (by omega)
              · exact .inr h
          rcases this par.length (Nat.le_refl _) with h | h
          · exact absurd h hall
          · exact h
        obtain ⟨i, hi, hiu, hbelow⟩ := hex
        have hready : i ∈ Region.ready .any ops listed := by
          obtain ⟨o, h1, h2, h3⟩ := hp i hi
          refine mem_ready.2 ⟨hiu, o, h1, fun e he hbi => ?_⟩
          have hlt := backOK_spec h3 e he hbi
          rw [← getD_true_false (by rw [hsz]; omega)]
          exact hbelow e.on hlt
        refine ⟨fun hn => absurd hready (by rw [hn]; exact List.not_mem_nil), fun j hj => ?_⟩
        obtain ⟨hju, o, hjo, hjall⟩ := mem_ready.1 hj
        have hjlt := (Array.getElem?_eq_some_iff.1 hjo).1
        have hjp : j < par.length := by
          rcases Nat.lt_or_ge j par.length with h | h
          · exact h
          · exfalso
            rcases Nat.eq_or_lt_of_le h with h | h
            · -- the first of the rest: all before it are listed
              subst h
              cases hl : ops.toList.drop par.length with
              | nil =>
                have := hdrop 0
                rw [hl, Nat.add_zero, hjo] at this
                simp at this
              | cons x r =>
                have hx : x = o := by
                  have := hdrop 0
                  rw [hl, Nat.add_zero, hjo] at this
                  simpa using this
                subst hx
                rw [hl] at hlast
                simp only [Bool.and_eq_true] at hlast
                have hmask := Nat.eq_of_beq_eq_true hlast.1.2
                refine hall fun k hk => ?_
                have hbit : Nat.testBit (maskOf ms x.after.toList) k = true := by
                  have h1 : Nat.testBit (Nat.land (maskOf ms x.after.toList) (2 ^ par.length - 1)) k = Nat.testBit (2 ^ par.length - 1) k := by rw [hmask]
                  rw [show Nat.land (maskOf ms x.after.toList) (2 ^ par.length - 1) = (maskOf ms x.after.toList) &&& (2 ^ par.length - 1) from rfl, Nat.testBit_and, Nat.testBit_two_pow_sub_one] at h1
                  simp [hk] at h1
                  exact h1
                have := (mask_closed (L := fun i => listed.getD i false = true) hp hcl par.length x (Nat.le_refl _) hlast.1.1 hjall k hbit).2
                rw [getD_true_false (by rw [hsz]; omega)]
                exact this
            · obtain ⟨e, he, hbi, hon⟩ := onPrev_spec (hprev (j - par.length - 1) o (by
                rw [hdrop, show par.length + (j - par.length - 1 + 1) = j by omega]; exact hjo))
              have h2 := hjall e he hbi
              have h3 := hun e.on (by omega) (by omega)
              rw [getD_true_false (by rw [hsz]; omega)] at h3
              rw [h3] at h2
              cases h2
        have hjg := List.getElem?_eq_getElem hjp
        obtain ⟨o', h1, hgu, hok, hmk, hbk, hrd⟩ := hpg j _ hjg
        have hoo : o' = o := by
          have h1' : ops[j]? = some o' := by simpa using h1
          rw [hjo] at h1'
          injection h1' with h1'
          exact h1'.symm
        subst hoo
        rw [Nat.zero_add] at hmk hbk hrd
        have hjsz : j < listed.size := by rw [hsz]; exact hjlt
        have hjuf : listed.getD j false = false := by rw [← getD_true_false hjsz]; exact hju
        refine par_step hdst hcp hR' hI1 hjg (by rw [hjuf]; simp) hjo hgu hok (fun t ht k g' hk hdt => ?_) hD hconf (fun k hk => ?_) (fun k hk hkp x hx => ?_) (fun a'' w'' env'' H'' S'' mu'' hR'' hE'' hI'' => ?_)
        · have hbit := readGo_spec par 0 (hrd t ht) k g' hk hdt
          rw [Nat.zero_add, hmk] at hbit
          exact mask_closed (L := fun i => listed.getD i false = true) hp hcl j o' (by omega) hbk hjall k hbit
        · have hbit := preOK_spec par.length 0 hpre j (by omega) (by omega) k hk
          rw [hmk] at hbit
          exact (mask_closed (L := fun i => listed.getD i false = true) hp hcl j o' (by omega) hbk hjall k hbit).2
        · have hbit := preOK_spec par.length 0 hpre k (by omega) (by omega) x hx
          obtain ⟨ok, q1, q2, q3⟩ := hp k hkp
          rw [q2] at hbit
          exact (mask_closed (L := fun i => listed.getD i false = true) hp hcl k ok (by omega) q3 (fun e he hbi => hcl k hk ok q1 e he hbi) x hbit).2
        · refine ih (listed.setIfInBounds j true) w'' S'' mu'' H'' env'' a'' ?_ (by simpa using hsz) (fun k h1 h2 => ?_) (fun k hk o'' ho'' e he hbi => ?_) hR'' (hE'.trans hE'') (inv_L hI'' fun k hk => ?_)
          · have := (cu_set (f := fun k => listed.getD k true) (f' := fun k => (listed.setIfInBounds j true).getD k true) hju (by rw [set_getD hjsz, if_pos rfl]) (fun k hk => by rw [set_getD hjsz, if_neg hk]) ops.size).1 hjlt
            omega
          · rw [set_getD hjsz, if_neg (by omega)]
            exact hun k h1 h2
          · rw [set_getD hjsz] at hk ⊢
            by_cases hkj : k = j
            · subst hkj
              rw [hjo] at ho''
              injection ho'' with ho''
              subst ho''
              rw [hjall e he hbi]
              simp
            · rw [if_neg hkj] at hk
              rw [hcl k hk o'' ho'' e he hbi]
              simp
          · rw [set_getD hjsz]
            by_cases hkj : k = j
            · simp [hkj]
            · simp [hkj]
  refine main ops.size (Array.replicate ops.size false) _ S mu _ env a ?_ (by simp) (fun j h1 h2 => by simp [Array.getD, h2]) (fun i hi => ?_) R1 E0 (inv_L (hI0 outs) fun i hi => ?_)
  · have : ∀ (f : Nat → Bool) m, cu f m ≤ m := by
      intro f m
      induction m with
      | zero => exact Nat.le_refl _
      | succ m ih =>
        simp only [cu]
        cases f m <;> simp <;> omega
    exact this _ _
  · rw [Array.getD_eq_getD_getElem?, Array.getElem?_replicate] at hi
    split at hi <;> simp at hi
  · simp [Array.getD]
end
end Go.Vc
