/- A region in text order. -/
import Derived.Test.YtgcakbnkeiajeaaVcCallB
set_option linter.unusedVariables false
set_option linter.unusedSimpArgs false
namespace Go.Vc

def guardOK (ops : Array Oper) (o : Oper) : Option (Nat × Bool) → Bool
  | none => o.guard.isNone
  | some (t, want) => match o.guard with
    | some (g, w) => (match ops[g]? with | some og => (match og.dst with | some d => Nat.beq d t | none => false) | none => false) && (w == want)
    | none => false
def callsP : AOp → List FuncId
  | .callP _ f _ _ _ _ => [f]
  | _ => []
def callsS : AOp → List FuncId
  | .callS _ _ _ _ fs => fs
  | _ => []
/-- The operations of a region, one by one. -/
def opsOK (P : Program) (nt : Nat) (ops : Array Oper) : List Oper → List (Option (Nat × Bool) × AOp) → Bool
  | [], [] => true
  | o :: r, (g, op) :: s => guardOK ops o g && oOK P nt o op && opsOK P nt ops r s
  | _, _ => false

section
variable {P : Program} {w : World} {S : SetS} {mu : Mu} {H : Heap} {env : Env} {a : Act} {nt : Nat} {K : Env → Heap → Prop}

/-- What is known of the functions that an operation calls. -/
def CallsOf (P : Program) (orc : Orc) (op : AOp) : Prop := (∀ f ∈ callsP op, POK P orc f) ∧ ∀ f ∈ callsS op, SOK P orc f

theorem op_sound (hR : Rel nt w S mu H env a) {o : Oper} {op : AOp} (hm : oOK P nt o op = true) {orc : Orc} {base : Nat} (hc : CallsOf P orc op) (hK : awpOp orc base op env H K) (Q : Exit → Act → World → Prop) : o.wp P a w (OpPost nt w S mu H K) Q := by
  cases op with
  | callP d f args off cnt fz => exact op_callP hR hm (hc.1 f (by simp [callsP])) hK Q
  | callS d x args mks fs => exact op_callS hR hm (fun f hf => hc.2 f hf) hK Q
  | _ => exact mop_sound hR (by simpa only [oOK] using hm) orc base hK Q

theorem oOK_dst {o : Oper} {op : AOp} (hm : oOK P nt o op = true) : dOKo nt o.dst op.dst = true := by
  have key : ∀ d, dOK nt o.dst d = true → dOKo nt o.dst (some d) = true := fun d h => by
    obtain ⟨h1, h2⟩ := dOK_some h
    rw [h1]
    simpa [dOKo] using h2
  cases op <;> simp only [oOK, mOK, Bool.and_eq_true] at hm <;> simp only [AOp.dst] <;> first
    | exact key _ hm.1
    | exact key _ hm.1.1
    | exact hm.1.1
    | exact hm
    | (have h := hm.1; simp at h; rw [h]; rfl)
    | (simp at hm; done)

theorem wanted_none {ops : Array Oper} {o : Oper} (h : guardOK ops o none = true) (a : Act) : Region.wanted o (yielded ops a.tmps) = true := by
  simp only [guardOK, Option.isNone_iff_eq_none] at h
  simp [Region.wanted, h]
theorem wanted_some {ops : Array Oper} {o : Oper} {t : Nat} {want b : Bool} (h : guardOK ops o (some (t, want)) = true) (hE : RelE w S mu H env a) (ht : t < a.tmps.size) (hb : get env t = .bool b) : Region.wanted o (yielded ops a.tmps) = (b == want) := by
  simp only [guardOK] at h
  split at h
  · rename_i g w' hg
    simp only [Bool.and_eq_true] at h
    obtain ⟨h1, h2⟩ := h
    split at h1
    · rename_i og hog
      split at h1
      · rename_i d hd
        have hdt := Nat.eq_of_beq_eq_true h1
        subst hdt
        have hw : w' = want := by simpa using h2
        subst hw
        have hr := hE d
        rw [hb] at hr
        have hbv := hr.bool
        have hget : a.tmps[d]? = some (.bool b) := by
          rw [Array.getElem?_eq_getElem ht]
          rw [Array.getD_eq_getD_getElem?, Array.getElem?_eq_getElem ht] at hbv
          simpa using hbv
        simp [Region.wanted, hg, yielded, hog, hd, hget]
      · cases h1
    · cases h1
  · cases h

/-- Operations from one on, in text order. -/
theorem ops_sound {ops : Array Oper} {orc : Orc} {base : Nat} {Q : Exit → Act → World → Prop} {w0 : World} {S0 : SetS} {mu0 : Mu} {H0 : Heap} :
    ∀ (l : List Oper) (s : List (Option (Nat × Bool) × AOp)) (k : Nat) (w : World) (S : SetS) (mu : Mu) (H : Heap) (env : Env) (a : Act), (∀ j, l[j]? = ops[k + j]?) → opsOK P nt ops l s = true → (∀ x ∈ s, CallsOf P orc x.2) →
      Rel nt w S mu H env a → Ev w0 S0 mu0 H0 w S mu H → awpOps orc base s env H K → (∀ a' w', OpPost nt w0 S0 mu0 H0 K a' w' → Q .normal a' w') →
      wpOps P ops Q ((List.range l.length).map (k + ·)) a w
  | [], [], k, w, S, mu, H, env, a, _, _, _, hR, hE, hK, hQ => by
    simp only [List.length_nil, List.range_zero, List.map_nil, wpOps]
    exact hQ _ _ ⟨env, H, S, mu, hR, hE, hK⟩
  | [], _ :: _, _, _, _, _, _, _, _, _, h, _, _, _, _, _ => by simp [opsOK] at h
  | _ :: _, [], _, _, _, _, _, _, _, _, h, _, _, _, _, _ => by simp [opsOK] at h
  | o :: r, (g, op) :: s, k, w, S, mu, H, env, a, hl, h, hc, hR, hE, hK, hQ => by
    simp only [opsOK, Bool.and_eq_true] at h
    obtain ⟨⟨hg, ho⟩, hr⟩ := h
    have hk : ops[k]? = some o := by have := hl 0; simpa using this.symm
    have hl' : ∀ j, r[j]? = ops[k + 1 + j]? := fun j => by have := hl (j + 1); rw [show k + 1 + j = k + (j + 1) by omega, ← this]; rfl
    have hrange : (List.range (o :: r).length).map (k + ·) = k :: (List.range r.length).map (k + 1 + ·) := by
      rw [List.length_cons, List.range_succ_eq_map, List.map_cons, List.map_map]
      congr 1
      apply List.map_congr_left
      intro j _
      simp
      omega
    rw [hrange]
    simp only [wpOps, hk]
    have hc' : ∀ x ∈ s, CallsOf P orc x.2 := fun x hx => hc x (by simp [hx])
    have hcall := hc (g, op) (by simp)
    have step : awpOp orc base op env H (fun e h => Cont op.gens e fun e => awpOps orc base s e h K) → o.wp P a w (wpOps P ops Q ((List.range r.length).map (k + 1 + ·))) Q := fun hop =>
      Oper.wp_mono (fun a' w' hp => by
        obtain ⟨env', H', S', mu', hR', hE', hK'⟩ := hp
        exact ops_sound r s (k + 1) w' S' mu' H' env' a' hl' hr hc' hR' (hE.trans hE') hK'.use hQ) (op_sound hR ho hcall hop Q)
    cases g with
    | none =>
      rw [if_pos (wanted_none hg a)]
      simp only [awpOps] at hK
      exact .inl (step hK)
    | some tw =>
      obtain ⟨t, want⟩ := tw
      simp only [awpOps] at hK
      split at hK
      · rename_i b hb
        have hK := Br.use hK
        have ht : t < a.tmps.size := by
          rcases Nat.lt_or_ge t a.tmps.size with h | h
          · exact h
          · have hr := hR.env t
            rw [hb] at hr
            have hbv := hr.bool
            rw [Array.getD_eq_getD_getElem?, Array.getElem?_eq_none h] at hbv
            simp only [Option.getD_none, undef] at hbv
            cases hbv
        have hw := wanted_some hg hR.env ht hb
        by_cases hbw : b = want
        · rw [if_pos (by rw [hw, hbw]; simp)]
          exact .inl (step (hK.1 hbw))
        · have hbw' : b = !want := by cases b <;> cases want <;> simp at hbw ⊢
          rw [if_neg (by rw [hw]; simpa using hbw)]
          exact ops_sound r s (k + 1) w S mu H _ _ hl' hr hc' (dOKo_put hR (oOK_dst ho) (by simp only [RelV])) hE (hK.2 hbw') hQ
      · exact hK.elim

/-- Kept free: nothing turns. -/
theorem resv_turn (hR : Rel nt w S mu H env a) (n : Nat) : Rel nt w S mu (H ++ List.replicate n Blk.resv) env a ∧ Ev w S mu H w S mu (H ++ List.replicate n Blk.resv) := by
  have hget : ∀ j b, (H ++ List.replicate n Blk.resv)[j]? = some b → H[j]? = some b ∨ b = Blk.resv := fun j b hb => by
    rcases Nat.lt_or_ge j H.length with h | h
    · rw [List.getElem?_append_left h] at hb; exact .inl hb
    · rw [List.getElem?_append_right h, List.getElem?_replicate] at hb
      split at hb
      · injection hb with hb; exact .inr hb.symm
      · cases hb
  have hT : Turn w S mu H w S mu (H ++ List.replicate n Blk.resv) :=
    ⟨Stab.refl _ _, fun b c t fr hb => ⟨c, fr, hb, rfl⟩, fun j b hb => ⟨b, by rw [List.getElem?_append_left (lt_of_get hb), hb], Compat.refl _ _⟩⟩
  refine ⟨hR.mono hT ⟨fun j b hb => ?_, fun i j bi bj b hi hj li lj mi mj => ?_, hR.heap.there, hR.heap.mus⟩, hT, Nat.le_refl _, rfl, rfl, rfl, fun _ _ _ => rfl, fun b o hs => .inl hs, fun j b hj => .inr ⟨j, hj⟩⟩
  · rcases hget j b hb with h | h
    · have hB := hR.heap.blk j b h
      cases b with
      | resv => trivial
      | dead => trivial
      | var t v fz =>
        obtain ⟨b, cells, ty, h1, h2, h3, h4, h5, h6⟩ := hB
        exact ⟨b, cells, ty, h1, h2, h3, RelA.mono hT _ _ h4, h5, h6⟩
      | fix e xs fz => exact hB
      | ext e m => exact hB
    · subst h; trivial
  · rcases hget i bi hi with h | h
    · rcases hget j bj hj with h' | h'
      · exact hR.heap.inj i j bi bj b h h' li lj mi mj
      · subst h'; cases lj
    · subst h; cases li
end
end Go.Vc
