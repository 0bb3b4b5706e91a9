/- A part of the proof of the seat's laws: VcReg, VcDrawA, VcDrawB, VcDrawC, VcDrawD. It states no claim by itself. -/
import Derived.Test.YtiddoflcajgjjaaVcCallB
import Derived.Orders
/- A region in text order. -/
set_option linter.unusedVariables false
set_option linter.unusedSimpArgs false
namespace Go.Vc

def guardOK (ops : Array Oper) (o : Oper) : Option (Nat × Bool) → Bool
  | none => o.guard.isNone
  | some (t, want) => match o.guard with
    | some (g, w) => (match ops[g]? with | some og => (match og.dst with | some d => Nat.beq d t | none => false) | none => false) && (w == want)
    | none => false
def callsP : AOp → List FuncId
  | .callP _ f _ _ _ _ => [f]
  | _ => []
def callsS : AOp → List FuncId
  | .callS _ _ _ _ fs => fs
  | _ => []
/-- The operations of a region, one by one. -/
def opsOK (P : Program) (nt : Nat) (ops : Array Oper) : List Oper → List (Option (Nat × Bool) × AOp) → Bool
  | [], [] => true
  | o :: r, (g, op) :: s => guardOK ops o g && oOK P nt o op && opsOK P nt ops r s
  | _, _ => false

section
variable {P : Program} {w : World} {S : SetS} {mu : Mu} {H : Heap} {env : Env} {a : Act} {nt : Nat} {K : Env → Heap → Prop}

/-- What is known of the functions that an operation calls. -/
def CallsOf (P : Program) (orc : Orc) (op : AOp) : Prop := (∀ f ∈ callsP op, POK P orc f) ∧ ∀ f ∈ callsS op, SOK P orc f

theorem op_sound (hR : Rel nt w S mu H env a) {o : Oper} {op : AOp} (hm : oOK P nt o op = true) {orc : Orc} {base : Nat} (hc : CallsOf P orc op) (hK : awpOp orc base op env H K) (Q : Exit → Act → World → Prop) : o.wp P a w (OpPost nt w S mu H K) Q := by
  cases op with
  | callP d f args off cnt fz => exact op_callP hR hm (hc.1 f (by simp [callsP])) hK Q
  | callS d x args mks fs => exact op_callS hR hm (fun f hf => hc.2 f hf) hK Q
  | _ => exact mop_sound hR (by simpa only [oOK] using hm) orc base hK Q

theorem oOK_dst {o : Oper} {op : AOp} (hm : oOK P nt o op = true) : dOKo nt o.dst op.dst = true := by
  have key : ∀ d, dOK nt o.dst d = true → dOKo nt o.dst (some d) = true := fun d h => by
    obtain ⟨h1, h2⟩ := dOK_some h
    rw [h1]
    simpa [dOKo] using h2
  cases op <;> simp only [oOK, mOK, Bool.and_eq_true] at hm <;> simp only [AOp.dst] <;> first
    | exact key _ hm.1
    | exact key _ hm.1.1
    | exact hm.1.1
    | exact hm
    | (have h := hm.1; simp at h; rw [h]; rfl)
    | (simp at hm; done)

theorem wanted_none {ops : Array Oper} {o : Oper} (h : guardOK ops o none = true) (a : Act) : Region.wanted o (yielded ops a.tmps) = true := by
  simp only [guardOK, Option.isNone_iff_eq_none] at h
  simp [Region.wanted, h]
theorem wanted_gone {ops : Array Oper} {o : Oper} {t : Nat} {want : Bool} (h : guardOK ops o (some (t, want)) = true) (hE : RelE w S mu H env a) (hb : get env t = .tup []) : Region.wanted o (yielded ops a.tmps) = false := by
  simp only [guardOK] at h
  split at h
  · rename_i g w' hg
    simp only [Bool.and_eq_true] at h
    obtain ⟨h1, h2⟩ := h
    split at h1
    · rename_i og hog
      split at h1
      · rename_i d hd
        have hdt := Nat.eq_of_beq_eq_true h1
        subst hdt
        have hr := hE d
        rw [hb] at hr
        simp only [RelV] at hr
        obtain ⟨us, hu, _⟩ := hr
        have hy : yielded ops a.tmps g = none := by
          simp only [yielded, hog, Option.bind_some, hd]
          rw [Array.getD_eq_getD_getElem?] at hu
          cases hx : a.tmps[d]? with
          | none => rfl
          | some x =>
            rw [hx] at hu
            simp only [Option.getD_some] at hu
            subst hu
            rfl
        simp [Region.wanted, hg, hy]
      · cases h1
    · cases h1
  · cases h
theorem rel_gone : RelV w S mu H (.tup []) undef := by
  simp only [RelV]
  exact ⟨#[], rfl, by simp [RelVs]⟩
theorem wanted_some {ops : Array Oper} {o : Oper} {t : Nat} {want b : Bool} (h : guardOK ops o (some (t, want)) = true) (hE : RelE w S mu H env a) (ht : t < a.tmps.size) (hb : get env t = .bool b) : Region.wanted o (yielded ops a.tmps) = (b == want) := by
  simp only [guardOK] at h
  split at h
  · rename_i g w' hg
    simp only [Bool.and_eq_true] at h
    obtain ⟨h1, h2⟩ := h
    split at h1
    · rename_i og hog
      split at h1
      · rename_i d hd
        have hdt := Nat.eq_of_beq_eq_true h1
        subst hdt
        have hw : w' = want := by simpa using h2
        subst hw
        have hr := hE d
        rw [hb] at hr
        have hbv := hr.bool
        have hget : a.tmps[d]? = some (.bool b) := by
          rw [Array.getElem?_eq_getElem ht]
          rw [Array.getD_eq_getD_getElem?, Array.getElem?_eq_getElem ht] at hbv
          simpa using hbv
        simp [Region.wanted, hg, yielded, hog, hd, hget]
      · cases h1
    · cases h1
  · cases h

/-- Operations from one on, in text order. -/
theorem ops_sound {ops : Array Oper} {orc : Orc} {base : Nat} {Q : Exit → Act → World → Prop} {w0 : World} {S0 : SetS} {mu0 : Mu} {H0 : Heap} :
    ∀ (l : List Oper) (s : List (Option (Nat × Bool) × AOp)) (k : Nat) (w : World) (S : SetS) (mu : Mu) (H : Heap) (env : Env) (a : Act), (∀ j, l[j]? = ops[k + j]?) → opsOK P nt ops l s = true → (∀ x ∈ s, CallsOf P orc x.2) →
      Rel nt w S mu H env a → Ev w0 S0 mu0 H0 w S mu H → awpOps orc base s env H K → (∀ a' w', OpPost nt w0 S0 mu0 H0 K a' w' → Q .normal a' w') →
      wpOps P ops Q ((List.range l.length).map (k + ·)) a w
  | [], [], k, w, S, mu, H, env, a, _, _, _, hR, hE, hK, hQ => by
    simp only [List.length_nil, List.range_zero, List.map_nil, wpOps]
    exact hQ _ _ ⟨env, H, S, mu, hR, hE, hK⟩
  | [], _ :: _, _, _, _, _, _, _, _, _, h, _, _, _, _, _ => by simp [opsOK] at h
  | _ :: _, [], _, _, _, _, _, _, _, _, h, _, _, _, _, _ => by simp [opsOK] at h
  | o :: r, (g, op) :: s, k, w, S, mu, H, env, a, hl, h, hc, hR, hE, hK, hQ => by
    simp only [opsOK, Bool.and_eq_true] at h
    obtain ⟨⟨hg, ho⟩, hr⟩ := h
    have hk : ops[k]? = some o := by have := hl 0; simpa using this.symm
    have hl' : ∀ j, r[j]? = ops[k + 1 + j]? := fun j => by have := hl (j + 1); rw [show k + 1 + j = k + (j + 1) by omega, ← this]; rfl
    have hrange : (List.range (o :: r).length).map (k + ·) = k :: (List.range r.length).map (k + 1 + ·) := by
      rw [List.length_cons, List.range_succ_eq_map, List.map_cons, List.map_map]
      congr 1
      apply List.map_congr_left
      intro j _
      simp
      omega
    rw [hrange]
    simp only [wpOps, hk]
    have hc' : ∀ x ∈ s, CallsOf P orc x.2 := fun x hx => hc x (by simp [hx])
    have hcall := hc (g, op) (by simp)
    have step : awpOp orc base op env H (fun e h => Cont op.gens e fun e => awpOps orc base s e h K) → o.wp P a w (wpOps P ops Q ((List.range r.length).map (k + 1 + ·))) Q := fun hop =>
      Oper.wp_mono (fun a' w' hp => by
        obtain ⟨env', H', S', mu', hR', hE', hK'⟩ := hp
        exact ops_sound r s (k + 1) w' S' mu' H' env' a' hl' hr hc' hR' (hE.trans hE') hK'.use hQ) (op_sound hR ho hcall hop Q)
    cases g with
    | none =>
      rw [if_pos (wanted_none hg a)]
      simp only [awpOps] at hK
      exact .inl (step hK)
    | some tw =>
      obtain ⟨t, want⟩ := tw
      simp only [awpOps] at hK
      split at hK
      · rename_i b hb
        have hK := Br.use hK
        have ht : t < a.tmps.size := by
          rcases Nat.lt_or_ge t a.tmps.size with h | h
          · exact h
          · have hr := hR.env t
            rw [hb] at hr
            have hbv := hr.bool
            rw [Array.getD_eq_getD_getElem?, Array.getElem?_eq_none h] at hbv
            simp only [Option.getD_none, undef] at hbv
            cases hbv
        have hw := wanted_some hg hR.env ht hb
        by_cases hbw : b = want
        · rw [if_pos (by rw [hw, hbw]; simp)]
          exact .inl (step (hK.1 hbw))
        · have hbw' : b = !want := by cases b <;> cases want <;> simp at hbw ⊢
          rw [if_neg (by rw [hw]; simpa using hbw)]
          exact ops_sound r s (k + 1) w S mu H _ _ hl' hr hc' (dOKo_put hR (oOK_dst ho) rel_gone) hE (hK.2 hbw') hQ
      · rename_i hb
        rw [if_neg (by rw [wanted_gone hg hR.env hb]; simp)]
        exact ops_sound r s (k + 1) w S mu H _ _ hl' hr hc' (dOKo_put hR (oOK_dst ho) rel_gone) hE hK hQ
      · exact hK.elim

/-- Kept free: nothing turns. -/
theorem resv_turn (hR : Rel nt w S mu H env a) (n : Nat) : Rel nt w S mu (H ++ List.replicate n Blk.resv) env a ∧ Ev w S mu H w S mu (H ++ List.replicate n Blk.resv) := by
  have hget : ∀ j b, (H ++ List.replicate n Blk.resv)[j]? = some b → H[j]? = some b ∨ b = Blk.resv := fun j b hb => by
    rcases Nat.lt_or_ge j H.length with h | h
    · rw [List.getElem?_append_left h] at hb; exact .inl hb
    · rw [List.getElem?_append_right h, List.getElem?_replicate] at hb
      split at hb
      · injection hb with hb; exact .inr hb.symm
      · cases hb
  have hT : Turn w S mu H w S mu (H ++ List.replicate n Blk.resv) :=
    ⟨Stab.refl _ _, fun b c t fr hb => ⟨c, fr, hb, rfl⟩, fun j b hb => ⟨b, by rw [List.getElem?_append_left (lt_of_get hb), hb], Compat.refl _ _⟩⟩
  refine ⟨hR.mono hT ⟨fun j b hb => ?_, fun i j bi bj b hi hj li lj mi mj => ?_, hR.heap.there, hR.heap.mus⟩, hT, Nat.le_refl _, rfl, rfl, rfl, fun _ _ _ => rfl, fun b o hs => .inl hs, fun j b hj => .inr ⟨j, hj⟩⟩
  · rcases hget j b hb with h | h
    · have hB := hR.heap.blk j b h
      cases b with
      | resv => trivial
      | dead => trivial
      | var t v fz =>
        obtain ⟨b, cells, ty, h1, h2, h3, h4, h5, h6⟩ := hB
        exact ⟨b, cells, ty, h1, h2, h3, RelA.mono hT _ _ h4, h5, h6⟩
      | fix e xs fz => exact hB
      | ext e m => exact hB
      | grw e m => exact hB
    · subst h; trivial
  · rcases hget i bi hi with h | h
    · rcases hget j bj hj with h' | h'
      · exact hR.heap.inj i j bi bj b h h' li lj mi mj
      · subst h'; cases lj
    · subst h; cases li
end
end Go.Vc
/- Operations whose order is open: what each comes to. -/
set_option linter.unusedVariables false
set_option linter.unusedSimpArgs false
namespace Go.Vc

def oars : Option Ar → List Ar
  | none => [] | some x => [x]
def VOp.ars : VOp → List Ar
  | .move x => [x]
  | .drop x => [x]
  | .pick c a b => [c, a, b]
  | .add x y | .sub x y | .mul x y | .quo x y | .rem x y | .bit _ x y | .shl x y | .shr x y | .cmp _ x y | .eqT _ _ x y | .min x y | .max x y => [x, y]
  | .not x | .neg x | .conv _ x | .convS _ x | .ext x _ | .len _ x | .fadr _ _ x | .loadC _ x | .nilck x | .sarr _ _ x | .fieldv _ _ x => [x]
  | .iadr _ _ x i | .sidx x i | .aidx _ _ x i => [x, i]
  | .slice _ x lo hi mx => x :: (oars lo ++ (oars hi ++ oars mx))
  | .sliceS x lo hi => x :: (oars lo ++ oars hi)
  | .slc _ x hi => [x, hi]
  | .sliceA _ _ x lo hi => x :: (oars lo ++ oars hi)
  | .build _ ps => ps.map (·.2)
  | .mkfn _ cs => cs
def AOp.ars : AOp → List Ar
  | .v _ o => o.ars
  | .load _ _ x => [x]
  | .alloc .. => []
  | .box _ _ _ x => [x]
  | .lit _ _ _ _ ps _ => ps.map (·.2)
  | .make _ _ _ _ l => [l]
  | .app _ _ _ _ s x _ => [s, x]
  | .appz _ _ _ _ s x => [s, x]
  | .store _ x y => [x, y]
  | .mk _ _ _ x => [x]
  | .close _ x => [x]
  | .trim _ x y => [x, y]
  | .acut _ _ _ x lo hi => x :: (oars lo ++ oars hi)
  | .callP _ _ args _ _ _ => args
  | .callS _ x args _ _ => x :: args
  | .eqnil _ _ x => [x]
  | .cap _ x => [x]
  | .boxc _ _ x => [x]
  | .stop _ => []

theorem evs_congr {e e' : Env} : ∀ (xs : List Ar), (∀ x ∈ xs, x.ev e = x.ev e') → evs xs e = evs xs e'
  | [], _ => rfl
  | x :: xs, h => by simp only [evs]; rw [h x (by simp), evs_congr xs fun y hy => h y (by simp [hy])]
theorem evps_congr {e e' : Env} : ∀ (ps : List (Nat × Ar)), (∀ x ∈ ps.map (·.2), x.ev e = x.ev e') → evps ps e = evps ps e'
  | [], _ => rfl
  | p :: ps, h => by
    obtain ⟨i, x⟩ := p
    simp only [evps]
    rw [h x (by simp), evps_congr ps fun y hy => h y (by simp at hy ⊢; exact .inr hy)]
theorem optI_congr {e e' : Env} (x : Option Ar) (d : Int) (h : ∀ y ∈ oars x, y.ev e = y.ev e') : optI x e d = optI x e' d := by
  cases x with
  | none => rfl
  | some x => simp only [optI]; rw [h x (by simp [oars])]

theorem vop_congr {e e' : Env} (vo : VOp) (h : ∀ x ∈ vo.ars, x.ev e = x.ev e') : vop vo e = vop vo e' := by
  cases vo with
  | move x => simp only [vop, h x (by simp [VOp.ars])]
  | drop x => simp only [vop, h x (by simp [VOp.ars])]
  | pick c a b => simp only [vop, h c (by simp [VOp.ars]), h a (by simp [VOp.ars]), h b (by simp [VOp.ars])]
  | add x y => simp only [vop, h x (by simp [VOp.ars]), h y (by simp [VOp.ars])]
  | sub x y => simp only [vop, h x (by simp [VOp.ars]), h y (by simp [VOp.ars])]
  | mul x y => simp only [vop, h x (by simp [VOp.ars]), h y (by simp [VOp.ars])]
  | quo x y => simp only [vop, h x (by simp [VOp.ars]), h y (by simp [VOp.ars])]
  | rem x y => simp only [vop, h x (by simp [VOp.ars]), h y (by simp [VOp.ars])]
  | bit o x y => simp only [vop, h x (by simp [VOp.ars]), h y (by simp [VOp.ars])]
  | shl x y => simp only [vop, h x (by simp [VOp.ars]), h y (by simp [VOp.ars])]
  | shr x y => simp only [vop, h x (by simp [VOp.ars]), h y (by simp [VOp.ars])]
  | cmp o x y => simp only [vop, h x (by simp [VOp.ars]), h y (by simp [VOp.ars])]
  | eqT t n x y => simp only [vop, h x (by simp [VOp.ars]), h y (by simp [VOp.ars])]
  | min x y => simp only [vop, h x (by simp [VOp.ars]), h y (by simp [VOp.ars])]
  | max x y => simp only [vop, h x (by simp [VOp.ars]), h y (by simp [VOp.ars])]
  | not x => simp only [vop, h x (by simp [VOp.ars])]
  | neg x => simp only [vop, h x (by simp [VOp.ars])]
  | conv k x => simp only [vop, h x (by simp [VOp.ars])]
  | convS b x => cases b <;> simp only [vop, h x (by simp [VOp.ars])]
  | ext x i => simp only [vop, h x (by simp [VOp.ars])]
  | len b x => cases b <;> simp only [vop, h x (by simp [VOp.ars])]
  | fadr t i x => simp only [vop, h x (by simp [VOp.ars])]
  | iadr n t x i => cases n <;> simp only [vop, h x (by simp [VOp.ars]), h i (by simp [VOp.ars])]
  | slice t x lo hi mx =>
    have h1 := h x (by simp [VOp.ars])
    have h2 : ∀ d, optI lo e d = optI lo e' d := fun d => optI_congr lo d fun y hy => h y (by simp [VOp.ars, hy])
    have h3 : ∀ d, optI hi e d = optI hi e' d := fun d => optI_congr hi d fun y hy => h y (by simp [VOp.ars, hy])
    cases mx with
    | none =>
      simp only [vop, h1]
      cases x.ev e' with
      | sl u xs tok => simp only [h2, h3]; cases optI lo e' 0 <;> cases optI hi e' xs.length <;> rfl
      | rsl id u off len => simp only [h2, h3]
      | _ => rfl
    | some m =>
      have h4 := h m (by simp [VOp.ars, oars])
      simp only [vop, h1]
      cases x.ev e' with
      | sl u xs tok => simp only [h2, h3]; cases optI lo e' 0 <;> cases optI hi e' xs.length <;> simp only [h4]
      | rsl id u off len => simp only [h2, h3]
      | _ => rfl
  | slc t x hi => simp only [vop, h x (by simp [VOp.ars]), h hi (by simp [VOp.ars])]
  | sliceS x lo hi =>
    have h1 := h x (by simp [VOp.ars])
    have h2 : ∀ d, optI lo e d = optI lo e' d := fun d => optI_congr lo d fun y hy => h y (by simp [VOp.ars, hy])
    have h3 : ∀ d, optI hi e d = optI hi e' d := fun d => optI_congr hi d fun y hy => h y (by simp [VOp.ars, hy])
    simp only [vop, h1, h2, h3]
  | sliceA n t x lo hi =>
    have h1 := h x (by simp [VOp.ars])
    have h2 : ∀ d, optI lo e d = optI lo e' d := fun d => optI_congr lo d fun y hy => h y (by simp [VOp.ars, hy])
    have h3 : ∀ d, optI hi e d = optI hi e' d := fun d => optI_congr hi d fun y hy => h y (by simp [VOp.ars, hy])
    simp only [vop, h1, h2, h3]
  | loadC t x => simp only [vop, h x (by simp [VOp.ars])]
  | build t ps => simp only [vop, evps_congr ps (by simpa only [VOp.ars] using h)]
  | mkfn f cs => simp only [vop, evs_congr cs (by simpa only [VOp.ars] using h)]
  | nilck x => simp only [vop, h x (by simp [VOp.ars])]
  | sarr n t x => simp only [vop, h x (by simp [VOp.ars])]
  | sidx x i => simp only [vop, h x (by simp [VOp.ars]), h i (by simp [VOp.ars])]
  | aidx n t x i => simp only [vop, h x (by simp [VOp.ars]), h i (by simp [VOp.ars])]
  | fieldv t i x => simp only [vop, h x (by simp [VOp.ars])]

theorem oout_congr {orc : Orc} {h : Heap} {base : Nat} {e e' : Env} (o : AOp) (hx : ∀ x ∈ o.ars, x.ev e = x.ev e') : oout orc base o e h = oout orc base o e' h := by
  cases o with
  | v d o => simp only [oout, vop_congr o (by simpa only [AOp.ars] using hx)]
  | load d t x => simp only [oout, hx x (by simp [AOp.ars])]
  | alloc d off t => rfl
  | box d off t x => simp only [oout, hx x (by simp [AOp.ars])]
  | lit d off e n ps fx => simp only [oout, evps_congr ps (by simpa only [AOp.ars] using hx)]
  | make d off e bs l => simp only [oout, hx l (by simp [AOp.ars])]
  | app d off e bs s x fx => simp only [oout, hx s (by simp [AOp.ars]), hx x (by simp [AOp.ars])]
  | appz d off e bs s x => rfl
  | store t x y => simp only [oout, hx x (by simp [AOp.ars]), hx y (by simp [AOp.ars])]
  | mk d off t x => simp only [oout, hx x (by simp [AOp.ars])]
  | close d x => simp only [oout, hx x (by simp [AOp.ars])]
  | trim d x y => rfl
  | acut d n t x lo hi =>
    have h2 : ∀ d, optI lo e d = optI lo e' d := fun d => optI_congr lo d fun y hy => hx y (by simp [AOp.ars, hy])
    have h3 : ∀ d, optI hi e d = optI hi e' d := fun d => optI_congr hi d fun y hy => hx y (by simp [AOp.ars, hy])
    simp only [oout, hx x (by simp [AOp.ars]), h2, h3]
  | callP d f args off cnt fz => simp only [oout, evs_congr args (by simpa only [AOp.ars] using hx)]
  | callS d x args mks fs => simp only [oout, hx x (by simp [AOp.ars]), evs_congr args fun y hy => hx y (by simp [AOp.ars, hy])]
  | eqnil d n x => rfl
  | cap d x => simp only [oout, hx x (by simp [AOp.ars])]
  | boxc d t x => simp only [oout, hx x (by simp [AOp.ars])]
  | stop d => rfl

theorem layW_lay : ∀ (n : Heap) (H : Heap) (i : Nat), lay H i n = setAll H (layW i n)
  | [], _, _ => rfl
  | b :: r, H, i => by simp only [lay, layW, setAll]; exact layW_lay r _ _
theorem setAll_append : ∀ (a b : List (Nat × Blk)) (H : Heap), setAll H (a ++ b) = setAll (setAll H a) b
  | [], _, _ => rfl
  | (i, x) :: r, b, H => by simp only [List.cons_append, setAll]; exact setAll_append r b _
theorem layW_mem : ∀ (n : Heap) (i j : Nat), i ≤ j → j < i + n.length → j ∈ (layW i n).map (·.1)
  | [], i, j, h1, h2 => by simp at h2; omega
  | b :: r, i, j, h1, h2 => by
    simp only [layW, List.map_cons, List.mem_cons]
    by_cases h : j = i
    · exact .inl h
    · exact .inr (layW_mem r (i + 1) j (by omega) (by simp at h2; omega))
theorem agree_getD {H h : Heap} {id : Nat} (e : H[id]? = h[id]?) : H.getD id .dead = h.getD id .dead := by
  rw [List.getD_eq_getElem?_getD, List.getD_eq_getElem?_getD, e]
theorem frzW_frz : ∀ (ids : List Nat) (H H1 : Heap), H1.length = H.length → (∀ id, id ∈ ids → H1[id]? = H[id]? ∨ ∃ e xs, H1[id]? = some (.fix e xs true) ∧ ∃ fz, H[id]? = some (.fix e xs fz)) → frz H1 ids = setAll H1 (frzW H ids)
  | [], H, H1, _, _ => rfl
  | id :: r, H, H1, hl, h => by
    have key : (∃ e xs fz, H[id]? = some (.fix e xs fz) ∧ ∃ fz', H1[id]? = some (.fix e xs fz')) ∨ ((∀ e xs fz, H[id]? ≠ some (.fix e xs fz)) ∧ H1[id]? = H[id]?) := by
      rcases h id (by simp) with h1 | ⟨e, xs, h1, fz, h2⟩
      · by_cases hx : ∃ e xs fz, H[id]? = some (.fix e xs fz)
        · obtain ⟨e, xs, fz, hx⟩ := hx
          exact .inl ⟨e, xs, fz, hx, fz, by rw [h1, hx]⟩
        · exact .inr ⟨fun e xs fz hh => hx ⟨e, xs, fz, hh⟩, h1⟩
      · exact .inl ⟨e, xs, fz, h2, true, h1⟩
    rcases key with ⟨e, xs, fz, h1, fz', h2⟩ | ⟨h1, h2⟩
    · have e1 : H.getD id .dead = .fix e xs fz := by rw [List.getD_eq_getElem?_getD, h1]; rfl
      have e2 : H1.getD id .dead = .fix e xs fz' := by rw [List.getD_eq_getElem?_getD, h2]; rfl
      simp only [frz, frzW, e1, e2, setAll]
      refine frzW_frz r H _ (by simpa using hl) fun id' hid' => ?_
      by_cases hi : id = id'
      · subst hi
        right
        have hlt : id < H1.length := by
          rcases Nat.lt_or_ge id H1.length with h | h
          · exact h
          · rw [List.getElem?_eq_none h] at h2; cases h2
        exact ⟨e, xs, by rw [List.getElem?_set]; simp [hlt], fz, h1⟩
      · rw [List.getElem?_set, if_neg hi]
        exact h id' (by simp [hid'])
    · have e2 := agree_getD h2
      have : frz H1 (id :: r) = frz H1 r := by
        simp only [frz, e2]
        split
        · rename_i e xs fz hh
          exfalso
          cases hx : H[id]? with
          | none => rw [List.getD_eq_getElem?_getD, hx] at hh; cases hh
          | some b => rw [List.getD_eq_getElem?_getD, hx] at hh; simp at hh; rw [hh] at hx; exact h1 _ _ _ hx
        · rfl
      have t2 : frzW H (id :: r) = frzW H r := by
        simp only [frzW]
        split
        · rename_i e xs fz hh
          exfalso
          cases hx : H[id]? with
          | none => rw [List.getD_eq_getElem?_getD, hx] at hh; cases hh
          | some b => rw [List.getD_eq_getElem?_getD, hx] at hh; simp at hh; rw [hh] at hx; exact h1 _ _ _ hx
        · rfl
      rw [this, t2]
      exact frzW_frz r H H1 hl fun id' hid' => h id' (by simp [hid'])

mutual
theorem dat_agree {H h : Heap} : ∀ (v : AV), (∀ id ∈ rids v, H[id]? = h[id]?) → datA H v = datA h v ∧ expo H v = expo h v
  | .undef, _ => ⟨rfl, rfl⟩
  | .int .., _ => ⟨rfl, rfl⟩
  | .bool .., _ => ⟨rfl, rfl⟩
  | .str .., _ => ⟨rfl, rfl⟩
  | .sl e xs t, _ => by cases t <;> exact ⟨rfl, rfl⟩
  | .rsl id e o n, hh => by
    have := agree_getD (hh id (by simp [rids]))
    simp only [datA, expo, this]
    exact ⟨trivial, trivial⟩
  | .st vs, hh => by
    obtain ⟨h1, h2⟩ := dats_agree vs (by simpa [rids] using hh)
    simp only [datA, expo, h1, h2]
    exact ⟨trivial, trivial⟩
  | .arr .., _ => ⟨rfl, rfl⟩
  | .ptr .., _ => ⟨rfl, rfl⟩
  | .cptr .., _ => ⟨rfl, rfl⟩
  | .nilp, _ => ⟨rfl, rfl⟩
  | .fn f [], _ => ⟨rfl, rfl⟩
  | .fn f (_ :: _), _ => ⟨rfl, rfl⟩
  | .nilfn, _ => ⟨rfl, rfl⟩
  | .tup _, _ => ⟨rfl, rfl⟩
theorem dats_agree {H h : Heap} : ∀ (vs : List AV), (∀ id ∈ ridss vs, H[id]? = h[id]?) → datAs H vs = datAs h vs ∧ expos H vs = expos h vs
  | [], _ => ⟨rfl, rfl⟩
  | v :: vs, hh => by
    obtain ⟨h1, h2⟩ := dat_agree v fun id hid => hh id (by simp [ridss, hid])
    obtain ⟨h3, h4⟩ := dats_agree vs fun id hid => hh id (by simp [ridss, hid])
    simp only [datAs, expos, h1, h2, h3, h4]
    exact ⟨trivial, trivial⟩
end
theorem resvs_agree {H h : Heap} : ∀ (k i : Nat), (∀ j, i ≤ j → j < i + k → H[j]? = h[j]?) → resvs H i k = resvs h i k
  | 0, _, _ => rfl
  | k + 1, i, hh => by
    simp only [resvs, agree_getD (hh i (Nat.le_refl _) (by omega))]
    rw [resvs_agree k (i + 1) fun j h1 h2 => hh j (by omega) (by omega)]
theorem src_agree {H h : Heap} (e : Ty) (v : AV) (hh : ∀ id ∈ srcIds v, H[id]? = h[id]?) : srcOf e H v = srcOf e h v := by
  cases v with
  | rsl id u o n => simp only [srcOf, agree_getD (hh id (by simp [srcIds]))]
  | _ => rfl

theorem ded_sub : ∀ (l acc : List Nat) (x : Nat), x ∈ acc → x ∈ ded acc l
  | [], acc, x, h => h
  | y :: l, acc, x, h => by
    simp only [ded]
    cases memN y acc
    · exact ded_sub l _ x (by simp [h])
    · exact ded_sub l _ x h
theorem one_inj {c c' : Prop} {v v' : AV} {ws ws' : List (Nat × Blk)} {rs rs' : List Nat} (h : OT.one c v ws rs = OT.one c' v' ws' rs') : c = c' ∧ v = v' ∧ ws = ws' ∧ rs = rs' := by
  injection h with h1 h2 h3 h4
  exact ⟨h1, h2, h3, h4⟩
theorem prOT_res : ∀ (q : PR) (k : Prop → AV → Heap → OT), (prOT q k).res = match q.res with
    | .ok r n => (k True r n).res
    | .iff c r n => (k c r n).res
    | _ => .none
  | .ok _ _, _ => rfl
  | .iff _ _ _, _ => rfl
  | .bad, _ => rfl
  | .br b x y, k => by
    simp only [prOT, OT.res, PR.res]
    cases b
    · exact prOT_res y k
    · exact prOT_res x k
theorem srOT_res : ∀ (q : SR) (k : Prop → AV → Heap → OT), (srOT q k).res = match q.res with
    | .ok r n => (k True r n).res
    | .iff c r n => (k c r n).res
    | _ => .none
  | .ok _ _, _ => rfl
  | .iff _ _ _, _ => rfl
  | .bad, _ => rfl
  | .br b x y, k => by
    simp only [srOT, OT.res, SR.res]
    cases b
    · exact srOT_res y k
    · exact srOT_res x k

/-- Along the text or not: an operation comes to what 'oout' says. -/
theorem setAll_set : ∀ (ws : List (Nat × Blk)) (H : Heap) (i : Nat) (b : Blk), i ∈ ws.map (·.1) → setAll (H.set i b) ws = setAll H ws
  | [], _, _, _, h => by simp at h
  | (j, c) :: r, H, i, b, h => by
    simp only [setAll]
    by_cases hj : i = j
    · subst hj
      rw [List.set_set]
    · rw [List.set_comm _ _ hj, setAll_set r _ i b (by simpa [hj] using h)]
theorem pushW_ids (f : Nat → Nat) : ∀ (rho : List Nat) (n : Heap), n.length = rho.length → (pushW f rho n).map (·.1) = rho
  | [], [], _ => rfl
  | [], _ :: _, h => by simp at h
  | _ :: _, [], h => by simp at h
  | id :: r, b :: n, h => by
    simp only [pushW, List.map_cons, pushW_ids f r n (by simpa using h)]
theorem memN_mem {x : Nat} : ∀ {l : List Nat}, memN x l = true → x ∈ l
  | [], h => by simp [memN] at h
  | y :: r, h => by
    simp only [memN, Bool.or_eq_true] at h
    rcases h with h | h
    · rw [Nat.eq_of_beq_eq_true h]; simp
    · simp [memN_mem h]
theorem blks_agree {H h : Heap} {rho : List Nat} (hag : ∀ id, id ∈ rho → H[id]? = h[id]?) : ∀ l : List Nat, (∀ x ∈ l, x ∈ rho) → blks H l = blks h l
  | [], _ => rfl
  | y :: l, hl => by
    simp only [blks]
    rw [agree_getD (hag y (hl y (by simp))), blks_agree hag l fun x hx => hl x (by simp [hx])]
theorem loc_agree {orc : Orc} {f : FuncId} {vs : List AV} {H h : Heap} {rho : List Nat} (hrho : rhoOf vs h = rho) (hg : rhoOK vs h rho = true) (hag : ∀ id, id ∈ rho → H[id]? = h[id]?) :
    rhoOf vs H = rho ∧ rhoOK vs H rho = true ∧ blks H rho = blks h rho := by
  have b0 := blks_agree hag rho fun x hx => hx
  have hsub : ∀ x ∈ ded [] (idsAs vs), x ∈ rho := by
    intro y hy
    rw [← hrho]
    unfold rhoOf
    exact ded_sub _ _ _ hy
  have b1 := blks_agree hag (ded [] (idsAs vs)) hsub
  refine ⟨?_, ?_, b0⟩
  · rw [← hrho]
    unfold rhoOf
    rw [b1]
  · unfold rhoOK
    rw [b0]
    exact hg
theorem oout_op {orc : Orc} {base : Nat} {e : Env} {o : AOp} {h : Heap} {c : Prop} {v : AV} {ws : List (Nat × Blk)} {rs : List Nat} (ho : (oout orc base o e h).res = .one c v ws rs) :
    ∀ (H : Heap) (K : Env → Heap → Prop), c → H.length = h.length → (∀ id, id ∈ ws.map (·.1) ∨ id ∈ rs → H[id]? = h[id]?) → K (putO e o.dst v) (setAll H ws) → awpOp orc base o e H K := by
  intro H K hc hlen hag hK
  have dead : OT.res .none = .one c v ws rs → False := fun h => by cases h
  cases o with
  | v d vo =>
    simp only [oout] at ho
    cases hv : vop vo e with
    | ok u =>
      rw [hv] at ho
      obtain ⟨rfl, rfl, rfl, rfl⟩ := one_inj ho
      simp only [awpOp, hv]
      exact hK
    | iff c' u =>
      rw [hv] at ho
      obtain ⟨rfl, rfl, rfl, rfl⟩ := one_inj ho
      simp only [awpOp, hv]
      exact ⟨hc, hK⟩
    | bad => rw [hv] at ho; cases ho
  | load d t x =>
    simp only [oout] at ho
    cases hv : x.ev e <;> simp only [hv] at ho <;> first | (cases ho; done) | skip
    · rename_i id p u
      cases hs : Ty.same u t with
      | false => rw [hs] at ho; cases ho
      | true =>
        rw [hs] at ho
        simp only [cond_true] at ho
        cases hb : h.getD id .dead with
        | var T u' fz =>
          simp only [hb] at ho
          obtain ⟨rfl, rfl, rfl, rfl⟩ := one_inj ho
          have hg := (agree_getD (hag id (.inr (by simp)))).trans hb
          simp only [awpOp, hv, hs, cond_true, hg]
          exact hK
        | fix f xs fz =>
          simp only [hb] at ho
          split at ho
          · rename_i n q
            obtain ⟨rfl, rfl, rfl, rfl⟩ := one_inj ho
            have hg := (agree_getD (hag id (.inr (by simp)))).trans hb
            simp only [awpOp, hv, hs, cond_true, hg]
            exact hK
          · cases ho
        | resv => simp only [hb] at ho; cases ho
        | dead => simp only [hb] at ho; cases ho
        | ext f n => simp only [hb] at ho; cases ho
        | grw f n => simp only [hb] at ho; cases ho
    · rename_i u d'
      cases hs : Ty.same u t with
      | false => rw [hs] at ho; cases ho
      | true =>
        rw [hs] at ho
        obtain ⟨rfl, rfl, rfl, rfl⟩ := one_inj ho
        simp only [awpOp, hv, hs, cond_true]
        exact hK
  | alloc d off t =>
    simp only [oout] at ho
    split at ho
    · rename_i hb
      obtain ⟨rfl, rfl, rfl, rfl⟩ := one_inj ho
      have hg := (agree_getD (hag (base + off) (.inl (by simp)))).trans hb
      simp only [awpOp, hg]
      exact hK
    · cases ho
  | box d off t x =>
    simp only [oout] at ho
    split at ho
    · rename_i hb
      cases hf : fitsV (x.ev e) t with
      | false => rw [hf] at ho; cases ho
      | true =>
        rw [hf] at ho
        obtain ⟨rfl, rfl, rfl, rfl⟩ := one_inj ho
        have hg := (agree_getD (hag (base + off) (.inl (by simp)))).trans hb
        simp only [awpOp, hg, hf, cond_true]
        exact hK
    · cases ho
  | lit d off el n ps fx =>
    simp only [oout] at ho
    split at ho
    · rename_i hb
      cases hf : fitPartsD el n (evps ps e) with
      | false => rw [hf] at ho; cases ho
      | true =>
        rw [hf] at ho
        simp only [cond_true] at ho
        cases fx with
        | false =>
          obtain ⟨rfl, rfl, rfl, rfl⟩ := one_inj ho
          have hg := (agree_getD (hag (base + off) (.inl (by simp)))).trans hb
          simp only [awpOp, hg, hf, cond_true, cond_false, nrmPs_eq]
          exact hK
        | true =>
          simp only [cond_true] at ho
          cases hn : Nat.beq n 0 with
          | true =>
            rw [hn] at ho
            obtain ⟨rfl, rfl, rfl, rfl⟩ := one_inj ho
            have hg := (agree_getD (hag (base + off) (.inr (by simp)))).trans hb
            simp only [awpOp, hg, hf, cond_true, hn, nrmPs_eq]
            exact hK
          | false =>
            rw [hn] at ho
            obtain ⟨rfl, rfl, rfl, rfl⟩ := one_inj ho
            have hg := (agree_getD (hag (base + off) (.inl (by simp)))).trans hb
            simp only [awpOp, hg, hf, cond_true, hn, cond_false, nrmPs_eq]
            exact hK
    · cases ho
  | make d off el bs l =>
    simp only [oout] at ho
    cases hoff : Nat.ble 500 off with
    | true => rw [hoff] at ho; cases ho
    | false =>
    rw [hoff, cond_false] at ho
    split at ho
    · rename_i k n hb hv
      obtain ⟨rfl, rfl, rfl, rfl⟩ := one_inj ho
      have hg := (agree_getD (hag (base + off) (.inl (by simp)))).trans hb
      simp only [awpOp, hoff, cond_false, hg, hv]
      exact ⟨hc, hK⟩
    · cases ho
  | app d off el bs s x fx =>
    simp only [oout] at ho
    cases hy : srcOf el h (x.ev e) with
    | none => simp only [hy] at ho; cases ho
    | some ys =>
      cases hs : s.ev e <;> simp only [hy, hs] at ho <;> first | (cases ho; done) | skip
      rename_i u xs tk
      cases tk with
      | no => cases ho
      | own id =>
        simp only at ho
        cases hu : Ty.same u el with
        | false => rw [hu] at ho; cases ho
        | true =>
          rw [hu] at ho
          simp only [cond_true] at ho
          split at ho
          · rename_i f m hb
            cases hfx : (fx || !Ty.same f el) with
            | true => rw [hfx] at ho; cases ho
            | false =>
              rw [hfx] at ho
              simp only [cond_false] at ho
              obtain ⟨rfl, rfl, rfl, rfl⟩ := one_inj ho
              have hg := (agree_getD (hag id (.inl (by simp)))).trans hb
              have hsr := (src_agree (H := H) (h := h) el (x.ev e) fun i hi => hag i (.inr hi)).trans hy
              simp only [awpOp, hsr, hs, hu, cond_true, hg, hfx, cond_false]
              exact ⟨hc, hK⟩
          · cases ho
      | full =>
        simp only at ho
        cases hu : Ty.same u el with
        | false => rw [hu] at ho; cases ho
        | true =>
          rw [hu] at ho
          simp only [cond_true] at ho
          split at ho
          · rename_i hb
            cases fx with
            | true =>
              obtain ⟨rfl, rfl, rfl, rfl⟩ := one_inj ho
              have hg := (agree_getD (hag (base + off) (.inl (by simp)))).trans hb
              have hsr := (src_agree (H := H) (h := h) el (x.ev e) fun i hi => hag i (.inr hi)).trans hy
              simp only [awpOp, hsr, hs, hu, cond_true, hg]
              exact ⟨hc, hK⟩
            | false =>
              obtain ⟨rfl, rfl, rfl, rfl⟩ := one_inj ho
              have hg := (agree_getD (hag (base + off) (.inl (by simp)))).trans hb
              have hsr := (src_agree (H := H) (h := h) el (x.ev e) fun i hi => hag i (.inr hi)).trans hy
              simp only [awpOp, hsr, hs, hu, cond_true, hg, cond_false]
              exact ⟨hc, hK⟩
          · cases ho
  | store t x y =>
    simp only [oout] at ho
    cases hv : x.ev e <;> simp only [hv] at ho <;> first | (cases ho; done) | skip
    rename_i id p u
    cases hs : (Ty.same u t && fitsV (y.ev e) t) with
    | false => rw [hs] at ho; cases ho
    | true =>
      rw [hs] at ho
      simp only [cond_true] at ho
      cases hb : h.getD id .dead with
      | var T u' fz =>
        cases fz with
        | true => simp only [hb] at ho; cases ho
        | false =>
          simp only [hb] at ho
          cases hf : (flds p || fits (y.ev e) t) with
          | false => rw [hf] at ho; cases ho
          | true =>
            rw [hf] at ho
            obtain ⟨rfl, rfl, rfl, rfl⟩ := one_inj ho
            have hg := (agree_getD (hag id (.inl (by simp)))).trans hb
            simp only [awpOp, hv, hs, cond_true, nrm_eq, hg, hf]
            exact hK
      | fix f xs fz =>
        cases fz with
        | true => simp only [hb] at ho; cases ho
        | false =>
          simp only [hb] at ho
          split at ho
          · rename_i n q
            cases hf : fits (y.ev e) t with
            | false => rw [hf] at ho; cases ho
            | true =>
              rw [hf] at ho
              obtain ⟨rfl, rfl, rfl, rfl⟩ := one_inj ho
              have hg := (agree_getD (hag id (.inl (by simp)))).trans hb
              simp only [awpOp, hv, hs, cond_true, nrm_eq, hg, hf]
              exact hK
          · cases ho
      | resv => simp only [hb] at ho; cases ho
      | dead => simp only [hb] at ho; cases ho
      | ext f n => simp only [hb] at ho; cases ho
      | grw f n => simp only [hb] at ho; cases ho
  | mk d off el x =>
    simp only [oout] at ho
    split at ho
    · rename_i u hv
      cases hu : (Ty.same u el && !Nat.ble 500 off) with
      | false => rw [hu] at ho; cases ho
      | true =>
        rw [hu] at ho
        simp only [cond_true] at ho
        simp only [Bool.and_eq_true, Bool.not_eq_true'] at hu
        split at ho
        · rename_i hb
          obtain ⟨rfl, rfl, rfl, rfl⟩ := one_inj ho
          have hg := (agree_getD (hag (base + off) (.inl (by simp)))).trans hb
          simp only [awpOp, hv, hu.1, hu.2, cond_true, cond_false, hg]
          exact hK
        · cases ho
    · rename_i u xs id hv
      obtain ⟨rfl, rfl, rfl, rfl⟩ := one_inj ho
      simp only [awpOp, hv]
      exact hK
    · cases ho
  | close d x =>
    simp only [oout] at ho
    split at ho
    · rename_i id u len hv
      split at ho
      · rename_i f xs hb
        cases hu : Ty.same u f with
        | false => rw [hu] at ho; cases ho
        | true =>
          rw [hu] at ho
          simp only [cond_true] at ho
          obtain ⟨rfl, rfl, rfl, rfl⟩ := one_inj ho
          have hg := (agree_getD (hag id (.inl (by simp)))).trans hb
          simp only [awpOp, hv, hg, hu, cond_true]
          exact ⟨hc, hK⟩
      · cases ho
    · cases ho
  | acut d n el x lo hi =>
    simp only [oout] at ho
    cases hv : x.ev e <;> simp only [hv] at ho <;> first | (cases ho; done) | skip
    rename_i id p u
    cases hu : Ty.same u (.arr n el) with
    | false => rw [hu] at ho; cases ho
    | true =>
      rw [hu] at ho
      simp only [cond_true] at ho
      split at ho
      · rename_i T v' fz hb
        split at ho
        · rename_i n' e' xs l k hp hl hk
          obtain ⟨rfl, rfl, rfl, rfl⟩ := one_inj ho
          have hg := (agree_getD (hag id (.inl (by simp)))).trans hb
          simp only [awpOp, hv, hu, cond_true, hg, hp, hl, hk]
          exact ⟨hc, hK⟩
        · cases ho
      · cases ho
  | callP d f args off cnt fz =>
    simp only [oout] at ho
    cases hd : datAs h (evs args e) with
    | false => rw [hd] at ho; cases ho
    | true =>
      rw [hd] at ho
      simp only [cond_true, prOT_res] at ho
      have key : ∀ (r : AV) (n : Heap) (c' : Prop), (OT.res (bif (fz || (ridss (evs args e)).isEmpty || (scal r && n.isEmpty)) && Nat.ble n.length cnt && resvs h (base + off) n.length
          then .one c' (renA 0 (base + off) r) ((bif fz then frzW h (ridss (evs args e)) else []) ++ layW (base + off) (renH 0 (base + off) n)) (ridss (evs args e)) else .none)) = .one c v ws rs →
          c' = c ∧ (datAs H (evs args e) = true ∧ expos H (evs args e) = expos h (evs args e)) ∧
          ((fz || (ridss (evs args e)).isEmpty || (scal r && n.isEmpty)) && Nat.ble n.length cnt && resvs H (base + off) n.length) = true ∧
          K (putO e d (renA 0 (base + off) r)) (lay (bif fz then frz H (ridss (evs args e)) else H) (base + off) (renH 0 (base + off) n)) := by
        intro r n c' hq
        cases hg : ((fz || (ridss (evs args e)).isEmpty || (scal r && n.isEmpty)) && Nat.ble n.length cnt && resvs h (base + off) n.length) with
        | false => rw [hg] at hq; cases hq
        | true =>
          rw [hg] at hq
          simp only [cond_true, OT.res] at hq
          obtain ⟨rfl, rfl, rfl, rfl⟩ := one_inj hq
          obtain ⟨d1, d2⟩ := dats_agree (H := H) (h := h) (evs args e) fun id hid => hag id (.inr hid)
          have hr := resvs_agree (H := H) (h := h) n.length (base + off) fun j h1 h2 => hag j (.inl (by
            rw [List.map_append, List.mem_append]
            exact .inr (layW_mem _ _ _ h1 (by rw [renH_length]; exact h2))))
          refine ⟨rfl, ⟨d1.trans hd, d2⟩, by rw [hr]; exact hg, ?_⟩
          have : lay (bif fz then frz H (ridss (evs args e)) else H) (base + off) (renH 0 (base + off) n) = setAll H ((bif fz then frzW h (ridss (evs args e)) else []) ++ layW (base + off) (renH 0 (base + off) n)) := by
            rw [setAll_append, layW_lay]
            cases fz with
            | false => rfl
            | true =>
              simp only [cond_true]
              rw [frzW_frz (ridss (evs args e)) h H hlen fun id hid => .inl (hag id (.inr hid))]
          rw [this]
          exact hK
      cases hp : (orc.p f (drpF (orc.fu f) (expos h (evs args e)))).res with
      | bad => simp only [hp] at ho; cases ho
      | br _ _ _ => simp only [hp] at ho; cases ho
      | ok r n =>
        simp only [hp] at ho
        obtain ⟨_, ⟨d1, d2⟩, k1, k2⟩ := key r n True ho
        simp only [awpOp, nrms_eq, fL_eq, d1, cond_true, d2, prK_iff, hp, k1]
        exact k2
      | iff c' r n =>
        simp only [hp] at ho
        obtain ⟨hcc, ⟨d1, d2⟩, k1, k2⟩ := key r n c' ho
        simp only [awpOp, nrms_eq, fL_eq, d1, cond_true, d2, prK_iff, hp, k1]
        exact ⟨by rw [hcc]; exact hc, k2⟩
  | callS d x args mks fs =>
    simp only [oout] at ho
    cases hv : x.ev e <;> simp only [hv] at ho <;> first | (cases ho; done) | skip
    rename_i f caps
    cases mks with
    | cons m0 mr =>
      cases mr with
      | cons _ _ => obtain ⟨_, _, _⟩ := m0; cases ho
      | nil =>
      obtain ⟨j, off, el⟩ := m0
      simp only at ho
      split at ho
      · rename_i u hj
        cases hu : (Ty.same u el && Nat.blt 0 el.size) with
        | false => rw [hu] at ho; cases ho
        | true =>
        rw [hu] at ho
        simp only [cond_true] at ho
        split at ho
        · rename_i hb
          generalize hvs : (evs args e).set j (.sl el [] (.own (base + off))) ++ caps = vs at ho
          generalize hh1 : h.set (base + off) (.ext el 0) = h1 at ho
          generalize hrho : rhoOf vs h1 = rho at ho
          unfold callOT at ho
          cases hg : ((oneAs caps && fs.any (Nat.beq f)) && rhoOK vs h1 rho && memN (base + off) rho) with
          | false => rw [hg] at ho; cases ho
          | true =>
          rw [hg] at ho
          simp only [cond_true, srOT_res] at ho
          simp only [Bool.and_eq_true] at hg
          obtain ⟨⟨hg1, hg2⟩, hg3⟩ := hg
          have hg1 : (oneAs caps && fs.any (Nat.beq f)) = true := by simp only [Bool.and_eq_true]; exact hg1
          have hin := memN_mem hg3
          have key : ∀ (r : AV) (n : Heap) (c' : Prop), (OT.res (bif Nat.beq n.length rho.length then .one c' (gmA (fun i => rho.getD i 0) r) (pushW (fun i => rho.getD i 0) rho n) rho else .none)) = .one c v ws rs →
              c' = c ∧ rs = rho ∧ Nat.beq n.length rho.length = true ∧ K (putO e d (gmA (fun i => rho.getD i 0) r)) (setAll (H.set (base + off) (.ext el 0)) (pushW (fun i => rho.getD i 0) rho n)) := by
            intro r n c' hq
            cases hl : Nat.beq n.length rho.length with
            | false => rw [hl] at hq; cases hq
            | true =>
              rw [hl] at hq
              simp only [cond_true, OT.res] at hq
              obtain ⟨rfl, rfl, rfl, rfl⟩ := one_inj hq
              refine ⟨rfl, rfl, rfl, ?_⟩
              rw [setAll_set _ _ _ _ (by rw [pushW_ids _ _ _ (Nat.eq_of_beq_eq_true hl)]; exact hin)]
              exact hK
          have fin : ∀ (r : AV) (n : Heap), rs = rho → (∀ k : AV → Heap → Prop, k (gmA (fun i => rho.getD i 0) r) (setAll (H.set (base + off) (.ext el 0)) (pushW (fun i => rho.getD i 0) rho n)) → (match (orc.s f (drpOs (pulAs rho vs)) (pulBs rho (blks h1 rho))).res with
              | .ok r n => bif Nat.beq n.length rho.length then k (gmA (fun i => rho.getD i 0) r) (setAll (H.set (base + off) (.ext el 0)) (pushW (fun i => rho.getD i 0) rho n)) else False
              | .iff c r n => bif Nat.beq n.length rho.length then Nd c (k (gmA (fun i => rho.getD i 0) r) (setAll (H.set (base + off) (.ext el 0)) (pushW (fun i => rho.getD i 0) rho n))) else False
              | _ => False)) → K (putO e d (gmA (fun i => rho.getD i 0) r)) (setAll (H.set (base + off) (.ext el 0)) (pushW (fun i => rho.getD i 0) rho n)) → awpOp orc base (.callS d x args [(j, off, el)] fs) e H K := by
            intro r n hrs hres hk
            have hag' : ∀ id, id ∈ rho → (H.set (base + off) (.ext el 0))[id]? = h1[id]? := fun id hid => by
              rw [← hh1, List.getElem?_set, List.getElem?_set, hlen, hag id (.inr (by rw [hrs]; exact hid))]
            have hgr : H.getD (base + off) .dead = .resv := (agree_getD (hag (base + off) (.inr (by rw [hrs]; exact hin)))).trans hb
            obtain ⟨q1, q2, q3⟩ := loc_agree (orc := orc) (f := f) hrho hg2 hag'
            have hmk : mkArgs base [(j, off, el)] (evs args e) H = some ((evs args e).set j (.sl el [] (.own (base + off))), H.set (base + off) (.ext el 0)) := by
              simp only [mkArgs, hj, hu, cond_true, hgr]
            simp only [awpOp, hv, hg1, cond_true, hmk, nrms_eq, nrmH_eq, fL_eq, hvs, q1]
            unfold locK
            rw [q2, q3]
            simp only [cond_true, srK_iff]
            exact hres (fun r h2 => K (putO e d r) h2) hk
          cases hs : (orc.s f (drpOs (pulAs rho vs)) (pulBs rho (blks h1 rho))).res with
          | ok r n =>
            simp only [hs] at ho
            obtain ⟨hcc, g1, g2, g3⟩ := key r n True ho
            refine fin r n g1 (fun k hk => ?_) g3
            rw [hs]
            simp only [g2, cond_true]
            exact hk
          | iff c' r n =>
            simp only [hs] at ho
            obtain ⟨hcc, g1, g2, g3⟩ := key r n c' ho
            refine fin r n g1 (fun k hk => ?_) g3
            rw [hs]
            simp only [g2, cond_true]
            exact ⟨by rw [hcc]; exact hc, hk⟩
          | bad => simp only [hs] at ho; cases ho
          | br _ _ _ => simp only [hs] at ho; cases ho
        · cases ho
      · cases ho
    | nil =>
    simp only at ho
    generalize hrho : rhoOf (evs args e ++ caps) h = rho at ho
    cases hg : (oneAs caps && fs.any (Nat.beq f) && rhoOK (evs args e ++ caps) h rho) with
    | false => rw [hg] at ho; cases ho
    | true =>
      rw [hg] at ho
      simp only [cond_true, srOT_res] at ho
      have hg1 : (oneAs caps && fs.any (Nat.beq f)) = true := by
        cases hx : (oneAs caps && fs.any (Nat.beq f)) with
        | true => rfl
        | false => rw [hx] at hg; simp at hg
      have hg2 : rhoOK (evs args e ++ caps) h rho = true := by
        rw [hg1] at hg
        simpa using hg
      have bl : (∀ id, id ∈ rho → H[id]? = h[id]?) → ∀ l : List Nat, (∀ x ∈ l, x ∈ rho) → blks H l = blks h l := by
        intro hag' l
        induction l with
        | nil => intro _; rfl
        | cons y l ih =>
          intro hl
          simp only [blks]
          rw [agree_getD (hag' y (hl y (by simp))), ih fun x hx => hl x (by simp [hx])]
      have key : ∀ (r : AV) (n : Heap) (c' : Prop), (OT.res (bif Nat.beq n.length rho.length then .one c' (gmA (fun i => rho.getD i 0) r) (pushW (fun i => rho.getD i 0) rho n) rho else .none)) = .one c v ws rs →
          c' = c ∧ rs = rho ∧ Nat.beq n.length rho.length = true ∧ K (putO e d (gmA (fun i => rho.getD i 0) r)) (setAll H (pushW (fun i => rho.getD i 0) rho n)) := by
        intro r n c' hq
        cases hl : Nat.beq n.length rho.length with
        | false => rw [hl] at hq; cases hq
        | true =>
          rw [hl] at hq
          simp only [cond_true, OT.res] at hq
          obtain ⟨rfl, rfl, rfl, rfl⟩ := one_inj hq
          exact ⟨rfl, rfl, rfl, hK⟩
      have fin : ∀ (r : AV) (n : Heap), rs = rho → (∀ k : AV → Heap → Prop, k (gmA (fun i => rho.getD i 0) r) (setAll H (pushW (fun i => rho.getD i 0) rho n)) → (match (orc.s f (drpOs (pulAs rho (evs args e ++ caps))) (pulBs rho (blks h rho))).res with
          | .ok r n => bif Nat.beq n.length rho.length then k (gmA (fun i => rho.getD i 0) r) (setAll H (pushW (fun i => rho.getD i 0) rho n)) else False
          | .iff c r n => bif Nat.beq n.length rho.length then Nd c (k (gmA (fun i => rho.getD i 0) r) (setAll H (pushW (fun i => rho.getD i 0) rho n))) else False
          | _ => False)) → K (putO e d (gmA (fun i => rho.getD i 0) r)) (setAll H (pushW (fun i => rho.getD i 0) rho n)) → awpOp orc base (.callS d x args [] fs) e H K := by
        intro r n hrs hres hk
        have hag' : ∀ id, id ∈ rho → H[id]? = h[id]? := fun id hid => hag id (.inr (by rw [hrs]; exact hid))
        have b0 := bl hag' rho fun x hx => hx
        have hsub : ∀ x ∈ ded [] (idsAs (evs args e ++ caps)), x ∈ rho := by
          intro y hy
          rw [← hrho]
          unfold rhoOf
          exact ded_sub _ _ _ hy
        have b1 := bl hag' (ded [] (idsAs (evs args e ++ caps))) hsub
        have hr2 : rhoOf (evs args e ++ caps) H = rho := by
          rw [← hrho]
          unfold rhoOf
          rw [b1]
        have hg3 : rhoOK (evs args e ++ caps) H rho = true := by
          unfold rhoOK
          rw [b0]
          exact hg2
        simp only [awpOp, hv, hg1, cond_true, mkArgs, nrms_eq, nrmH_eq, fL_eq, hr2]
        unfold locK
        rw [hg3, b0]
        simp only [cond_true, srK_iff]
        exact hres (fun r h2 => K (putO e d r) h2) hk
      cases hs : (orc.s f (drpOs (pulAs rho (evs args e ++ caps))) (pulBs rho (blks h rho))).res with
      | ok r n =>
        simp only [hs] at ho
        obtain ⟨hcc, h1, h2, h3⟩ := key r n True ho
        refine fin r n h1 (fun k hk => ?_) h3
        rw [hs]
        simp only [h2, cond_true]
        exact hk
      | iff c' r n =>
        simp only [hs] at ho
        obtain ⟨hcc, h1, h2, h3⟩ := key r n c' ho
        refine fin r n h1 (fun k hk => ?_) h3
        rw [hs]
        simp only [h2, cond_true]
        exact ⟨by rw [hcc]; exact hc, hk⟩
      | bad => simp only [hs] at ho; cases ho
      | br _ _ _ => simp only [hs] at ho; cases ho
  | cap d x =>
    simp only [oout] at ho
    split at ho
    · rename_i u xs hv
      obtain ⟨rfl, rfl, rfl, rfl⟩ := one_inj ho
      simp only [awpOp, hv]
      exact hK
    · cases ho
  | boxc d t x =>
    simp only [oout] at ho
    cases hf : fits (x.ev e) t with
    | false => rw [hf] at ho; cases ho
    | true =>
      rw [hf] at ho
      obtain ⟨rfl, rfl, rfl, rfl⟩ := one_inj ho
      simp only [awpOp, hf, cond_true, nrm_eq]
      exact hK
  | appz d off el bs s n => cases ho
  | trim d x y => cases ho
  | eqnil d n x => cases ho
  | stop d => cases ho
end Go.Vc
/- Operations whose order is open: any order comes to what the text's order says. -/
set_option linter.unusedVariables false
set_option linter.unusedSimpArgs false
namespace Go.Vc


/-! ### The check -/
def maskOf (ms : List Nat) : List Edge → Nat
  | [] => 0
  | e :: r => (bif Region.binds .any e then (1 <<< e.on) ||| ms.getD e.on 0 else 0) ||| maskOf ms r
def masksGo : List Oper → List Nat → List Nat
  | [], ms => ms
  | o :: r, ms => masksGo r (ms ++ [maskOf ms o.after.toList])
def backOK (o : Oper) (i : Nat) : Bool := o.after.toList.all fun e => !(Region.binds .any e) || Nat.blt e.on i
def arT : Ar → List Nat
  | .t n => [n]
  | .k _ => []
def readsOf (g : GD) : List Nat := (match g.1 with | some (t, _) => [t] | none => []) ++ g.2.ars.flatMap arT
def readGo (mask t : Nat) : List GD → Nat → Bool
  | [], _ => true
  | g :: r, k => (match g.2.dst with | some d => !(Nat.beq d t) || Nat.testBit mask k | none => true) && readGo mask t r (k + 1)
def dstIn (d : Nat) : List GD → Bool
  | [] => false
  | g :: r => (match g.2.dst with | some d' => Nat.beq d d' | none => false) || dstIn d r
def dstsOK : List GD → Bool
  | [] => true
  | g :: r => (match g.2.dst with | some d => !(dstIn d r) | none => true) && dstsOK r
/-- What is told to lie before does. -/
def preOK (ms : List Nat) (pre : List (List Nat)) : Nat → Nat → Bool
  | 0, _ => true
  | k + 1, i => (pre.getD i []).all (fun j => Nat.testBit (ms.getD i 0) j) && preOK ms pre k (i + 1)
/-- The open part, one by one. -/
def parOK (P : Program) (nt : Nat) (ops : Array Oper) (ms : List Nat) (all : List GD) : List Oper → List GD → Nat → Bool
  | _, [], _ => true
  | [], _ :: _, _ => false
  | o :: r, g :: s, i => guardOK ops o g.1 && oOK P nt o g.2 && Nat.beq (ms.getD i 0) (maskOf ms o.after.toList) && backOK o i && (readsOf g).all (fun t => readGo (ms.getD i 0) t all 0) && parOK P nt ops ms all r s (i + 1)
def onPrev (o : Oper) (i : Nat) : Bool := o.after.toList.any fun e => Region.binds .any e && Nat.beq (e.on + 1) i
/-- The rest, each behind the one before. -/
def tailOK : List Oper → Nat → Bool
  | [], _ => true
  | o :: r, i => backOK o i && onPrev o i && tailOK r (i + 1)
def drawOK (P : Program) (nt n : Nat) (ops : Array Oper) (pre : List (List Nat)) (par : List GD) (tail : List GD) : Bool :=
  let m := par.length
  let ms := masksGo ops.toList []
  parOK P nt ops ms par ops.toList par 0 && dstsOK par && preOK ms pre m 0 && opsOK P nt ops (ops.toList.drop m) tail &&
  (match ops.toList.drop m with
   | [] => true
   | o :: r => backOK o m && Nat.beq (Nat.land (maskOf ms o.after.toList) (2 ^ m - 1)) (2 ^ m - 1) && tailOK r (m + 1))

section
variable {P : Program} {nt n : Nat} {ops : Array Oper} {par : List GD} {ms : List Nat}

theorem maskOf_spec : ∀ (es : List Edge) (k : Nat), Nat.testBit (maskOf ms es) k = true → ∃ e ∈ es, Region.binds .any e = true ∧ (k = e.on ∨ Nat.testBit (ms.getD e.on 0) k = true)
  | [], k, h => by simp [maskOf] at h
  | e :: r, k, h => by
    simp only [maskOf, Nat.testBit_or, Bool.or_eq_true] at h
    rcases h with h | h
    · cases hb : Region.binds .any e with
      | false => rw [hb] at h; simp at h
      | true =>
        rw [hb] at h
        simp only [cond_true, Nat.testBit_or, Bool.or_eq_true] at h
        refine ⟨e, by simp, hb, ?_⟩
        rcases h with h | h
        · left
          rw [Nat.testBit_shiftLeft] at h
          simp only [Bool.and_eq_true, decide_eq_true_eq] at h
          obtain ⟨h1, h2⟩ := h
          have : k - e.on = 0 := by
            rcases Nat.eq_zero_or_pos (k - e.on) with h3 | h3
            · exact h3
            · obtain ⟨j, hj⟩ : ∃ j, k - e.on = j + 1 := ⟨k - e.on - 1, by omega⟩
              rw [hj, Nat.testBit_succ] at h2
              simp at h2
          omega
        · exact .inr h
    · obtain ⟨e', h1, h2⟩ := maskOf_spec r k h
      exact ⟨e', by simp [h1], h2⟩

theorem backOK_spec {o : Oper} {i : Nat} (h : backOK o i = true) : ∀ e ∈ o.after, Region.binds .any e = true → e.on < i := fun e he hb => by
  have := (List.all_eq_true.1 h) e (by simpa using he)
  rw [hb] at this
  simpa using this

theorem parOK_get : ∀ (l : List Oper) (s : List GD) (k : Nat), parOK P nt ops ms par l s k = true → ∀ i g, s[i]? = some g → ∃ o, l[i]? = some o ∧ guardOK ops o g.1 = true ∧ oOK P nt o g.2 = true ∧ ms.getD (k + i) 0 = maskOf ms o.after.toList ∧ backOK o (k + i) = true ∧
    ∀ t ∈ readsOf g, readGo (ms.getD (k + i) 0) t par 0 = true
  | _, [], _, _, i, g, h => by simp at h
  | [], _ :: _, _, h, _, _, _ => by simp [parOK] at h
  | o :: r, g :: s, k, h, 0, g', hg => by
    simp only [parOK, Bool.and_eq_true] at h
    simp at hg
    subst hg
    obtain ⟨⟨⟨⟨⟨h1, h2⟩, h3⟩, h4⟩, h5⟩, _⟩ := h
    exact ⟨o, rfl, h1, h2, Nat.eq_of_beq_eq_true h3, h4, fun t ht => (List.all_eq_true.1 h5) t ht⟩
  | o :: r, g :: s, k, h, i + 1, g', hg => by
    simp only [parOK, Bool.and_eq_true] at h
    obtain ⟨o', h1, h2⟩ := parOK_get r s (k + 1) h.2 i g' (by simpa using hg)
    rw [show k + (i + 1) = k + 1 + i by omega]
    exact ⟨o', by simpa using h1, h2⟩

theorem readGo_spec {mask t : Nat} : ∀ (l : List GD) (k : Nat), readGo mask t l k = true → ∀ (i : Nat) (g : GD), l[i]? = some g → g.2.dst = some t → Nat.testBit mask (k + i) = true
  | [], _, _, _, _, h, _ => by simp at h
  | g :: r, k, h, 0, g', hg, hd => by
    simp at hg
    subst hg
    simp only [readGo, hd, Bool.and_eq_true] at h
    simpa using h.1
  | g :: r, k, h, i + 1, g', hg, hd => by
    simp only [readGo, Bool.and_eq_true] at h
    have := readGo_spec r (k + 1) h.2 i g' (by simpa using hg) hd
    rwa [show k + (i + 1) = k + 1 + i by omega]

theorem dstIn_spec {d : Nat} : ∀ (l : List GD), dstIn d l = false → ∀ (i : Nat) (g : GD), l[i]? = some g → g.2.dst ≠ some d
  | [], _, _, _, h => by simp at h
  | g :: r, h, 0, g', hg => by
    simp at hg
    subst hg
    simp only [dstIn, Bool.or_eq_false_iff] at h
    intro hd
    rw [hd] at h
    simp at h
  | g :: r, h, i + 1, g', hg => by
    simp only [dstIn, Bool.or_eq_false_iff] at h
    exact dstIn_spec r h.2 i g' (by simpa using hg)
theorem dstsOK_spec : ∀ (l : List GD), dstsOK l = true → ∀ (i j : Nat) (g g' : GD) (d : Nat), l[i]? = some g → l[j]? = some g' → g.2.dst = some d → g'.2.dst = some d → i = j
  | [], _, _, _, _, _, _, h, _, _, _ => by simp at h
  | x :: r, h, 0, 0, g, g', d, _, _, _, _ => rfl
  | x :: r, h, 0, j + 1, g, g', d, hi, hj, hd, hd' => by
    simp at hi
    subst hi
    simp only [dstsOK, hd, Bool.and_eq_true] at h
    exact absurd hd' (dstIn_spec r (by simpa using h.1) j g' (by simpa using hj))
  | x :: r, h, i + 1, 0, g, g', d, hi, hj, hd, hd' => by
    simp at hj
    subst hj
    simp only [dstsOK, hd', Bool.and_eq_true] at h
    exact absurd hd (dstIn_spec r (by simpa using h.1) i g (by simpa using hi))
  | x :: r, h, i + 1, j + 1, g, g', d, hi, hj, hd, hd' => by
    simp only [dstsOK, Bool.and_eq_true] at h
    have := dstsOK_spec r h.2 i j g g' d (by simpa using hi) (by simpa using hj) hd hd'
    omega

theorem preOK_spec {pre : List (List Nat)} : ∀ (k i : Nat), preOK ms pre k i = true → ∀ j, i ≤ j → j < i + k → ∀ x ∈ pre.getD j [], Nat.testBit (ms.getD j 0) x = true
  | 0, i, _, j, h1, h2, _, _ => by omega
  | k + 1, i, h, j, h1, h2, x, hx => by
    simp only [preOK, Bool.and_eq_true] at h
    by_cases hij : j = i
    · subst hij
      exact (List.all_eq_true.1 h.1) x hx
    · exact preOK_spec k (i + 1) h.2 j (by omega) (by omega) x hx
theorem inN_spec {x : Nat} : ∀ {l : List Nat}, inN x l = true ↔ x ∈ l
  | [] => by simp [inN]
  | y :: r => by
    simp only [inN, Bool.or_eq_true, List.mem_cons]
    rw [inN_spec (l := r)]
    constructor
    · rintro (h | h)
      · exact .inl (Nat.eq_of_beq_eq_true h)
      · exact .inr h
    · rintro (h | h)
      · subst h; exact .inl (Nat.beq_refl x)
      · exact .inr h
theorem meets_spec : ∀ {xs ys : List Nat}, meets xs ys = true ↔ ∃ x, x ∈ xs ∧ x ∈ ys
  | [], ys => by simp [meets]
  | x :: r, ys => by
    simp only [meets, Bool.or_eq_true]
    rw [inN_spec, meets_spec (xs := r)]
    constructor
    · rintro (h | ⟨y, h1, h2⟩)
      · exact ⟨x, by simp, h⟩
      · exact ⟨y, by simp [h1], h2⟩
    · rintro ⟨y, h1, h2⟩
      rcases List.mem_cons.1 h1 with rfl | h1
      · exact .inl h2
      · exact .inr ⟨y, h1, h2⟩

/-! ### What operations came to -/
/-- A value, the blocks written, the blocks read. -/
abbrev Outs := Nat → AV × List (Nat × Blk) × List Nat
def Outs.w (outs : Outs) (i id : Nat) : Prop := lastW (outs i).2.1 id ≠ none
def Outs.r (outs : Outs) (i id : Nat) : Prop := id ∈ (outs i).2.2
def Outs.conf (outs : Outs) (i j : Nat) : Prop := ∃ id, (outs.w i id ∧ (outs.w j id ∨ outs.r j id)) ∨ (outs.r i id ∧ outs.w j id)

/-! ### What holds when some of the operations are done -/
structure Inv (par : List GD) (outs : Outs) (env0 : Env) (H00 : Heap) (L : Nat → Prop) (env : Env) (H : Heap) : Prop where
  a1 : ∀ i g, par[i]? = some g → L i → ∀ d, g.2.dst = some d → get env d = (outs i).1
  a2 : ∀ t, (∀ i g, par[i]? = some g → L i → g.2.dst ≠ some t) → get env t = get env0 t
  b1 : H.length = H00.length
  b2 : ∀ i g, par[i]? = some g → L i → ∀ id b, lastW (outs i).2.1 id = some b → (∀ j g', par[j]? = some g' → L j → i < j → lastW (outs j).2.1 id = none) → H[id]? = if id < H00.length then some b else none
  b3 : ∀ id, (∀ i g, par[i]? = some g → L i → lastW (outs i).2.1 id = none) → H[id]? = H00[id]?

theorem get_put (e : Env) (d t : Nat) (v : AV) : get (put e d v) t = if d = t then v else get e t := by
  simp only [put, get]
  cases h : Nat.beq d t with
  | true => rw [if_pos (Nat.eq_of_beq_eq_true h)]; rfl
  | false => rw [if_neg (fun e => by subst e; simp at h)]; rfl
theorem get_putO (e : Env) (d : Option Nat) (t : Nat) (v : AV) : get (putO e d v) t = if d = some t then v else get e t := by
  cases d with
  | none => simp [putO]
  | some d => simp only [putO, get_put, Option.some.injEq]

variable {outs : Outs} {env0 : Env} {H00 : Heap} {L : Nat → Prop} {env : Env} {H : Heap}

theorem inv_add (hd : dstsOK par = true) (hI : Inv par outs env0 H00 L env H) {i : Nat} {g : GD} (hg : par[i]? = some g) (hL : ¬ L i)
    (hord : ∀ j g', par[j]? = some g' → L j → i < j → ∀ id, lastW (outs i).2.1 id ≠ none → lastW (outs j).2.1 id = none)
    (L' : Nat → Prop) (hL' : ∀ j, L' j ↔ L j ∨ j = i) : Inv par outs env0 H00 L' (putO env g.2.dst (outs i).1) (setAll H (outs i).2.1) := by
  refine ⟨fun j g' hg' hj d hdst => ?_, fun t ht => ?_, ?_, fun j g' hg' hj id b hb hlast => ?_, fun id hid => ?_⟩
  · rw [get_putO]
    rcases (hL' j).1 hj with hj | rfl
    · have hne : ¬ g.2.dst = some d := fun e => by
        have := dstsOK_spec par hd i j g g' d hg hg' e hdst
        subst this
        exact hL hj
      rw [if_neg hne]
      exact hI.a1 j g' hg' hj d hdst
    · rw [hg] at hg'
      injection hg' with hg'
      subst hg'
      rw [if_pos hdst]
  · rw [get_putO, if_neg (ht i g hg ((hL' i).2 (.inr rfl)))]
    exact hI.a2 t fun j g' hg' hj => ht j g' hg' ((hL' j).2 (.inl hj))
  · rw [setAll_length]; exact hI.b1
  · rw [setAll_get]
    rcases (hL' j).1 hj with hj1 | rfl
    · have hni : lastW (outs i).2.1 id = none := by
        rcases Nat.lt_trichotomy i j with h | h | h
        · by_cases hx : lastW (outs i).2.1 id = none
          · exact hx
          · have := hord j g' hg' hj1 h id hx
            rw [this] at hb; cases hb
        · subst h; exact absurd hj1 hL
        · exact hlast i g hg ((hL' i).2 (.inr rfl)) h
      rw [hni]
      exact hI.b2 j g' hg' hj1 id b hb fun k g'' hg'' hk hjk => hlast k g'' hg'' ((hL' k).2 (.inl hk)) hjk
    · rw [hg] at hg'
      injection hg' with hg'
      subst hg'
      rw [hb, hI.b1]
  · rw [setAll_get, hid i g hg ((hL' i).2 (.inr rfl))]
    exact hI.b3 id fun k g' hg' hk => hid k g' hg' ((hL' k).2 (.inl hk))

/-- The last of those that did a thing. -/
theorem last_of {p : Nat → Prop} : ∀ n, (∃ i, i < n ∧ p i) → ∃ i, i < n ∧ p i ∧ ∀ j, j < n → i < j → ¬ p j
  | 0, h => by obtain ⟨i, h, _⟩ := h; omega
  | n + 1, h => by
    by_cases hn : p n
    · exact ⟨n, by omega, hn, fun j h1 h2 => by omega⟩
    · obtain ⟨i, h1, h2⟩ := h
      have hi : i ≠ n := fun e => hn (e ▸ h2)
      obtain ⟨i', g1, g2, g3⟩ := last_of n ⟨i, by omega, h2⟩
      exact ⟨i', by omega, g2, fun j k1 k2 => by
        by_cases hj : j = n
        · subst hj; exact hn
        · exact g3 j (by omega) k2⟩

theorem par_lt {i : Nat} {g : GD} (h : par[i]? = some g) : i < par.length := by
  rcases Nat.lt_or_ge i par.length with h' | h'
  · exact h'
  · rw [List.getElem?_eq_none h'] at h; cases h

/-- A block looks the same to two, if the same ones wrote it. -/
theorem inv_blk (hI : Inv par outs env0 H00 L env H) {L' : Nat → Prop} {env' : Env} {H' : Heap} (hI' : Inv par outs env0 H00 L' env' H') {id : Nat} (hL : ∀ i g, par[i]? = some g → lastW (outs i).2.1 id ≠ none → (L i ↔ L' i)) : H[id]? = H'[id]? := by
  by_cases h : ∃ i, i < par.length ∧ (L i ∧ lastW (outs i).2.1 id ≠ none)
  · obtain ⟨i, h1, ⟨h2, h3⟩, h4⟩ := last_of _ h
    have hg := List.getElem?_eq_getElem h1
    obtain ⟨b, hb⟩ := Option.ne_none_iff_exists'.1 h3
    rw [hI.b2 i _ hg h2 id b hb fun j g' hg' hj hij => by
        by_cases hx : lastW (outs j).2.1 id = none
        · exact hx
        · exact absurd ⟨hj, hx⟩ (h4 j (par_lt hg') hij),
      hI'.b2 i _ hg ((hL i _ hg h3).1 h2) id b hb fun j g' hg' hj hij => by
        by_cases hx : lastW (outs j).2.1 id = none
        · exact hx
        · exact absurd ⟨(hL j g' hg' hx).2 hj, hx⟩ (h4 j (par_lt hg') hij)]
  · rw [hI.b3 id fun i g hg hi => by
        by_cases hx : lastW (outs i).2.1 id = none
        · exact hx
        · exact absurd ⟨i, par_lt hg, hi, hx⟩ h,
      hI'.b3 id fun i g hg hi => by
        by_cases hx : lastW (outs i).2.1 id = none
        · exact hx
        · exact absurd ⟨i, par_lt hg, (hL i g hg hx).2 hi, hx⟩ h]

/-- Two that have done the same are the same. -/
theorem inv_same (hI : Inv par outs env0 H00 L env H) {L' : Nat → Prop} {env' : Env} {H' : Heap} (hI' : Inv par outs env0 H00 L' env' H') (hL : ∀ i, i < par.length → (L i ↔ L' i)) : (∀ t, get env t = get env' t) ∧ H = H' := by
  constructor
  · intro t
    by_cases h : ∃ i g, par[i]? = some g ∧ L i ∧ g.2.dst = some t
    · obtain ⟨i, g, h1, h2, h3⟩ := h
      rw [hI.a1 i g h1 h2 t h3, hI'.a1 i g h1 ((hL i (par_lt h1)).1 h2) t h3]
    · rw [hI.a2 t fun i g h1 h2 h3 => h ⟨i, g, h1, h2, h3⟩, hI'.a2 t fun i g h1 h2 h3 => h ⟨i, g, h1, (hL i (par_lt h1)).2 h2, h3⟩]
  · apply List.ext_getElem?
    intro id
    exact inv_blk hI hI' fun i g hg _ => hL i (par_lt hg)
end
end Go.Vc
/- Operations whose order is open: the region. -/
set_option linter.unusedVariables false
set_option linter.unusedSimpArgs false
namespace Go.Vc

def cu (f : Nat → Bool) : Nat → Nat
  | 0 => 0
  | n + 1 => cu f n + (bif f n then 0 else 1)
theorem cu_set {f f' : Nat → Bool} {j : Nat} (h : f j = false) (h' : f' j = true) (ho : ∀ k, k ≠ j → f' k = f k) : ∀ n, (j < n → cu f' n + 1 = cu f n) ∧ (n ≤ j → cu f' n = cu f n)
  | 0 => ⟨fun h => by omega, fun _ => rfl⟩
  | n + 1 => by
    obtain ⟨h1, h2⟩ := cu_set h h' ho n
    constructor
    · intro hj
      simp only [cu]
      by_cases hn : n = j
      · subst hn
        rw [h, h', h2 (Nat.le_refl _)]
        rfl
      · rw [ho n hn]
        have := h1 (by omega)
        omega
    · intro hj
      simp only [cu]
      rw [h2 (by omega), ho n (by omega)]
theorem cu_zero {f : Nat → Bool} : ∀ n, cu f n = 0 → ∀ j, j < n → f j = true
  | 0, _, j, h => by omega
  | n + 1, h, j, hj => by
    simp only [cu] at h
    by_cases hn : j = n
    · subst hn
      cases hf : f j with
      | true => rfl
      | false => rw [hf] at h; simp at h
    · exact cu_zero n (by omega) j (by omega)

/-- What an operation came to, in the text's order. -/
def Done (orc : Orc) (base : Nat) (par : List GD) (env0 : Env) (H00 : Heap) (outs : Outs) (i : Nat) (g : GD) : Prop :=
  ∃ e h, Inv par outs env0 H00 (· < i) e h ∧
    match g.1 with
    | none => ∃ c, (oout orc base g.2 e h).res = .one c (outs i).1 (outs i).2.1 (outs i).2.2 ∧ c
    | some (t, want) => (∃ b, get e t = .bool b ∧ (b = want → ∃ c, (oout orc base g.2 e h).res = .one c (outs i).1 (outs i).2.1 (outs i).2.2 ∧ c) ∧ (b = (!want) → outs i = (.tup [], [], []))) ∨ (get e t = .tup [] ∧ outs i = (.tup [], [], []))

section
variable {P : Program} {nt n : Nat} {ops : Array Oper} {par : List GD} {ms : List Nat} {orc : Orc} {base : Nat} {env0 : Env} {H00 h0 : Heap} {pre : List (List Nat)}

theorem inv_congr {outs outs' : Outs} {L : Nat → Prop} {env : Env} {H : Heap} (hI : Inv par outs env0 H00 L env H) (h : ∀ i, L i → outs' i = outs i) : Inv par outs' env0 H00 L env H :=
  ⟨fun i g hg hi d hd => by rw [h i hi]; exact hI.a1 i g hg hi d hd, hI.a2, hI.b1, fun i g hg hi id b hb hl => by rw [h i hi] at hb; exact hI.b2 i g hg hi id b hb fun j g' hg' hj hij => by rw [← h j hj]; exact hl j g' hg' hj hij,
    fun id hid => hI.b3 id fun i g hg hi => by rw [← h i hi]; exact hid i g hg hi⟩
theorem inv_L {outs : Outs} {L L' : Nat → Prop} {env : Env} {H : Heap} (hI : Inv par outs env0 H00 L env H) (h : ∀ i, i < par.length → (L' i ↔ L i)) : Inv par outs env0 H00 L' env H :=
  ⟨fun i g hg hi d hd => hI.a1 i g hg ((h i (par_lt hg)).1 hi) d hd, fun t ht => hI.a2 t fun i g hg hi => ht i g hg ((h i (par_lt hg)).2 hi), hI.b1,
    fun i g hg hi id b hb hl => hI.b2 i g hg ((h i (par_lt hg)).1 hi) id b hb fun j g' hg' hj hij => hl j g' hg' ((h j (par_lt hg')).2 hj) hij, fun id hid => hI.b3 id fun i g hg hi => hid i g hg ((h i (par_lt hg)).2 hi)⟩
theorem done_congr {outs outs' : Outs} {i : Nat} {g : GD} (hD : Done orc base par env0 H00 outs i g) (h : ∀ j, j ≤ i → outs' j = outs j) : Done orc base par env0 H00 outs' i g := by
  obtain ⟨e, hh, h1, h2⟩ := hD
  have hi := h i (Nat.le_refl _)
  refine ⟨e, hh, inv_congr h1 fun j hj => h j (by omega), ?_⟩
  rw [hi]
  exact h2

theorem okFp_spec {ws rs pr : List Nat} : ∀ (acc : List Fp), okFp ws rs pr acc = true → ∀ i w r, (i, w, r) ∈ acc → (∃ id, (id ∈ w ∧ (id ∈ ws ∨ id ∈ rs)) ∨ (id ∈ r ∧ id ∈ ws)) → i ∈ pr
  | [], _, _, _, _, h, _ => by simp at h
  | (j, w', r') :: acc, h, i, w, r, hm, hx => by
    simp only [okFp, Bool.and_eq_true] at h
    rcases List.mem_cons.1 hm with he | hm
    · injection he with e1 e2
      injection e2 with e2 e3
      subst e1; subst e2; subst e3
      have h1 := h.1
      simp only [Bool.or_eq_true] at h1
      rcases h1 with h1 | h1
      · exfalso
        obtain ⟨id, h2⟩ := hx
        have : (meets w ws || meets w rs || meets r ws) = true := by
          simp only [Bool.or_eq_true]
          rcases h2 with ⟨h2, h3 | h3⟩ | ⟨h2, h3⟩
          · exact .inl (.inl (meets_spec.2 ⟨id, h2, h3⟩))
          · exact .inl (.inr (meets_spec.2 ⟨id, h2, h3⟩))
          · exact .inr (meets_spec.2 ⟨id, h2, h3⟩)
        rw [this] at h1
        cases h1
      · exact inN_spec.1 h1
    · exact okFp_spec acc h.2 i w r hm hx

theorem text_run (hd : dstsOK par = true) {K : Env → Heap → Prop} : ∀ (s : List GD) (k : Nat) (acc : List Fp) (outs : Outs) (env : Env) (H : Heap), (∀ j, s[j]? = par[k + j]?) →
    Inv par outs env0 H00 (· < k) env H → (∀ i g, par[i]? = some g → i < k → Done orc base par env0 H00 outs i g) →
    (∀ i, i < k → i < par.length → outs i = (.tup [], [], []) ∨ (i, (outs i).2.1.map (·.1), (outs i).2.2) ∈ acc) → (∀ i j, i < j → j < k → j < par.length → outs.conf i j → i ∈ pre.getD j []) →
    awpDs orc base pre s k acc env H K →
    ∃ outs' : Outs, (∀ i g, par[i]? = some g → Done orc base par env0 H00 outs' i g) ∧ (∀ i j, i < j → j < par.length → outs'.conf i j → i ∈ pre.getD j []) ∧ ∃ env' H', Inv par outs' env0 H00 (fun _ => True) env' H' ∧ K env' H'
  | [], k, acc, outs, env, H, hs, hI, hD, hacc, hcf, hK => by
    have hle : ∀ i, i < par.length → i < k := fun i hi => by
      rcases Nat.lt_or_ge i k with h | h
      · exact h
      · have := hs (i - k)
        rw [show k + (i - k) = i by omega, List.getElem?_eq_getElem hi] at this
        simp at this
    exact ⟨outs, fun i g hg => hD i g hg (hle i (par_lt hg)), fun i j h1 h2 h3 => hcf i j h1 (hle j h2) h2 h3, env, H, inv_L hI fun i hi => ⟨fun _ => hle i hi, fun _ => trivial⟩, hK⟩
  | g :: s, k, acc, outs, env, H, hs, hI, hD, hacc, hcf, hK => by
    have hg : par[k]? = some g := by have := hs 0; simpa using this.symm
    have hs' : ∀ j, s[j]? = par[k + 1 + j]? := fun j => by have := hs (j + 1); rw [show k + 1 + j = k + (j + 1) by omega, ← this]; rfl
    have go : ∀ (x : AV × List (Nat × Blk) × List Nat) (acc' : List Fp), (x = (.tup [], [], []) ∧ acc' = acc ∨ okFp (x.2.1.map (·.1)) x.2.2 (pre.getD k []) acc = true ∧ acc' = (k, x.2.1.map (·.1), x.2.2) :: acc) → (match g.1 with
        | none => ∃ c, (oout orc base g.2 env H).res = .one c x.1 x.2.1 x.2.2 ∧ c
        | some (t, want) => (∃ b, get env t = .bool b ∧ (b = want → ∃ c, (oout orc base g.2 env H).res = .one c x.1 x.2.1 x.2.2 ∧ c) ∧ (b = (!want) → x = (AV.tup [], [], []))) ∨ (get env t = .tup [] ∧ x = (AV.tup [], [], []))) →
        awpDs orc base pre s (k + 1) acc' (putO env g.2.dst x.1) (setAll H x.2.1) K →
        ∃ outs' : Outs, (∀ i g, par[i]? = some g → Done orc base par env0 H00 outs' i g) ∧ (∀ i j, i < j → j < par.length → outs'.conf i j → i ∈ pre.getD j []) ∧ ∃ env' H', Inv par outs' env0 H00 (fun _ => True) env' H' ∧ K env' H' := by
      intro x acc' hacc' hm hK
      let outs1 : Outs := fun j => if j = k then x else outs j
      have e1 : outs1 k = x := if_pos rfl
      have e2 : ∀ j, j < k → outs1 j = outs j := fun j hj => if_neg (by omega)
      have hI1 : Inv par outs1 env0 H00 (· < k) env H := inv_congr hI fun i hi => e2 i hi
      have hDk : Done orc base par env0 H00 outs1 k g := by
        refine ⟨env, H, hI1, ?_⟩
        rw [e1]
        exact hm
      have hD1 : ∀ i g, par[i]? = some g → i < k + 1 → Done orc base par env0 H00 outs1 i g := fun i g' hg' hi => by
        by_cases hik : i = k
        · subst hik
          rw [hg] at hg'
          injection hg' with hg'
          subst hg'
          exact hDk
        · exact done_congr (hD i g' hg' (by omega)) fun j hj => e2 j (by omega)
      have hI2 := inv_add hd hI1 hg (Nat.lt_irrefl k) (fun j g' hg' hj hkj => by omega) (· < k + 1) (fun j => by omega)
      rw [e1] at hI2
      refine text_run hd s (k + 1) acc' outs1 _ _ hs' hI2 hD1 (fun i hi hip => ?_) (fun i j hij hj hjp hcx => ?_) hK
      · by_cases hik : i = k
        · subst hik
          rw [e1]
          rcases hacc' with ⟨h1, _⟩ | ⟨_, h2⟩
          · exact .inl h1
          · right; rw [h2]; exact List.mem_cons_self
        · rw [e2 i (by omega)]
          rcases hacc i (by omega) hip with h | h
          · exact .inl h
          · right
            rcases hacc' with ⟨_, h2⟩ | ⟨_, h2⟩
            · rw [h2]; exact h
            · rw [h2]; exact List.mem_cons_of_mem _ h
      · by_cases hjk : j = k
        · subst hjk
          have hconf : ∃ id, (lastW (outs i).2.1 id ≠ none ∧ (lastW x.2.1 id ≠ none ∨ id ∈ x.2.2)) ∨ (id ∈ (outs i).2.2 ∧ lastW x.2.1 id ≠ none) := by
            obtain ⟨id, hc⟩ := hcx
            simp only [Outs.w, Outs.r, e1, e2 i hij] at hc
            exact ⟨id, hc⟩
          have nn : ∀ (ws : List (Nat × Blk)) (id : Nat), lastW ws id ≠ none → id ∈ ws.map (·.1) := fun ws id h => by
            by_cases hm : id ∈ ws.map (·.1)
            · exact hm
            · exact absurd ((lastW_none ws id).2 hm) h
          rcases hacc' with ⟨h1, _⟩ | ⟨h1, _⟩
          · obtain ⟨id, hc⟩ := hconf
            rw [h1] at hc
            simp [lastW] at hc
          · rcases hacc i hij (by have := par_lt hg; omega) with h | h
            · obtain ⟨id, hc⟩ := hconf
              rw [h] at hc
              simp [lastW] at hc
            · refine okFp_spec acc h1 i _ _ h ?_
              obtain ⟨id, hc⟩ := hconf
              refine ⟨id, ?_⟩
              rcases hc with ⟨q1, q2 | q2⟩ | ⟨q1, q2⟩
              · exact .inl ⟨nn _ _ q1, .inl (nn _ _ q2)⟩
              · exact .inl ⟨nn _ _ q1, .inr q2⟩
              · exact .inr ⟨q1, nn _ _ q2⟩
        · refine hcf i j hij (by omega) hjp ?_
          obtain ⟨id, hc⟩ := hcx
          simp only [Outs.w, Outs.r, e2 i (by omega), e2 j (by omega)] at hc
          exact ⟨id, hc⟩
    have one : ∀ {q : OT}, otK q (kds (awpDs orc base pre s (k + 1)) g.2.gens g.2.dst k (pre.getD k []) acc env H K) →
        ∃ c v ws rs, q.res = .one c v ws rs ∧ c ∧ okFp (ws.map (·.1)) rs (pre.getD k []) acc = true ∧ awpDs orc base pre s (k + 1) ((k, ws.map (·.1), rs) :: acc) (putO env g.2.dst v) (setAll H ws) K := by
      intro q hq
      have hq := (otK_iff _ _).1 hq
      cases hr : q.res with
      | none => rw [hr] at hq; exact hq.elim
      | br _ _ _ => rw [hr] at hq; exact hq.elim
      | one c v ws rs =>
        rw [hr] at hq
        simp only [kds] at hq
        cases ho : okFp (ws.map (·.1)) rs (pre.getD k []) acc with
        | false => rw [ho] at hq; exact hq.elim
        | true =>
          rw [ho] at hq
          exact ⟨c, v, ws, rs, rfl, hq.1, ho, hq.2.use⟩
    obtain ⟨gu, o⟩ := g
    cases gu with
    | none =>
      simp only [awpDs] at hK
      obtain ⟨c, v, ws, rs, h1, h2, h3, h4⟩ := one hK
      exact go (v, ws, rs) _ (.inr ⟨h3, rfl⟩) ⟨c, h1, h2⟩ h4
    | some tw =>
      obtain ⟨t, want⟩ := tw
      simp only [awpDs] at hK
      split at hK
      · rename_i b hb
        have hK := Br.use hK
        by_cases hbw : b = want
        · obtain ⟨c, v, ws, rs, h1, h2, h3, h4⟩ := one (hK.1 hbw)
          exact go (v, ws, rs) _ (.inr ⟨h3, rfl⟩) (.inl ⟨b, hb, fun _ => ⟨c, h1, h2⟩, fun h => by subst hbw; cases b <;> simp at h⟩) h4
        · have hbw' : b = !want := by cases b <;> cases want <;> simp at hbw ⊢
          exact go (.tup [], [], []) acc (.inl ⟨rfl, rfl⟩) (.inl ⟨b, hb, fun h => absurd h hbw, fun _ => rfl⟩) (hK.2 hbw')
      · rename_i hb
        exact go (.tup [], [], []) acc (.inl ⟨rfl, rfl⟩) (.inr ⟨hb, rfl⟩) hK
      · exact hK.elim

variable {w : World} {S : SetS} {mu : Mu} {H : Heap} {env : Env} {a : Act} {L : Nat → Prop} {outs : Outs}

/-- Whatever is listed: what an operation waits for is listed too. -/
theorem mask_closed (hp : ∀ i, i < par.length → ∃ o, ops[i]? = some o ∧ ms.getD i 0 = maskOf ms o.after.toList ∧ backOK o i = true) (hL : ∀ i, L i → ∀ o, ops[i]? = some o → ∀ e ∈ o.after, Region.binds .any e = true → L e.on) :
    ∀ (i : Nat) (o : Oper), i ≤ par.length → backOK o i = true → (∀ e ∈ o.after, Region.binds .any e = true → L e.on) → ∀ k, Nat.testBit (maskOf ms o.after.toList) k = true → k < i ∧ L k := by
  intro i
  induction i using Nat.strongRecOn with
  | _ i ih =>
    intro o hi hb hdir k hk
    obtain ⟨e, he, hbi, hor⟩ := maskOf_spec _ _ hk
    have he' : e ∈ o.after := by simpa using he
    have hlt := backOK_spec hb e he' hbi
    rcases hor with rfl | hor
    · exact ⟨hlt, hdir e he' hbi⟩
    · obtain ⟨o', h1, h2, h3⟩ := hp e.on (by omega)
      rw [h2] at hor
      obtain ⟨g1, g2⟩ := ih e.on hlt o' (by omega) h3 (hL e.on (hdir e he' hbi) o' h1) k hor
      exact ⟨by omega, g2⟩

/-- One of them, at any time it is ready. -/
theorem par_step (hd : dstsOK par = true) (hcalls : ∀ x ∈ par, CallsOf P orc x.2)
    (hR : Rel nt w S mu H env a) (hI : Inv par outs env0 H00 L env H) {i : Nat} {g : GD} (hg : par[i]? = some g) (hLi : ¬ L i) {o : Oper} (hop : ops[i]? = some o) (hgu : guardOK ops o g.1 = true) (hok : oOK P nt o g.2 = true)
    (hreads : ∀ t ∈ readsOf g, ∀ j g', par[j]? = some g' → g'.2.dst = some t → j < i ∧ L j) (hD : ∀ j g, par[j]? = some g → Done orc base par env0 H00 outs j g)
    (hconf : ∀ i j, i < j → j < par.length → outs.conf i j → i ∈ pre.getD j []) (hpre1 : ∀ j ∈ pre.getD i [], L j) (hpre2 : ∀ j, L j → j < par.length → ∀ x ∈ pre.getD j [], L x)
    {Q : Exit → Act → World → Prop} {KK : Act → World → Prop} (hKK : ∀ a' w' env' H' S' mu', Rel nt w' S' mu' H' env' a' → Ev w S mu H w' S' mu' H' → Inv par outs env0 H00 (fun j => L j ∨ j = i) env' H' → KK a' w') :
    wpOp P ops Q i KK a w := by
  obtain ⟨e, h, hIe, hm⟩ := hD i g hg
  have hil := par_lt hg
  have hrd : ∀ t ∈ readsOf g, get env t = get e t := fun t ht => by
    by_cases hex : ∃ (j : Nat) (g' : GD), par[j]? = some g' ∧ g'.2.dst = some t
    · obtain ⟨j, g', h1, h2⟩ := hex
      obtain ⟨h3, h4⟩ := hreads t ht j g' h1 h2
      rw [hI.a1 j g' h1 h4 t h2, hIe.a1 j g' h1 h3 t h2]
    · rw [hI.a2 t fun j g' h1 _ h2 => hex ⟨j, g', h1, h2⟩, hIe.a2 t fun j g' h1 _ h2 => hex ⟨j, g', h1, h2⟩]
  have hars : ∀ x ∈ g.2.ars, x.ev env = x.ev e := fun x hx => by
    cases x with
    | k v => rfl
    | t m =>
      refine hrd m ?_
      simp only [readsOf, List.mem_append, List.mem_flatMap]
      exact .inr ⟨.t m, hx, by simp [arT]⟩
  have hdc : oout orc base g.2 env h = oout orc base g.2 e h := oout_congr g.2 hars
  -- a writer above, of a block that is touched here, would have waited
  have hup : ∀ j, L j → j < par.length → i < j → ∀ id, (outs.w i id ∨ outs.r i id) → lastW (outs j).2.1 id = none := fun j hj hjl hij id ht => by
    by_cases hx : lastW (outs j).2.1 id = none
    · exact hx
    · refine absurd (hpre2 j hj hjl i (hconf i j hij hjl ⟨id, ?_⟩)) hLi
      rcases ht with ht | ht
      · exact .inl ⟨ht, .inl hx⟩
      · exact .inr ⟨ht, hx⟩
  have hdown : ∀ j, j < i → ∀ id, (outs.w i id ∨ outs.r i id) → lastW (outs j).2.1 id ≠ none → L j := fun j hj id ht hx => hpre1 j (hconf j i hj hil ⟨id, .inl ⟨hx, ht⟩⟩)
  have hag : ∀ id, (outs.w i id ∨ outs.r i id) → H[id]? = h[id]? := fun id ht => by
    refine inv_blk hI hIe fun j g' hg' hx => ⟨fun hj => ?_, fun hj => hdown j hj id ht hx⟩
    rcases Nat.lt_trichotomy j i with h1 | h1 | h1
    · exact h1
    · subst h1; exact absurd hj hLi
    · exact absurd (hup j hj (par_lt hg') h1 id ht) hx
  have hInv := inv_add hd hI hg hLi (fun j g' hg' hj hij id hid => hup j hj (par_lt hg') hij id (.inl hid)) (fun j => L j ∨ j = i) (fun j => Iff.rfl)
  have hmem : g ∈ par := List.mem_of_getElem? hg
  have run : (∃ c, (oout orc base g.2 e h).res = .one c (outs i).1 (outs i).2.1 (outs i).2.2 ∧ c) → o.wp P a w KK Q := by
    rintro ⟨c, h1, h2⟩
    rw [← hdc] at h1
    have haw := oout_op h1 H (fun e' h' => e' = putO env g.2.dst (outs i).1 ∧ h' = setAll H (outs i).2.1) h2 (hI.b1.trans hIe.b1.symm) (fun id hid => hag id (by
      rcases hid with hid | hid
      · exact .inl fun hn => (lastW_none _ _).1 hn hid
      · exact .inr hid)) ⟨rfl, rfl⟩
    refine Oper.wp_mono (fun a' w' hp => ?_) (op_sound hR hok (hcalls g hmem) haw Q)
    obtain ⟨env', H', S', mu', hR', hE', rfl, rfl⟩ := hp
    exact hKK a' w' _ _ S' mu' hR' hE' hInv
  unfold wpOp
  simp only [hop]
  obtain ⟨gu, dop⟩ := g
  cases gu with
  | none =>
    rw [if_pos (wanted_none hgu a)]
    exact .inl (run hm)
  | some tw =>
    obtain ⟨t, want⟩ := tw
    rcases hm with ⟨b, hb, h1, h2⟩ | ⟨hb, hout⟩
    · have hb' : get env t = .bool b := by rw [hrd t (by simp [readsOf]), hb]
      have ht : t < a.tmps.size := by
        rcases Nat.lt_or_ge t a.tmps.size with h | h
        · exact h
        · have hr := hR.env t
          rw [hb'] at hr
          have hbv := hr.bool
          rw [Array.getD_eq_getD_getElem?, Array.getElem?_eq_none h] at hbv
          simp only [Option.getD_none, undef] at hbv
          cases hbv
      have hw := wanted_some hgu hR.env ht hb'
      by_cases hbw : b = want
      · rw [if_pos (by rw [hw, hbw]; simp)]
        exact .inl (run (h1 hbw))
      · have hbw' : b = !want := by cases b <;> cases want <;> simp at hbw ⊢
        rw [if_neg (by rw [hw]; simpa using hbw)]
        have hout := h2 hbw'
        rw [hout] at hInv
        exact hKK _ _ _ _ S mu (dOKo_put hR (oOK_dst hok) rel_gone) (Ev.refl _ _ _ _) hInv
    · have hb' : get env t = .tup [] := by rw [hrd t (by simp [readsOf]), hb]
      rw [if_neg (by rw [wanted_gone hgu hR.env hb']; simp)]
      rw [hout] at hInv
      exact hKK _ _ _ _ S mu (dOKo_put hR (oOK_dst hok) rel_gone) (Ev.refl _ _ _ _) hInv
end
end Go.Vc
/- Operations whose order is open: the whole region. -/
set_option linter.unusedVariables false
set_option linter.unusedSimpArgs false
namespace Go.Vc

section
variable {P : Program} {nt n : Nat} {ops : Array Oper} {par : List GD} {ms : List Nat} {orc : Orc} {base : Nat} {env0 : Env} {H00 h0 : Heap} {K : Env → Heap → Prop} {Q : Exit → Act → World → Prop}
  {w0 : World} {S0 : SetS} {mu0 : Mu} {H0 : Heap}

theorem onPrev_spec {o : Oper} {i : Nat} (h : onPrev o i = true) : ∃ e ∈ o.after, Region.binds .any e = true ∧ e.on + 1 = i := by
  obtain ⟨e, he, hb⟩ := List.any_eq_true.1 h
  simp only [Bool.and_eq_true] at hb
  exact ⟨e, by simpa using he, hb.1, Nat.eq_of_beq_eq_true hb.2⟩

theorem getD_true_false {listed : Array Bool} {j : Nat} (hj : j < listed.size) : listed.getD j true = listed.getD j false := by
  simp [Array.getD, hj]

theorem set_getD {listed : Array Bool} {i j : Nat} (hi : i < listed.size) (d : Bool) : (listed.setIfInBounds i true).getD j d = if j = i then true else listed.getD j d := by
  rw [Array.getD_eq_getD_getElem?, Array.getD_eq_getD_getElem?, Array.getElem?_setIfInBounds]
  by_cases h : i = j
  · subst h; simp [hi]
  · rw [if_neg h, if_neg (fun e => h e.symm)]

/-- The rest, one behind the other. -/
theorem tail_sound : ∀ (l : List Oper) (s : List (Option (Nat × Bool) × AOp)) (k fuel : Nat) (listed : Array Bool) (w : World) (S : SetS) (mu : Mu) (H : Heap) (env : Env) (a : Act), (∀ j, l[j]? = ops[k + j]?) → k + l.length = ops.size → opsOK P nt ops l s = true → (∀ x ∈ s, CallsOf P orc x.2) →
    (∀ j o, l[j]? = some o → backOK o (k + j) = true) → (∀ j o, l[j + 1]? = some o → onPrev o (k + j + 1) = true) →
    listed.size = ops.size → (∀ j, j < k → listed.getD j true = true) → (∀ j, k ≤ j → j < ops.size → listed.getD j true = false) → l.length ≤ fuel →
    Rel nt w S mu H env a → Ev w0 S0 mu0 H0 w S mu H → awpOps orc base s env H K → (∀ a' w', OpPost nt w0 S0 mu0 H0 K a' w' → Q .normal a' w') → wpAny P .any ops Q fuel listed a w
  | [], [], k, fuel, listed, w, S, mu, H, env, a, hl, hk, _, _, _, _, hsz, hd, hu, hf, hR, hE, hK, hQ => by
    refine wpAny_done ?_ (hQ _ _ ⟨env, H, S, mu, hR, hE, hK⟩) fuel
    apply List.eq_nil_iff_forall_not_mem.2
    intro j hj
    obtain ⟨h1, o, ho, _⟩ := mem_ready.1 hj
    have hlt := (Array.getElem?_eq_some_iff.1 ho).1
    have := hd j (by simp at hk; omega)
    rw [h1] at this
    cases this
  | [], _ :: _, _, _, _, _, _, _, _, _, _, _, _, h, _, _, _, _, _, _, _, _, _, _, _ => by simp [opsOK] at h
  | _ :: _, [], _, _, _, _, _, _, _, _, _, _, _, h, _, _, _, _, _, _, _, _, _, _, _ => by simp [opsOK] at h
  | o :: r, (g, op) :: s, k, 0, _, _, _, _, _, _, _, _, _, _, _, _, _, _, _, _, hf, _, _, _, _ => by simp at hf
  | o :: r, (g, op) :: s, k, fuel + 1, listed, w, S, mu, H, env, a, hl, hk, h, hc, hb, hp, hsz, hd, hu, hf, hR, hE, hK, hQ => by
    simp only [opsOK, Bool.and_eq_true] at h
    obtain ⟨⟨hg, ho⟩, hr⟩ := h
    have hop : ops[k]? = some o := by have := hl 0; simpa using this.symm
    have hl' : ∀ j, r[j]? = ops[k + 1 + j]? := fun j => by have := hl (j + 1); rw [show k + 1 + j = k + (j + 1) by omega, ← this]; rfl
    have hklt : k < ops.size := by simp at hk; omega
    have hback := backOK_spec (hb 0 o rfl)
    rw [Nat.add_zero] at hback
    have hready : k ∈ Region.ready .any ops listed := mem_ready.2 ⟨hu k (Nat.le_refl _) hklt, o, hop, fun e he hbi => by
      have h1 := hd e.on (hback e he hbi)
      rw [← getD_true_false (by rw [hsz]; have := hback e he hbi; omega)]
      exact h1⟩
    have honly : ∀ j, j ∈ Region.ready .any ops listed → j = k := fun j hj => by
      obtain ⟨h1, o', ho', hall⟩ := mem_ready.1 hj
      have hlt := (Array.getElem?_eq_some_iff.1 ho').1
      have hjk : k ≤ j := by
        rcases Nat.lt_or_ge j k with h | h
        · rw [hd j h] at h1; cases h1
        · exact h
      rcases Nat.eq_or_lt_of_le hjk with h | h
      · exact h.symm
      · obtain ⟨e, he, hbi, hon⟩ := onPrev_spec (hp (j - k - 1) o' (by
          have := hl (j - k)
          rw [show k + (j - k) = j by omega, ho'] at this
          rw [show j - k - 1 + 1 = j - k by omega]
          exact this))
        have h2 := hall e he hbi
        have h3 := hu e.on (by omega) (by omega)
        rw [getD_true_false (by rw [hsz]; omega)] at h3
        rw [h3] at h2
        cases h2
    refine ⟨fun hn => absurd hready (by rw [hn]; exact List.not_mem_nil), fun j hj => ?_⟩
    have := honly j hj
    subst this
    have hc' : ∀ x ∈ s, CallsOf P orc x.2 := fun x hx => hc x (by simp [hx])
    have hcall := hc (g, op) (by simp)
    have hkl : j < listed.size := by rw [hsz]; exact hklt
    have next : ∀ (w' : World) (S' : SetS) (mu' : Mu) (H' : Heap) (env' : Env) (a' : Act), Rel nt w' S' mu' H' env' a' → Ev w0 S0 mu0 H0 w' S' mu' H' → awpOps orc base s env' H' K → wpAny P .any ops Q fuel (listed.setIfInBounds j true) a' w' := fun w' S' mu' H' env' a' hR' hE' hK' =>
      tail_sound r s (j + 1) fuel (listed.setIfInBounds j true) w' S' mu' H' env' a' hl' (by simp at hk; omega) hr hc'
        (fun i o' hi => by rw [show j + 1 + i = j + (i + 1) by omega]; exact hb (i + 1) o' (by simpa using hi)) (fun i o' hi => by rw [show j + 1 + i + 1 = j + (i + 1) + 1 by omega]; exact hp (i + 1) o' (by simpa using hi))
        (by simpa using hsz) (fun i hi => by
          rw [set_getD hkl]
          by_cases hij : i = j
          · rw [if_pos hij]
          · rw [if_neg hij]; exact hd i (by omega)) (fun i h1 h2 => by
          rw [set_getD hkl, if_neg (by omega)]
          exact hu i (by omega) h2) (by simp at hf; omega) hR' hE' hK' hQ
    have step : awpOp orc base op env H (fun e h => Cont op.gens e fun e => awpOps orc base s e h K) → o.wp P a w (wpAny P .any ops Q fuel (listed.setIfInBounds j true)) Q := fun hop =>
      Oper.wp_mono (fun a' w' hp => by
        obtain ⟨env', H', S', mu', hR', hE', hK'⟩ := hp
        exact next w' S' mu' H' env' a' hR' (hE.trans hE') hK'.use) (op_sound hR ho hcall hop Q)
    unfold wpOp
    simp only [hop]
    cases g with
    | none =>
      rw [if_pos (wanted_none hg a)]
      simp only [awpOps] at hK
      exact .inl (step hK)
    | some tw =>
      obtain ⟨t, want⟩ := tw
      simp only [awpOps] at hK
      split at hK
      · rename_i b hb
        have hK := Br.use hK
        have ht : t < a.tmps.size := by
          rcases Nat.lt_or_ge t a.tmps.size with h | h
          · exact h
          · have hr := hR.env t
            rw [hb] at hr
            have hbv := hr.bool
            rw [Array.getD_eq_getD_getElem?, Array.getElem?_eq_none h] at hbv
            simp only [Option.getD_none, undef] at hbv
            cases hbv
        have hw := wanted_some hg hR.env ht hb
        by_cases hbw : b = want
        · rw [if_pos (by rw [hw, hbw]; simp)]
          exact .inl (step (hK.1 hbw))
        · have hbw' : b = !want := by cases b <;> cases want <;> simp at hbw ⊢
          rw [if_neg (by rw [hw]; simpa using hbw)]
          exact next w S mu H _ _ (dOKo_put hR (oOK_dst ho) rel_gone) hE (hK.2 hbw')
      · rename_i hb
        rw [if_neg (by rw [wanted_gone hg hR.env hb]; simp)]
        exact next w S mu H _ _ (dOKo_put hR (oOK_dst ho) rel_gone) hE hK
      · exact hK.elim

theorem Rel.ext {w : World} {S : SetS} {mu : Mu} {H : Heap} {env env' : Env} {a : Act} (h : Rel nt w S mu H env a) (he : ∀ t, get env t = get env' t) : Rel nt w S mu H env' a :=
  ⟨fun t => by rw [← he t]; exact h.env t, h.heap, h.tmps, h.defers⟩

theorem draw_sound {id : Nat} {pre : List (List Nat)} {tail : List (Option (Nat × Bool) × AOp)} {w : World} {S : SetS} {mu : Mu} {H : Heap} {env : Env} {a : Act} (hm : P.follows .mixedOrders = true) (hck : drawOK P nt n ops pre par tail = true) (hcp : ∀ x ∈ par, CallsOf P orc x.2) (hct : ∀ x ∈ tail, CallsOf P orc x.2)
    (hR : Rel nt w S mu H env a) (hK : awpDs orc H.length pre par 0 [] env (H ++ List.replicate n .resv) fun e h1 => awpOps orc H.length tail e h1 K) (hQ : ∀ a' w', OpPost nt w S mu H K a' w' → Q .normal a' w') :
    (Code.region id ops true).wp P Q a w := by
  refine wp_region_any hm ?_
  simp only [drawOK, Bool.and_eq_true] at hck
  obtain ⟨⟨⟨⟨hpar, hdst⟩, hpre⟩, htl⟩, hlast⟩ := hck
  generalize hms : masksGo ops.toList [] = ms at hpar hlast hpre
  have hpg := parOK_get ops.toList par 0 hpar
  have hplen : par.length ≤ ops.size := by
    rcases Nat.lt_or_ge ops.size par.length with h | h
    · obtain ⟨o, h1, _⟩ := hpg ops.size _ (List.getElem?_eq_getElem h)
      rw [List.getElem?_eq_none (by simp)] at h1
      cases h1
    · exact h
  obtain ⟨R1, E1⟩ := resv_turn (hR.drawn (w.drawn + 1)) n
  have E0 : Ev w S mu H { w with drawn := w.drawn + 1 } S mu (H ++ List.replicate n .resv) := (Ev.drawn (w.drawn + 1)).trans E1
  have hlen : (H ++ List.replicate n Blk.resv).length = H.length + n := by simp
  have hI0 : ∀ outs : Outs, Inv par outs env (H ++ List.replicate n .resv) (fun _ => False) env (H ++ List.replicate n .resv) := fun outs =>
    ⟨fun _ _ _ h => h.elim, fun _ _ => rfl, rfl, fun _ _ _ h => h.elim, fun _ _ => rfl⟩
  obtain ⟨outs, hD, hconf, env', H', hI', hK'⟩ := text_run hdst par 0 [] (fun _ => (.undef, [], [])) env _ (fun j => by simp) (inv_L (hI0 _) fun i _ => ⟨fun h => absurd h (by omega), fun h => h.elim⟩) (fun i g _ h => absurd h (by omega))
    (fun i h => absurd h (by omega)) (fun i j _ h => absurd h (by omega)) hK
  have hp : ∀ i, i < par.length → ∃ o, ops[i]? = some o ∧ ms.getD i 0 = maskOf ms o.after.toList ∧ backOK o i = true := fun i hi => by
    obtain ⟨o, h1, h2, h3, h4, h5, h6⟩ := hpg i _ (List.getElem?_eq_getElem hi)
    rw [Nat.zero_add] at h4 h5
    exact ⟨o, by simpa using h1, h4, h5⟩
  -- the rest
  have hdrop : ∀ j, (ops.toList.drop par.length)[j]? = ops[par.length + j]? := fun j => by rw [List.getElem?_drop]; simp
  have hb0 : ∀ (l : List Oper) (k : Nat), tailOK l k = true → (∀ j o, l[j]? = some o → backOK o (k + j) = true ∧ onPrev o (k + j) = true) := by
    intro l
    induction l with
    | nil => intro k _ j o h; simp at h
    | cons x r ih =>
      intro k h j o hj
      simp only [tailOK, Bool.and_eq_true] at h
      cases j with
      | zero => simp at hj; subst hj; exact h.1
      | succ j =>
        have := ih (k + 1) h.2 j o (by simpa using hj)
        rwa [show k + 1 + j = k + (j + 1) by omega] at this
  have hback : ∀ j o, (ops.toList.drop par.length)[j]? = some o → backOK o (par.length + j) = true := by
    intro j o hj
    cases hl : ops.toList.drop par.length with
    | nil => rw [hl] at hj; simp at hj
    | cons x r =>
      rw [hl] at hj hlast
      simp only [Bool.and_eq_true] at hlast
      cases j with
      | zero => simp at hj; subst hj; exact hlast.1.1
      | succ j =>
        have := (hb0 r _ hlast.2 j o (by simpa using hj)).1
        rwa [show par.length + 1 + j = par.length + (j + 1) by omega] at this
  have hprev : ∀ j o, (ops.toList.drop par.length)[j + 1]? = some o → onPrev o (par.length + j + 1) = true := by
    intro j o hj
    cases hl : ops.toList.drop par.length with
    | nil => rw [hl] at hj; simp at hj
    | cons x r =>
      rw [hl] at hj hlast
      simp only [Bool.and_eq_true] at hlast
      have := (hb0 r _ hlast.2 j o (by simpa using hj)).2
      rwa [show par.length + 1 + j = par.length + j + 1 by omega] at this
  have main : ∀ (fuel : Nat) (listed : Array Bool) (w' : World) (S' : SetS) (mu' : Mu) (H1 : Heap) (e1 : Env) (a' : Act), cu (fun j => listed.getD j true) ops.size ≤ fuel → listed.size = ops.size →
      (∀ j, par.length ≤ j → j < ops.size → listed.getD j true = false) → (∀ i, listed.getD i false = true → ∀ o, ops[i]? = some o → ∀ e ∈ o.after, Region.binds .any e = true → listed.getD e.on false = true) →
      Rel nt w' S' mu' H1 e1 a' → Ev w S mu H w' S' mu' H1 → Inv par outs env (H ++ List.replicate n .resv) (fun i => listed.getD i false = true) e1 H1 → wpAny P .any ops Q fuel listed a' w' := by
    intro fuel
    induction fuel with
    | zero =>
      intro listed w' S' mu' H1 e1 a' hcu hsz hun hcl hR' hE' hI1
      have hall := cu_zero _ (Nat.le_zero.1 hcu)
      have hpe : ∀ i, i < ops.size → i < par.length := fun i hi => by
        rcases Nat.lt_or_ge i par.length with h | h
        · exact h
        · have h1 := hun i h hi
          rw [hall i hi] at h1
          cases h1
      have hps : par.length = ops.size := by
        rcases Nat.lt_or_ge par.length ops.size with h | h
        · have := hpe par.length h; omega
        · omega
      obtain ⟨hs1, hs2⟩ := inv_same hI1 hI' (fun i hi => ⟨fun _ => trivial, fun _ => by rw [← getD_true_false (by rw [hsz]; omega)]; exact hall i (by omega)⟩)
      subst hs2
      exact tail_sound (ops.toList.drop par.length) tail par.length 0 listed w' S' mu' H1 env' a' hdrop (by simp; omega) htl hct hback hprev hsz (fun j hj => hall j (by omega)) hun (by simp; omega) (hR'.ext hs1) hE' hK' hQ
    | succ fuel ih =>
      intro listed w' S' mu' H1 e1 a' hcu hsz hun hcl hR' hE' hI1
      by_cases hall : ∀ i, i < par.length → listed.getD i true = true
      · obtain ⟨hs1, hs2⟩ := inv_same hI1 hI' (fun i hi => ⟨fun _ => trivial, fun _ => by rw [← getD_true_false (by rw [hsz]; omega)]; exact hall i hi⟩)
        subst hs2
        have hcut : ∀ (f : Nat → Bool) (m : Nat), (∀ j, j < m → f j = true) → ∀ k, (∀ j, m ≤ j → j < m + k → f j = false) → cu f (m + k) = k := by
          intro f m h1 k
          induction k with
          | zero =>
            intro _
            have : ∀ m', m' ≤ m → cu f m' = 0 := by
              intro m'
              induction m' with
              | zero => intro _; rfl
              | succ m' ih' =>
                intro hm'
                simp only [cu]
                rw [ih' (by omega), h1 m' (by omega)]
                rfl
            exact this m (Nat.le_refl _)
          | succ k ihk =>
            intro h2
            show cu f (m + k) + (bif f (m + k) then 0 else 1) = k + 1
            rw [ihk (fun j a b => h2 j a (by omega)), h2 (m + k) (by omega) (by omega)]
            rfl
        have hk := hcut (fun j => listed.getD j true) par.length hall (ops.size - par.length) (fun j h1 h2 => hun j h1 (by omega))
        rw [show par.length + (ops.size - par.length) = ops.size by omega] at hk
        exact tail_sound (ops.toList.drop par.length) tail par.length (fuel + 1) listed w' S' mu' H1 env' a' hdrop (by simp; omega) htl hct hback hprev hsz hall hun (by simp; omega) (hR'.ext hs1) hE' hK' hQ
      · -- one is ready
        have hex : ∃ i, i < par.length ∧ listed.getD i true = false ∧ ∀ j, j < i → listed.getD j true = true := by
          have : ∀ m, m ≤ par.length → (∀ j, j < m → listed.getD j true = true) ∨ ∃ i, i < par.length ∧ listed.getD i true = false ∧ ∀ j, j < i → listed.getD j true = true := by
            intro m
            induction m with
            | zero => intro _; exact .inl fun j hj => by omega
            | succ m ihm =>
              intro hm
              rcases ihm (by omega) with h | h
              · cases hv : listed.getD m true with
                | false => exact .inr ⟨m, by omega, hv, h⟩
                | true =>
                  refine .inl fun j hj => ?_
                  by_cases hjm : j = m
                  · subst hjm; exact hv
                  · exact h j (by omega)
              · exact .inr h
          rcases this par.length (Nat.le_refl _) with h | h
          · exact absurd h hall
          · exact h
        obtain ⟨i, hi, hiu, hbelow⟩ := hex
        have hready : i ∈ Region.ready .any ops listed := by
          obtain ⟨o, h1, h2, h3⟩ := hp i hi
          refine mem_ready.2 ⟨hiu, o, h1, fun e he hbi => ?_⟩
          have hlt := backOK_spec h3 e he hbi
          rw [← getD_true_false (by rw [hsz]; omega)]
          exact hbelow e.on hlt
        refine ⟨fun hn => absurd hready (by rw [hn]; exact List.not_mem_nil), fun j hj => ?_⟩
        obtain ⟨hju, o, hjo, hjall⟩ := mem_ready.1 hj
        have hjlt := (Array.getElem?_eq_some_iff.1 hjo).1
        have hjp : j < par.length := by
          rcases Nat.lt_or_ge j par.length with h | h
          · exact h
          · exfalso
            rcases Nat.eq_or_lt_of_le h with h | h
            · -- the first of the rest: all before it are listed
              subst h
              cases hl : ops.toList.drop par.length with
              | nil =>
                have := hdrop 0
                rw [hl, Nat.add_zero, hjo] at this
                simp at this
              | cons x r =>
                have hx : x = o := by
                  have := hdrop 0
                  rw [hl, Nat.add_zero, hjo] at this
                  simpa using this
                subst hx
                rw [hl] at hlast
                simp only [Bool.and_eq_true] at hlast
                have hmask := Nat.eq_of_beq_eq_true hlast.1.2
                refine hall fun k hk => ?_
                have hbit : Nat.testBit (maskOf ms x.after.toList) k = true := by
                  have h1 : Nat.testBit (Nat.land (maskOf ms x.after.toList) (2 ^ par.length - 1)) k = Nat.testBit (2 ^ par.length - 1) k := by rw [hmask]
                  rw [show Nat.land (maskOf ms x.after.toList) (2 ^ par.length - 1) = (maskOf ms x.after.toList) &&& (2 ^ par.length - 1) from rfl, Nat.testBit_and, Nat.testBit_two_pow_sub_one] at h1
                  simp [hk] at h1
                  exact h1
                have := (mask_closed (L := fun i => listed.getD i false = true) hp hcl par.length x (Nat.le_refl _) hlast.1.1 hjall k hbit).2
                rw [getD_true_false (by rw [hsz]; omega)]
                exact this
            · obtain ⟨e, he, hbi, hon⟩ := onPrev_spec (hprev (j - par.length - 1) o (by
                rw [hdrop, show par.length + (j - par.length - 1 + 1) = j by omega]; exact hjo))
              have h2 := hjall e he hbi
              have h3 := hun e.on (by omega) (by omega)
              rw [getD_true_false (by rw [hsz]; omega)] at h3
              rw [h3] at h2
              cases h2
        have hjg := List.getElem?_eq_getElem hjp
        obtain ⟨o', h1, hgu, hok, hmk, hbk, hrd⟩ := hpg j _ hjg
        have hoo : o' = o := by
          have h1' : ops[j]? = some o' := by simpa using h1
          rw [hjo] at h1'
          injection h1' with h1'
          exact h1'.symm
        subst hoo
        rw [Nat.zero_add] at hmk hbk hrd
        have hjsz : j < listed.size := by rw [hsz]; exact hjlt
        have hjuf : listed.getD j false = false := by rw [← getD_true_false hjsz]; exact hju
        refine par_step hdst hcp hR' hI1 hjg (by rw [hjuf]; simp) hjo hgu hok (fun t ht k g' hk hdt => ?_) hD hconf (fun k hk => ?_) (fun k hk hkp x hx => ?_) (fun a'' w'' env'' H'' S'' mu'' hR'' hE'' hI'' => ?_)
        · have hbit := readGo_spec par 0 (hrd t ht) k g' hk hdt
          rw [Nat.zero_add, hmk] at hbit
          exact mask_closed (L := fun i => listed.getD i false = true) hp hcl j o' (by omega) hbk hjall k hbit
        · have hbit := preOK_spec par.length 0 hpre j (by omega) (by omega) k hk
          rw [hmk] at hbit
          exact (mask_closed (L := fun i => listed.getD i false = true) hp hcl j o' (by omega) hbk hjall k hbit).2
        · have hbit := preOK_spec par.length 0 hpre k (by omega) (by omega) x hx
          obtain ⟨ok, q1, q2, q3⟩ := hp k hkp
          rw [q2] at hbit
          exact (mask_closed (L := fun i => listed.getD i false = true) hp hcl k ok (by omega) q3 (fun e he hbi => hcl k hk ok q1 e he hbi) x hbit).2
        · refine ih (listed.setIfInBounds j true) w'' S'' mu'' H'' env'' a'' ?_ (by simpa using hsz) (fun k h1 h2 => ?_) (fun k hk o'' ho'' e he hbi => ?_) hR'' (hE'.trans hE'') (inv_L hI'' fun k hk => ?_)
          · have := (cu_set (f := fun k => listed.getD k true) (f' := fun k => (listed.setIfInBounds j true).getD k true) hju (by rw [set_getD hjsz, if_pos rfl]) (fun k hk => by rw [set_getD hjsz, if_neg hk]) ops.size).1 hjlt
            omega
          · rw [set_getD hjsz, if_neg (by omega)]
            exact hun k h1 h2
          · rw [set_getD hjsz] at hk ⊢
            by_cases hkj : k = j
            · subst hkj
              rw [hjo] at ho''
              injection ho'' with ho''
              subst ho''
              rw [hjall e he hbi]
              simp
            · rw [if_neg hkj] at hk
              rw [hcl k hk o'' ho'' e he hbi]
              simp
          · rw [set_getD hjsz]
            by_cases hkj : k = j
            · simp [hkj]
            · simp [hkj]
  refine main ops.size (Array.replicate ops.size false) _ S mu _ env a ?_ (by simp) (fun j h1 h2 => by simp [Array.getD, h2]) (fun i hi => ?_) R1 E0 (inv_L (hI0 outs) fun i hi => ?_)
  · have : ∀ (f : Nat → Bool) m, cu f m ≤ m := by
      intro f m
      induction m with
      | zero => exact Nat.le_refl _
      | succ m ih =>
        simp only [cu]
        cases f m <;> simp <;> omega
    exact this _ _
  · rw [Array.getD_eq_getD_getElem?, Array.getElem?_replicate] at hi
    split at hi <;> simp at hi
  · simp [Array.getD]
end
end Go.Vc
