/- Calls: the operations. -/
import Derived.Test.YtgcakbnkeiajeaaVcPul
set_option linter.unusedVariables false
set_option linter.unusedSimpArgs false
namespace Go.Vc

def fnIs (f : FuncId) : Callee → Bool
  | .value (.const (.func (.func g) first caps)) => Nat.beq g f && first.isEmpty && caps.isEmpty
  | .value (.func g) => Nat.beq g f
  | _ => false
/-- The check of one operation. -/
def oOK (P : Program) (nt : Nat) (o : Oper) : AOp → Bool
  | .callP d f args _ _ _ => dOKo nt o.dst d && plainFn P f && (match o.op with | .call c => fnIs f c.callee && arsOK c.args.toList args | _ => false)
  | .callS d x args _ fs => dOKo nt o.dst d && fs.all (plainFn P) && (match o.op with | .call c => (match c.callee with | .value X => arOK X x | _ => false) && arsOK c.args.toList args | _ => false)
  | op => mOK P nt o op

section
variable {P : Program} {w : World} {S : SetS} {mu : Mu} {H : Heap} {env : Env} {a : Act} {nt : Nat} {K : Env → Heap → Prop}

theorem args_rel (hE : RelE w S mu H env a) : ∀ {Xs : List Operand} {xs : List Ar}, arsOK Xs xs = true → RelVs w S mu H (evs xs env) (Xs.map a.eval)
  | [], [], _ => by simp [evs, RelVs]
  | [], _ :: _, h => by simp [arsOK] at h
  | _ :: _, [], h => by simp [arsOK] at h
  | X :: Xs, x :: xs, h => by
    simp [arsOK] at h
    simp only [evs, List.map_cons, RelVs]
    exact ⟨_, _, rfl, arOK_rel hE h.1, args_rel hE h.2⟩

theorem dOKo_put (h : Rel nt w S mu H env a) {x : Option Tmp} {d : Option Nat} (hd : dOKo nt x d = true) {av : AV} {v : Value} (hr : RelV w S mu H av v) : Rel nt w S mu H (putO env d av) (a.put x v) := by
  cases x with
  | none => cases d <;> simp [dOKo] at hd; exact h
  | some t =>
    cases d with
    | none => simp [dOKo] at hd
    | some d =>
      simp [dOKo] at hd
      obtain ⟨rfl, hd⟩ := hd
      exact h.put hd hr

theorem plainFn_spec {f : FuncId} (h : plainFn P f = true) : ∃ fn, P.funcs[f]? = some fn ∧ (fn.name == "runtime.NumGoroutine") = false ∧ fn.body.isSome = true := by
  unfold plainFn at h
  split at h
  · rename_i fn hf
    simp at h
    exact ⟨fn, hf, by simpa using h.1, by simpa using h.2⟩
  · cases h

theorem run_callFunc {f : FuncId} (h : plainFn P f = true) (args : Array Value) : (callFunc f args).run P w = .ok (.enter f args) w := by
  obtain ⟨fn, h1, h2, h3⟩ := plainFn_spec h
  have h2' : ¬ fn.name = "runtime.NumGoroutine" := by simpa using h2
  have h4 : ¬ fn.body = none := by cases hb : fn.body <;> simp [hb] at h3 ⊢
  simp [callFunc, h1, h2', h4]

theorem exec_call {o : Oper} {c : Call} {f : FuncId} (ho : o.op = .call c) (hc : fnIs f c.callee = true) (hp : plainFn P f = true) : (execOp a.eval o).run P w = .ok (.enter f (c.args.map a.eval)) w := by
  obtain ⟨callee, args, ats⟩ := c
  simp only at hc ⊢
  unfold fnIs at hc
  split at hc
  · rename_i g first caps
    simp only [Bool.and_eq_true] at hc
    obtain ⟨⟨h1, h2⟩, h3⟩ := hc
    have := Nat.eq_of_beq_eq_true h1
    subst this
    have h2' : first = #[] := by simpa using h2
    have h3' : caps = #[] := by simpa using h3
    subst h2'; subst h3'
    simp [execOp, ho, resolve, Act.eval, Deferred.ofValue, invoke, run_callFunc hp]
  · rename_i g
    have := Nat.eq_of_beq_eq_true hc
    subst this
    simp [execOp, ho, resolve, Act.eval, Deferred.ofValue, invoke, run_callFunc hp]
  · cases hc

theorem op_callP (hR : Rel nt w S mu H env a) {o : Oper} {d : Option Nat} {f : FuncId} {args : List Ar} {off cnt : Nat} {fz : Bool} {orc : Orc} {base : Nat} (hm : oOK P nt o (.callP d f args off cnt fz) = true) (hf : POK P orc f)
    (hK : awpOp orc base (.callP d f args off cnt fz) env H K) (Q : Exit → Act → World → Prop) : o.wp P a w (OpPost nt w S mu H K) Q := by
  simp only [oOK, Bool.and_eq_true] at hm
  obtain ⟨⟨hd, hp⟩, hm⟩ := hm
  split at hm
  · rename_i c ho
    simp only [Bool.and_eq_true] at hm
    obtain ⟨hc, ha⟩ := hm
    have hargs := args_rel hR.env ha
    simp only [awpOp, nrms_eq, fL_eq] at hK
    cases hdat : datAs H (evs args env) with
    | false => simp [hdat] at hK
    | true =>
      simp only [hdat, cond_true] at hK
      have hrows : ∀ id ∈ ridss (evs args env), ∀ e xs fz b, H[id]? = some (.fix e xs fz) → mu id = some b → ∀ o, o < xs.length * e.size → rowS S mu H (ridss (evs args env)) b o :=
        fun id hid e xs fz b h1 h2 o ho => .inr ⟨id, e, xs, fz, hid, h1, h2, ho⟩
      have hvs := expoVs_rel hR.heap (rowS S mu H (ridss (evs args env))) (fun b o hs => .inl hs) (evs args env) _ hrows hdat hargs
      have hcall := hf (drpF (orc.fu f) (expos H (evs args env))) (c.args.map a.eval) w _ (drpVs_rel _ _ _ (by simpa using hvs)) (rowS_there hR.heap _)
      have fin : ∀ r n, ((fz || (ridss (evs args env)).isEmpty || (scal r && n.isEmpty)) && Nat.ble n.length cnt && resvs H (base + off) n.length) = true →
          K (putO env d (renA 0 (base + off) r)) (lay (bif fz then frz H (ridss (evs args env)) else H) (base + off) (renH 0 (base + off) n)) →
          Calls P f (c.args.map a.eval) w (PPost w (rowS S mu H (ridss (evs args env))) r n) → o.wp P a w (OpPost nt w S mu H K) Q := by
        intro r n hg hK hcall
        simp only [Bool.and_eq_true] at hg
        obtain ⟨⟨hg1, hg2⟩, hg3⟩ := hg
        have hcnt : n.length ≤ cnt := by simpa using hg2
        have hrv := resvs_get _ _ _ hg3
        unfold Oper.wp
        rw [exec_call ho hc hp]
        refine Calls.mono hcall (fun out w' hout => ?_)
        obtain ⟨v, S', mu', rfl, hv, hH, hE⟩ := hout
        show OpPost nt w S mu H K (a.put o.dst v) w'
        by_cases hfz : (fz || (ridss (evs args env)).isEmpty) = true
        · -- rows are frozen
          obtain ⟨F1, F2⟩ := frz_rel hR (ridss (evs args env))
          have hsame : (bif fz then frz H (ridss (evs args env)) else H) = frz H (ridss (evs args env)) := by
            cases fz with
            | true => rfl
            | false =>
              simp at hfz
              rw [hfz]; rfl
          rw [hsame] at hK
          have hrv' : ∀ j, base + off ≤ j → j < base + off + n.length → (frz H (ridss (evs args env)))[j]? = some .resv := fun j h1 h2 => by
            rw [frz_get, hrv j h1 h2]
            split <;> rfl
          obtain ⟨mu'', g1, g2, g3⟩ := call_turn F1 hrv' hv hH hE
          exact ⟨_, _, S', mu'', dOKo_put g1 hd g3, F2.trans g2, hK⟩
        · -- nothing is shown
          have hfz' : fz = false := by cases fz <;> simp at hfz ⊢
          subst hfz'
          have h0 : (ridss (evs args env)).isEmpty = false := by
            cases hh : (ridss (evs args env)).isEmpty with
            | true => rw [hh] at hfz; exact absurd rfl hfz
            | false => rfl
          rw [h0] at hg1
          have hsc : scal r = true ∧ n = [] := by simpa using hg1
          obtain ⟨hs1, hs2⟩ := hsc
          subst hs2
          obtain ⟨g1, g2⟩ := call_still hR hE
          have : lay (bif false then frz H (ridss (evs args env)) else H) (base + off) (renH 0 (base + off) []) = H := rfl
          rw [this] at hK
          exact ⟨_, _, S, mu, dOKo_put g1 hd (scal_rel (base + off) r v hs1 hv), g2, hK⟩
      have hK := (prK_iff _ _).1 hK
      cases hp : (orc.p f (drpF (orc.fu f) (expos H (evs args env)))).res with
      | ok r n =>
        simp only [hp] at hK hcall
        cases hg : ((fz || (ridss (evs args env)).isEmpty || (scal r && n.isEmpty)) && Nat.ble n.length cnt && resvs H (base + off) n.length) with
        | true => rw [hg] at hK; exact fin r n hg hK hcall
        | false => rw [hg] at hK; exact hK.elim
      | iff c' r n =>
        simp only [hp] at hK hcall
        cases hg : ((fz || (ridss (evs args env)).isEmpty || (scal r && n.isEmpty)) && Nat.ble n.length cnt && resvs H (base + off) n.length) with
        | true => rw [hg] at hK; exact fin r n hg hK.2 (hcall hK.1)
        | false => rw [hg] at hK; exact hK.elim
      | bad => simp only [hp] at hK
      | br _ _ _ => simp only [hp] at hK
  · cases hm

theorem RelVs_append : ∀ {vs vs' : List AV} {us us' : List Value}, RelVs w S mu H vs us → RelVs w S mu H vs' us' → RelVs w S mu H (vs ++ vs') (us ++ us')
  | [], _, us, _, h1, h2 => by simp only [RelVs] at h1; subst h1; simpa using h2
  | v :: vs, _, us, _, h1, h2 => by
    simp only [RelVs] at h1
    obtain ⟨u, us1, rfl, g1, g2⟩ := h1
    simp only [List.cons_append, RelVs]
    exact ⟨u, _, rfl, g1, RelVs_append g2 h2⟩
theorem RelC_vs : ∀ {vs : List AV} {us : List Value}, RelC w S mu H vs us → oneAs vs = true → RelVs w S mu H vs us
  | [], us, h, _ => by simpa only [RelC, RelVs] using h
  | v :: vs, us, h, ho => by
    simp only [RelC, RelVs] at h ⊢
    simp [oneAs] at ho
    obtain ⟨u, us1, rfl, g1, g2⟩ := h
    refine ⟨u, us1, rfl, ?_, RelC_vs g2 ho.2⟩
    cases v <;> simp [oneA] at ho <;> simpa only [RelV] using g1

/-- A call that is handed the blocks that its arguments hold on to. -/
theorem loc_sound {orc : Orc} {f : FuncId} (hf : SOK P orc f) (hR : Rel nt w S mu H env a) {vs : List AV} {us : Array Value} (hvs : RelVs w S mu H vs us.toList) {rho : List Nat} {k : AV → Heap → Prop} (hK : locK orc f vs H rho k) :
    Calls P f us w (fun out w' => ∃ v S' mu' r H', out = .returned v ∧ k r H' ∧ Rel nt w' S' mu' H' env a ∧ Ev w S mu H w' S' mu' H' ∧ RelV w' S' mu' H' r v) := by
  unfold locK at hK
  cases hg : rhoOK vs H rho with
  | false => rw [hg] at hK; exact hK.elim
  | true =>
    rw [hg] at hK
    have hK := (srK_iff _ _).1 hK
    simp only [rhoOK, Bool.and_eq_true] at hg
    obtain ⟨⟨⟨g1, g2⟩, g3⟩, g4⟩ := hg
    have hH := pul_heap hR.heap g1 g3
    have hv : RelVs w S (mulOf mu rho) (pulBs rho (blks H rho)) (drpOs (pulAs rho vs)) us.toList := drpOVs_rel _ _ (pulVs_rel (pul_hm rho) vs _ (allIn_spec g2) hvs)
    have hcall := hf _ us w S _ _ hv hH
    have fin : ∀ r n, Nat.beq n.length rho.length = true → k (gmA (fun i => rho.getD i 0) r) (setAll H (pushW (fun i => rho.getD i 0) rho n)) → Calls P f us w (SPost w S (mulOf mu rho) (pulBs rho (blks H rho)) r n) →
        Calls P f us w (fun out w' => ∃ v S' mu' r H', out = .returned v ∧ k r H' ∧ Rel nt w' S' mu' H' env a ∧ Ev w S mu H w' S' mu' H' ∧ RelV w' S' mu' H' r v) := by
      intro r n hl hk hc
      refine Calls.mono hc (fun out w' hout => ?_)
      obtain ⟨v, S', mu', rfl, q1, q2, q3⟩ := hout
      obtain ⟨mu'', k1, k2, k3⟩ := loc_turn hR g1 g4 q1 q2 q3 (Nat.eq_of_beq_eq_true hl)
      exact ⟨v, S', mu'', _, _, rfl, hk, k1, k2, k3⟩
    cases hs : (orc.s f (drpOs (pulAs rho vs)) (pulBs rho (blks H rho))).res with
    | ok r n =>
      simp only [hs] at hK hcall
      cases hl : Nat.beq n.length rho.length with
      | false => rw [hl] at hK; exact hK.elim
      | true => rw [hl] at hK; exact fin r n hl hK hcall
    | iff c' r n =>
      simp only [hs] at hK hcall
      cases hl : Nat.beq n.length rho.length with
      | false => rw [hl] at hK; exact hK.elim
      | true => rw [hl] at hK; exact fin r n hl hK.2 (hcall hK.1)
    | bad => simp only [hs] at hK
    | br _ _ _ => simp only [hs] at hK

theorem op_callS (hR : Rel nt w S mu H env a) {o : Oper} {d : Option Nat} {x : Ar} {args : List Ar} {mks : List (Nat × Nat × Ty)} {fs : List FuncId} {orc : Orc} {base : Nat} (hm : oOK P nt o (.callS d x args mks fs) = true) (hf : ∀ f ∈ fs, SOK P orc f)
    (hK : awpOp orc base (.callS d x args mks fs) env H K) (Q : Exit → Act → World → Prop) : o.wp P a w (OpPost nt w S mu H K) Q := by
  simp only [oOK, Bool.and_eq_true] at hm
  obtain ⟨⟨hd, hpl⟩, hm⟩ := hm
  split at hm
  · rename_i c ho
    simp only [Bool.and_eq_true] at hm
    obtain ⟨hc, ha⟩ := hm
    have hargs := args_rel hR.env ha
    simp only [awpOp] at hK
    cases hv : x.ev env <;> simp only [hv] at hK
    rename_i f caps
    cases hg : (oneAs caps && fs.any (Nat.beq f)) with
    | false => rw [hg] at hK; exact hK.elim
    | true =>
    rw [hg] at hK
    simp only [cond_true] at hK
    simp only [Bool.and_eq_true, List.any_eq_true] at hg
    obtain ⟨hone, g, hg1, hg2⟩ := hg
    have := Nat.eq_of_beq_eq_true hg2
    subst this
    have hp : plainFn P f = true := (List.all_eq_true.1 hpl) f hg1
    have hf := hf f hg1
    split at hc
    · rename_i X hX
      have r1 := arOK_rel hR.env hc
      rw [hv] at r1
      simp only [RelV, RelA] at r1
      obtain ⟨vs, e1, hcaps⟩ := r1
      injection e1 with e1
      have hexec : (execOp a.eval o).run P w = .ok (.enter f (c.args.map a.eval ++ vs)) w := by
        obtain ⟨callee, cargs, ats⟩ := c
        simp only at hX
        subst hX
        simp [execOp, ho, resolve, e1, Deferred.ofValue, invoke, run_callFunc hp]
      split at hK
      · rename_i as h1 hmk
        obtain ⟨mu1, R1, E1, hv1⟩ := mkArgs_turn mks base _ _ mu H as h1 hR hargs hmk
        have hcaps1 := RelC.mono E1.turn _ _ hcaps
        have hall : RelVs w S mu1 h1 (as ++ caps) (c.args.map a.eval ++ vs).toList := by
          rw [Array.toList_append, Array.toList_map]
          exact RelVs_append hv1 (RelC_vs hcaps1 hone)
        rw [nrms_eq, nrmH_eq, fL_eq] at hK
        have hcall := loc_sound hf R1 hall hK
        unfold Oper.wp
        rw [hexec]
        refine Calls.mono hcall (fun out w' hout => ?_)
        obtain ⟨v, S', mu', r, H', rfl, hk, k1, k2, k3⟩ := hout
        exact ⟨_, _, S', mu', dOKo_put k1 hd k3, E1.trans k2, hk⟩
      · exact hK.elim
    · cases hc
  · cases hm
end
end Go.Vc
