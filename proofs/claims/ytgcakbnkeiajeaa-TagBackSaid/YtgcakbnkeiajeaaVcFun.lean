/- Functions: from the body to the contract. -/
import Derived.Test.YtgcakbnkeiajeaaVcCode
set_option linter.unusedVariables false
set_option linter.unusedSimpArgs false
namespace Go.Vc

/-- Where a result lies. -/
inductive RV where
  | tmp (t : Nat) | cell (t : Nat) (ty : Ty)
def resOK (P : Program) : List ResultVar → List RV → Bool
  | [], [] => true
  | .tmp t :: r, .tmp u :: s => Nat.beq t u && resOK P r s
  | .cell t ty :: r, .cell u T :: s => Nat.beq t u && tyOK P ty T && resOK P r s
  | _, _ => false
def cellV (h : Heap) (ty : Ty) : AV → Option AV
  | .ptr id p u => bif Ty.same u ty then (match h.getD id .dead with
    | .var _ v _ => some (getA p v)
    | _ => none) else none
  | _ => none
def resV (e : Env) (h : Heap) : RV → Option AV
  | .tmp t => some (get e t)
  | .cell t ty => cellV h ty (get e t)
def resVs (e : Env) (h : Heap) : List RV → Option (List AV)
  | [] => some []
  | r :: rs => match resV e h r, resVs e h rs with
    | some v, some vs => some (v :: vs)
    | _, _ => none
def oneOrTup : List AV → AV
  | [v] => v
  | vs => .tup vs

/-- The result, and what it holds on to. -/
def clo (rs : List RV) (e : Env) (h : Heap) : Option (AV × Heap) := match resVs e h rs with
  | some vs =>
    let r := oneOrTup vs
    let rho1 := ded [] (idsA r)
    let rho := ded rho1 (bids (blks h rho1))
    bif nodupN rho && allIn (idsA r) rho && allIn (bids (blks h rho)) rho then some (pulA rho r, pulBs rho (blks h rho)) else none
  | none => none

section
variable {P : Program} {w : World} {S : SetS} {mu : Mu} {H : Heap} {env : Env} {a : Act} {nt : Nat}

/-- The result leaves, with what it holds on to. -/
theorem close_rel {w0 : World} {S0 : SetS} {rho : List Nat} {r : AV} {v : Value} (hH : RelH w S mu H) (hE : Ev w0 S0 mu0 [] w S mu H) (hv : RelV w S mu H r v) (h1 : nodupN rho = true) (h2 : allIn (idsA r) rho = true) (h3 : allIn (bids (blks H rho)) rho = true) :
    PPost w0 S0 (pulA rho r) (pulBs rho (blks H rho)) (.returned v) w := by
  let mu'' : Mu := fun i => match rho[i]? with | some id => mu id | none => none
  have hmu : ∀ i id, rho[i]? = some id → mu'' i = mu id := fun i id hi => by simp only [mu'', hi]
  have hget : ∀ i, (pulBs rho (blks H rho))[i]? = (rho[i]?).map fun id => pulB rho (H.getD id .dead) := fun i => by
    rw [pulBs_get, blks_get]
    cases rho[i]? <;> rfl
  have hm : ∀ id ∈ rho, ∀ b, H[id]? = some b → (pulBs rho (blks H rho))[idx id rho]? = some (pulB rho b) ∧ mu'' (idx id rho) = mu id := fun id hid b hb => by
    have hi := idx_get hid
    refine ⟨?_, hmu _ _ hi⟩
    rw [hget, hi]
    simp only [Option.map_some]
    rw [List.getD_eq_getElem?_getD, hb]
    rfl
  have hsome : ∀ i b, (pulBs rho (blks H rho))[i]? = some b → ∃ id, rho[i]? = some id ∧ b = pulB rho (H.getD id .dead) := fun i b hb => by
    rw [hget] at hb
    cases hr : rho[i]? with
    | none => rw [hr] at hb; cases hb
    | some id => rw [hr] at hb; exact ⟨id, by first | exact hr | rfl, by simpa using hb.symm⟩
  have hlive : ∀ b, (pulB rho b).live = b.live := fun b => by cases b <;> rfl
  have hHlive : ∀ id, (H.getD id .dead).live = true → H[id]? = some (H.getD id .dead) := fun id h => getD_blk rfl (fun e => by rw [e] at h; cases h)
  have hmus : ∀ i b, mu'' i = some b → ∃ id, rho[i]? = some id ∧ mu id = some b := fun i b hi => by
    cases hr : rho[i]? with
    | none => simp only [mu'', hr] at hi; cases hi
    | some id => rw [hmu i id hr] at hi; exact ⟨id, by first | exact hr | rfl, hi⟩
  refine ⟨v, S, mu'', rfl, pulV_rel hm r v (allIn_spec h2) hv, ⟨fun i b hb => ?_, fun i j bi bj b hi hj li lj mi mj => ?_, hH.there, fun i b hi => ?_⟩, ⟨⟨hE.turn.stab, hE.turn.wide, fun id b hb => by simp at hb⟩, hE.size, hE.os, hE.tape, hE.output, hE.frame, hE.newS, fun i b hi => ?_⟩⟩
  · obtain ⟨id, hid, rfl⟩ := hsome i b hb
    have hmi := hmu i id hid
    cases hx : H.getD id .dead with
    | resv => trivial
    | dead => trivial
    | var t u fz =>
      have hb' := getD_blk hx (by simp)
      obtain ⟨b, cells, ty, k1, k2, k3, k4, k5, k6⟩ := hH.blk id _ hb'
      refine ⟨b, cells, ty, by rw [hmi, k1], k2, k3, pulA_rel hm _ _ (fun x hxm => ?_) k4, fitsV_pul rho _ _ k5, k6⟩
      refine allIn_spec h3 x (bids_mem _ (H.getD id .dead) ?_ x (by rw [hx]; exact hxm))
      have : (blks H rho)[i]? = some (H.getD id .dead) := by rw [blks_get, hid]; rfl
      exact List.mem_of_getElem? this
    | fix e xs fz =>
      have hb' := getD_blk hx (by simp)
      obtain ⟨b, cells, ty, k1, k2, k3, k4, k5, k6⟩ := hH.blk id _ hb'
      exact ⟨b, cells, ty, by rw [hmi, k1], k2, k3, k4, k5, k6⟩
    | ext e m =>
      have hb' := getD_blk hx (by simp)
      obtain ⟨k0, k1⟩ := hH.blk id _ hb'
      refine ⟨k0, ?_⟩
      rcases k1 with ⟨k1, k2⟩ | ⟨b, cells, ty, k1, k2, k3, k4⟩
      · exact .inl ⟨k1, by rw [hmi, k2]⟩
      · exact .inr ⟨b, cells, ty, by rw [hmi, k1], k2, k3, k4⟩
  · obtain ⟨id1, hid1, rfl⟩ := hsome i bi hi
    obtain ⟨id2, hid2, rfl⟩ := hsome j bj hj
    rw [hlive] at li lj
    rw [hmu i id1 hid1] at mi
    rw [hmu j id2 hid2] at mj
    have := hH.inj id1 id2 _ _ b (hHlive _ li) (hHlive _ lj) li lj mi mj
    subst this
    exact nodupN_spec h1 i j id1 hid1 hid2
  · obtain ⟨id, _, h⟩ := hmus i b hi
    exact hH.mus id b h
  · obtain ⟨id, _, h⟩ := hmus i b hi
    exact hE.newM id b h

/-! ### Results -/
def resOne (tmps : Array Value) : ResultVar → Sem Value
  | .tmp t => pure (tmps.getD t undef)
  | .cell a t => do loadVar t (← asAddr (tmps.getD a undef))

theorem resV_run (hR : Rel nt w S mu H env a) {rv : ResultVar} {r : RV} (hck : resOK P [rv] [r] = true) {v : AV} (hv : resV env H r = some v) : ∃ u, (resOne a.tmps rv).run P w = .ok u w ∧ RelV w S mu H v u := by
  cases rv with
  | tmp t =>
    cases r <;> simp [resOK] at hck
    subst hck
    simp only [resV, Option.some.injEq] at hv
    subst hv
    exact ⟨_, rfl, hR.env t⟩
  | cell t ty =>
    cases r <;> simp [resOK] at hck
    rename_i u T
    obtain ⟨rfl, hty⟩ := hck
    simp only [resV] at hv
    have r1 := hR.env t
    cases hg : get env t <;> simp only [hg, cellV] at hv <;> first | (cases hv; done) | skip
    rename_i id p u
    cases hs : Ty.same u T with
    | false => rw [hs] at hv; cases hv
    | true =>
      have := Ty.same_eq _ _ hs
      subst this
      rw [hs] at hv
      simp only [cond_true] at hv
      cases hbk : H.getD id .dead with
      | var T' x fz =>
        simp only [hbk, Option.some.injEq] at hv
        subst hv
        rw [hg] at r1
        obtain ⟨b, o', e1, blk, hb, hu, hpl⟩ := r1.ptr
        have hb' := getD_blk hbk (by simp)
        rw [hb] at hb'
        injection hb' with hb'
        subst hb'
        obtain ⟨g1, g2, g3⟩ := hpl (.inl ⟨_, _, _, rfl⟩)
        obtain ⟨c, k1, k2, k3⟩ := (place_rel hR.heap hb g1 g2).1 T' x fz rfl
        simp only [Blk.ty] at g3
        rw [g3] at k3
        obtain ⟨val, q1, q2⟩ := run_loadVar (w := w) hty k1 (RelA.length _ _ _ k3 k2)
        refine ⟨val, ?_, Val.rel k3 k2 q2⟩
        simp [resOne, e1, asAddr, q1]
      | resv => simp only [hbk] at hv; cases hv
      | dead => simp only [hbk] at hv; cases hv
      | ext e m => simp only [hbk] at hv; cases hv
      | fix e xs fz => simp only [hbk] at hv; cases hv

theorem resVs_run (hR : Rel nt w S mu H env a) : ∀ {rvs : List ResultVar} {rs : List RV}, resOK P rvs rs = true → ∀ {vs : List AV}, resVs env H rs = some vs → ∃ us, (rvs.mapM (resOne a.tmps)).run P w = .ok us w ∧ RelVs w S mu H vs us
  | [], [], _, vs, h => by
    simp only [resVs, Option.some.injEq] at h
    subst h
    exact ⟨[], by simp, by simp only [RelVs]⟩
  | [], _ :: _, h, _, _ => by simp [resOK] at h
  | .tmp _ :: _, [], h, _, _ => by simp [resOK] at h
  | .cell _ _ :: _, [], h, _, _ => by simp [resOK] at h
  | rv :: rvs, r :: rs, hck, vs, h => by
    have h1 : resOK P [rv] [r] = true ∧ resOK P rvs rs = true := by
      cases rv <;> cases r <;> simp [resOK] at hck ⊢ <;> simp [hck]
    simp only [resVs] at h
    cases hv : resV env H r with
    | none => simp only [hv] at h; cases h
    | some v =>
      cases hvs : resVs env H rs with
      | none => simp only [hv, hvs] at h; cases h
      | some vs' =>
        simp only [hv, hvs, Option.some.injEq] at h
        subst h
        obtain ⟨u, q1, q2⟩ := resV_run hR h1.1 hv
        obtain ⟨us, q3, q4⟩ := resVs_run hR h1.2 hvs
        refine ⟨u :: us, by simp [List.mapM_cons, q1, q3], ?_⟩
        simp only [RelVs]
        exact ⟨u, us, rfl, q2, q4⟩

theorem RelVs_length : ∀ {vs : List AV} {us : List Value}, RelVs w S mu H vs us → vs.length = us.length
  | [], us, h => by simp only [RelVs] at h; subst h; rfl
  | v :: vs, us, h => by
    simp only [RelVs] at h
    obtain ⟨u, us', rfl, _, h⟩ := h
    simp [RelVs_length h]

theorem run_results {fn : Func} {rs : List RV} (hck : resOK P fn.results.toList rs = true) (hR : Rel nt w S mu H env a) {vs : List AV} (h : resVs env H rs = some vs) : ∃ v, (results fn a.tmps).run P w = .ok v w ∧ RelV w S mu H (oneOrTup vs) v := by
  obtain ⟨us, h1, h2⟩ := resVs_run hR hck h
  have hm : (fn.results.mapM (resOne a.tmps)).run P w = .ok us.toArray w := by
    rw [Array.mapM_eq_mapM_toList]
    simp [h1]
  have hrun : (results fn a.tmps).run P w = .ok (if h : us.toArray.size = 1 then us.toArray[0] else .tuple us.toArray) w := by
    have he : results fn a.tmps = (do let vs ← fn.results.mapM (resOne a.tmps); pure (if h : vs.size = 1 then vs[0] else .tuple vs)) := rfl
    rw [he, Sem.run_bind, hm]
    rfl
  refine ⟨_, hrun, ?_⟩
  have hl := RelVs_length h2
  match vs, us, h2, hl with
  | [v], [u], h2, _ =>
    simp only [RelVs] at h2
    obtain ⟨u', us', e, h3, _⟩ := h2
    injection e with e1 e2
    subst e1
    simpa [oneOrTup] using h3
  | [], [], h2, _ => simpa [oneOrTup, RelV] using h2
  | v1 :: v2 :: vs, u1 :: u2 :: us, h2, _ => simpa [oneOrTup, RelV] using h2

/-! ### The contract -/
@[reducible] def isExit : Out → Bool
  | .exit _ => true
  | _ => false

/-- What a function ends with, laid open. -/
structure Fin (r0 : AV) (n0 : Heap) (r : AV) (n : Heap) : Prop where
  r : r0 = r
  n : n0 = n
def endK (rs : List RV) (e : Env) (h : Heap) (r : AV) (n : Heap) : Prop := match resVs e h rs with
  | some vs => nrms vs fun vs => nrmH h fun h => fL (ded [] (idsA (oneOrTup vs))) fun rho1 => fL (ded rho1 (bids (blks h rho1))) fun rho =>
    bif nodupN rho && allIn (idsA (oneOrTup vs)) rho && allIn (bids (blks h rho)) rho then nrm (pulA rho (oneOrTup vs)) fun r' => nrmH (pulBs rho (blks h rho)) fun n' => Fin r' n' r n else False
  | none => False
structure Leaf (rs : List RV) (o : Out) (e : Env) (h : Heap) (r : AV) (n : Heap) : Prop where
  o : isExit o = false
  k : endK rs e h r n
theorem Leaf.c {rs : List RV} {o : Out} {e : Env} {h : Heap} {r : AV} {n : Heap} (hl : Leaf rs o e h r n) : clo rs e h = some (r, n) := by
  have hk := hl.k
  unfold endK at hk
  split at hk
  · rename_i vs hvs
    rw [nrms_eq, nrmH_eq, fL_eq, fL_eq] at hk
    unfold clo
    rw [hvs]
    simp only
    cases hg : (nodupN (ded (ded [] (idsA (oneOrTup vs))) (bids (blks h (ded [] (idsA (oneOrTup vs)))))) && allIn (idsA (oneOrTup vs)) (ded (ded [] (idsA (oneOrTup vs))) (bids (blks h (ded [] (idsA (oneOrTup vs)))))) &&
        allIn (bids (blks h (ded (ded [] (idsA (oneOrTup vs))) (bids (blks h (ded [] (idsA (oneOrTup vs)))))))) (ded (ded [] (idsA (oneOrTup vs))) (bids (blks h (ded [] (idsA (oneOrTup vs))))))) with
    | false => rw [hg] at hk; exact hk.elim
    | true =>
      rw [hg] at hk
      simp only [cond_true] at hk ⊢
      rw [nrm_eq, nrmH_eq] at hk
      rw [hk.r, hk.n]
  · exact hk.elim

def argE : Nat → List AV → Env
  | _, [] => []
  | i, v :: r => (i, v) :: argE (i + 1) r
def funOK (P : Program) (f : FuncId) (nt : Nat) (rs : List RV) (ac : AC) : Bool := match P.funcs[f]? with
  | some fn => (match fn.body with
    | some c => Nat.beq fn.ntmps nt && resOK P fn.results.toList rs && codeOK P nt c ac
    | none => false)
  | none => false
theorem argE_get : ∀ (vs : List AV) (i t : Nat), get (argE i vs) t = if i ≤ t then vs.getD (t - i) .undef else .undef
  | [], i, t => by simp [argE, get]
  | v :: vs, i, t => by
    simp only [argE, get]
    cases h : Nat.beq i t with
    | true =>
      have := Nat.eq_of_beq_eq_true h
      subst this
      simp
    | false =>
      have hne : ¬ i = t := fun e => by subst e; simp at h
      simp only [cond_false]
      rw [argE_get vs (i + 1) t]
      by_cases hit : i ≤ t
      · rw [if_pos (by omega), if_pos hit, show t - i = (t - (i + 1)) + 1 by omega, List.getD_cons_succ]
      · rw [if_neg (by omega), if_neg hit]
theorem RelVs_at : ∀ {vs : List AV} {us : List Value}, RelVs w S mu H vs us → ∀ i, RelV w S mu H (vs.getD i .undef) (us.getD i undef)
  | [], us, h, i => by simp [RelV]
  | v :: vs, us, h, i => by
    simp only [RelVs] at h
    obtain ⟨u, us', rfl, h1, h2⟩ := h
    cases i with
    | zero => simpa using h1
    | succ i => simpa using RelVs_at h2 i

theorem start_rel {args : List AV} {vals : Array Value} (hargs : RelVs w S mu H args vals.toList) (hH : RelH w S mu H) (hle : args.length ≤ nt) :
    Rel nt w S mu H (argE 0 args) { tmps := vals ++ Array.replicate (nt - vals.size) undef, defers := [] } := by
  have hl := RelVs_length hargs
  simp only [Array.length_toList] at hl
  refine ⟨fun t => ?_, hH, by simp; omega, rfl⟩
  rw [argE_get, if_pos (Nat.zero_le _), Nat.sub_zero]
  have := RelVs_at hargs t
  by_cases ht : t < vals.size
  · have e1 : (vals ++ Array.replicate (nt - vals.size) undef).getD t undef = vals.toList.getD t undef := by
      simp [Array.getElem?_append, ht, List.getD]
    rw [e1]
    exact this
  · have e1 : args.getD t .undef = .undef := by
      rw [List.getD_eq_getElem?_getD, List.getElem?_eq_none (by omega)]
      rfl
    rw [e1]
    simp only [RelV]

theorem fun_sound {orc : Orc} {f : FuncId} {rs : List RV} {ac : AC} (hck : funOK P f nt rs ac = true) (hm : P.follows .mixedOrders = true) (hp : ∀ g ∈ acP ac, POK P orc g) (hs : ∀ g ∈ acS ac, SOK P orc g)
    {args : List AV} {vals : Array Value} (hargs : RelVs w S mu0 [] args vals.toList) (hthere : ∀ b o, S b o → ∃ v, w.cell? ⟨b, o, none⟩ = some v) (hle : Nat.ble args.length nt = true) {r : AV} {n : Heap}
    (hK : awp orc ac (argE 0 args) [] (fun o e h => Leaf rs o e h r n)) : Calls P f vals w (PPost w S r n) := by
  unfold funOK at hck
  split at hck
  · rename_i fn hf
    split at hck
    · rename_i c hb
      simp only [Bool.and_eq_true] at hck
      obtain ⟨⟨h1, h2⟩, h3⟩ := hck
      have hnt := Nat.eq_of_beq_eq_true h1
      refine calls_of_wp hf hb ?_
      rw [hnt]
      have hH : RelH w S mu0 [] := ⟨fun _ _ h => by simp at h, fun _ _ _ _ _ h => by simp at h, hthere, fun _ _ h => by simp [mu0] at h⟩
      refine code_sound hm ac c h3 hp hs w S mu0 [] _ _ _ _ (start_rel hargs hH (by simpa using hle)) hK (fun o a' w' hpost => ?_)
      obtain ⟨e, h', S', mu', R1, E1, hlf⟩ := hpost
      have hex := hlf.o
      have hclo := hlf.c
      unfold clo at hclo
      cases hvs : resVs e h' rs with
      | none => simp only [hvs] at hclo; cases hclo
      | some vs =>
        simp only [hvs] at hclo
        obtain ⟨v, q1, q2⟩ := run_results h2 R1 hvs
        generalize ded (ded [] (idsA (oneOrTup vs))) (bids (blks h' (ded [] (idsA (oneOrTup vs))))) = rho at hclo
        cases hg : (nodupN rho && allIn (idsA (oneOrTup vs)) rho && allIn (bids (blks h' rho)) rho) with
        | false => rw [hg] at hclo; cases hclo
        | true =>
          rw [hg] at hclo
          simp only [cond_true, Option.some.injEq, Prod.mk.injEq] at hclo
          obtain ⟨rfl, rfl⟩ := hclo
          simp only [Bool.and_eq_true] at hg
          have hpp := close_rel R1.heap E1 q2 hg.1.1 hg.1.2 hg.2
          cases o with
          | next => exact ⟨R1.defers, v, q1, hpp⟩
          | ret => exact ⟨R1.defers, v, q1, hpp⟩
          | exit i => cases hex
    · cases hck
  · cases hck

/-- The same of a function that is handed the whole heap. -/
def cloS (rs : List RV) (e : Env) (h : Heap) (k : Nat) : Option (AV × Heap) := match resVs e h rs with
  | some vs => bif Nat.ble k h.length && low k (oneOrTup vs) && lowH k (h.take k) then some (oneOrTup vs, h.take k) else none
  | none => none

structure LeafS (rs : List RV) (k : Nat) (o : Out) (e : Env) (h : Heap) (r : AV) (n : Heap) : Prop where
  o : isExit o = false
  c : cloS rs e h k = some (r, n)
theorem fun_soundS {orc : Orc} {f : FuncId} {rs : List RV} {ac : AC} (hck : funOK P f nt rs ac = true) (hm : P.follows .mixedOrders = true) (hp : ∀ g ∈ acP ac, POK P orc g) (hs : ∀ g ∈ acS ac, SOK P orc g)
    {args : List AV} {vals : Array Value} (hargs : RelVs w S mu H args vals.toList) (hH : RelH w S mu H) (hle : Nat.ble args.length nt = true) {r : AV} {n : Heap}
    (hK : awp orc ac (argE 0 args) H (fun o e h => LeafS rs H.length o e h r n)) : Calls P f vals w (SPost w S mu H r n) := by
  unfold funOK at hck
  split at hck
  · rename_i fn hf
    split at hck
    · rename_i c hb
      simp only [Bool.and_eq_true] at hck
      obtain ⟨⟨h1, h2⟩, h3⟩ := hck
      have hnt := Nat.eq_of_beq_eq_true h1
      refine calls_of_wp hf hb ?_
      rw [hnt]
      refine code_sound hm ac c h3 hp hs w S mu H _ _ _ _ (start_rel hargs hH (by simpa using hle)) hK (fun o a' w' hpost => ?_)
      obtain ⟨e, h', S', mu', R1, E1, hex, hclo⟩ := hpost
      unfold cloS at hclo
      cases hvs : resVs e h' rs with
      | none => simp only [hvs] at hclo; cases hclo
      | some vs =>
        simp only [hvs] at hclo
        obtain ⟨v, q1, q2⟩ := run_results h2 R1 hvs
        cases hg : (Nat.ble H.length h'.length && low H.length (oneOrTup vs) && lowH H.length (h'.take H.length)) with
        | false => rw [hg] at hclo; cases hclo
        | true =>
          rw [hg] at hclo
          simp only [cond_true, Option.some.injEq, Prod.mk.injEq] at hclo
          obtain ⟨rfl, rfl⟩ := hclo
          simp only [Bool.and_eq_true] at hg
          have R2 := (R1.restr []).take (n := H.length) (by rfl) hg.2
          have hpp : SPost w S mu H (oneOrTup vs) (h'.take H.length) (.returned v) w' := ⟨v, S', mu', rfl, RelV_low _ _ _ hg.1.2 q2, R2.heap, E1.take rfl⟩
          cases o with
          | next => exact ⟨R1.defers, v, q1, hpp⟩
          | ret => exact ⟨R1.defers, v, q1, hpp⟩
          | exit i => cases hex
    · cases hck
  · cases hck
end
end Go.Vc
