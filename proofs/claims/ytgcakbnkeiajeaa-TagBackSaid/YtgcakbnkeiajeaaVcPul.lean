/- What a value holds on to; addresses by a map; calls with a part of memory. -/
import Derived.Test.YtgcakbnkeiajeaaVcCall
set_option linter.unusedVariables false
set_option linter.unusedSimpArgs false
namespace Go.Vc

section
variable {P : Program} {w : World} {S : SetS} {mu : Mu} {H : Heap} {env : Env} {a : Act} {nt : Nat}

theorem memN_spec {x : Nat} : ∀ {l : List Nat}, memN x l = true ↔ x ∈ l
  | [] => by simp [memN]
  | y :: r => by
    simp only [memN, Bool.or_eq_true, List.mem_cons, memN_spec (l := r)]
    constructor
    · rintro (h | h)
      · exact .inl (Nat.eq_of_beq_eq_true h).symm
      · exact .inr h
    · rintro (h | h)
      · exact .inl (by subst h; simp)
      · exact .inr h
theorem idx_get {x : Nat} : ∀ {l : List Nat}, x ∈ l → l[idx x l]? = some x
  | [], h => by simp at h
  | y :: r, h => by
    simp only [idx]
    cases hb : Nat.beq y x with
    | true => simp; exact Nat.eq_of_beq_eq_true hb
    | false =>
      have hne : ¬ x = y := fun e => by subst e; simp at hb
      simp only [cond_false, List.getElem?_cons_succ]
      exact idx_get ((List.mem_cons.1 h).resolve_left hne)
theorem nodupN_spec : ∀ {l : List Nat}, nodupN l = true → ∀ (i j : Nat) (x : Nat), l[i]? = some x → l[j]? = some x → i = j
  | [], _, i, j, x, h, _ => by simp at h
  | y :: r, h, i, j, x, hi, hj => by
    simp only [nodupN, Bool.and_eq_true] at h
    have hn : y ∉ r := fun hm => by
      have := memN_spec.2 hm
      rw [this] at h
      simp at h
    cases i with
    | zero =>
      cases j with
      | zero => rfl
      | succ j =>
        simp at hi hj
        subst hi
        exact absurd (List.mem_of_getElem? hj) hn
    | succ i =>
      cases j with
      | zero =>
        simp at hi hj
        subst hj
        exact absurd (List.mem_of_getElem? hi) hn
      | succ j => rw [nodupN_spec h.2 i j x (by simpa using hi) (by simpa using hj)]

section
variable {mu'' : Mu} {n : Heap} {rho : List Nat}
mutual
theorem pulA_rel (hm : ∀ id ∈ rho, ∀ b, H[id]? = some b → n[idx id rho]? = some (pulB rho b) ∧ mu'' (idx id rho) = mu id) : ∀ (v : AV) (cs : List Value), (∀ id ∈ idsA v, id ∈ rho) → RelA w S mu H v cs → RelA w S mu'' n (pulA rho v) cs
  | .undef, _, _, h => by simp [RelA] at h
  | .int .., cs, _, h => by simpa only [RelA, pulA] using h
  | .bool .., cs, _, h => by simpa only [RelA, pulA] using h
  | .str .., cs, _, h => by simpa only [RelA, pulA] using h
  | .sl e xs .full, cs, _, h => by simpa only [RelA, pulA, RelT] using h
  | .sl e xs .no, cs, _, h => by simpa only [RelA, pulA, RelT] using h
  | .sl e xs (.own id), cs, hi, h => by
    simp only [RelA, pulA] at h ⊢
    obtain ⟨ad, m, c, h0, h1, blk, h2, h3, h4⟩ := h
    obtain ⟨g1, g2⟩ := hm id (hi id (by simp [idsA])) blk h2
    refine ⟨ad, m, c, h0, h1, _, g1, by cases blk <;> first | exact h3 | (simp [Blk.grows] at h3), ?_⟩
    intro e' m' hb
    cases blk <;> simp [pulB] at hb
    obtain ⟨rfl, rfl⟩ := hb
    obtain ⟨q1, q2, q3⟩ := h4 _ _ rfl
    exact ⟨q1, q2, fun hnm => by rw [g2]; exact q3 hnm⟩
  | .rsl id e1 off len, cs, hi, h => by
    simp only [RelA, pulA] at h ⊢
    obtain ⟨ad, c, h0, h1, h2, h3, blk, q4, q5, q6⟩ := h
    obtain ⟨g1, g2⟩ := hm id (hi id (by simp [idsA])) blk q4
    refine ⟨ad, c, h0, h1, h2, h3, _, g1, by cases blk <;> first | exact q5 | (simp [Blk.row] at q5), ?_⟩
    intro e' xs' fz' hb
    cases blk <;> simp [pulB] at hb
    obtain ⟨rfl, rfl, rfl⟩ := hb
    rw [g2]
    exact q6 _ _ _ rfl
  | .st vs, cs, hi, h => by simp only [RelA, pulA] at h ⊢; exact pulAs_rel hm vs cs (fun id hid => hi id (by simpa [idsA] using hid)) h
  | .arr .., cs, _, h => by simpa only [RelA, pulA] using h
  | .ptr id p ty, cs, hi, h => by
    simp only [RelA, pulA] at h ⊢
    obtain ⟨b, o, h0, blk, q1, q2, q3⟩ := h
    obtain ⟨g1, g2⟩ := hm id (hi id (by simp [idsA])) blk q1
    refine ⟨b, o, h0, _, g1, by cases blk <;> exact q2, fun hh => ?_⟩
    rw [g2]
    cases blk with
    | var t v fz =>
      obtain ⟨k1, k2, k3⟩ := q3 (.inl ⟨_, _, _, rfl⟩)
      exact ⟨k1, by cases p <;> exact k2, by cases p <;> exact k3⟩
    | fix e xs fz => exact q3 (.inr ⟨_, _, _, rfl⟩)
    | resv => simp [pulB] at hh
    | dead => simp [pulB] at hh
    | ext e m => simp [pulB] at hh
  | .cptr .., cs, _, h => by simpa only [RelA, pulA] using h
  | .nilp, cs, _, h => by simpa only [RelA, pulA] using h
  | .fn f caps, cs, hi, h => by
    simp only [RelA, pulA] at h ⊢
    obtain ⟨vs, h0, h1⟩ := h
    exact ⟨vs, h0, pulC_rel hm caps _ (fun id hid => hi id (by simpa [idsA] using hid)) h1⟩
  | .nilfn, cs, _, h => by simpa only [RelA, pulA] using h
  | .tup _, _, _, h => by simp [RelA] at h
theorem pulAs_rel (hm : ∀ id ∈ rho, ∀ b, H[id]? = some b → n[idx id rho]? = some (pulB rho b) ∧ mu'' (idx id rho) = mu id) : ∀ (vs : List AV) (cs : List Value), (∀ id ∈ idsAs vs, id ∈ rho) → RelAs w S mu H vs cs → RelAs w S mu'' n (pulAs rho vs) cs
  | [], cs, _, h => by simpa only [RelAs, pulAs] using h
  | v :: vs, cs, hi, h => by
    simp only [RelAs, pulAs] at h ⊢
    obtain ⟨c1, c2, h0, h1, h2⟩ := h
    exact ⟨c1, c2, h0, pulA_rel hm v c1 (fun id hid => hi id (by simp [idsAs, hid])) h1, pulAs_rel hm vs c2 (fun id hid => hi id (by simp [idsAs, hid])) h2⟩
theorem pulC_rel (hm : ∀ id ∈ rho, ∀ b, H[id]? = some b → n[idx id rho]? = some (pulB rho b) ∧ mu'' (idx id rho) = mu id) : ∀ (vs : List AV) (cs : List Value), (∀ id ∈ idsAs vs, id ∈ rho) → RelC w S mu H vs cs → RelC w S mu'' n (pulAs rho vs) cs
  | [], cs, _, h => by simpa only [RelC, pulAs] using h
  | v :: vs, cs, hi, h => by
    simp only [RelC, pulAs] at h ⊢
    obtain ⟨c, cs', h0, h1, h2⟩ := h
    exact ⟨c, cs', h0, pulA_rel hm v [c] (fun id hid => hi id (by simp [idsAs, hid])) h1, pulC_rel hm vs cs' (fun id hid => hi id (by simp [idsAs, hid])) h2⟩
end
mutual
theorem pulV_rel (hm : ∀ id ∈ rho, ∀ b, H[id]? = some b → n[idx id rho]? = some (pulB rho b) ∧ mu'' (idx id rho) = mu id) : ∀ (v : AV) (u : Value), (∀ id ∈ idsA v, id ∈ rho) → RelV w S mu H v u → RelV w S mu'' n (pulA rho v) u
  | .undef, _, _, _ => by simp only [RelV, pulA]
  | .tup vs, u, hi, h => by
    simp only [RelV, pulA] at h ⊢
    obtain ⟨us, h0, h1⟩ := h
    exact ⟨us, h0, pulVs_rel hm vs _ (fun id hid => hi id (by simpa [idsA] using hid)) h1⟩
  | .st vs, u, hi, h => by
    simp only [RelV, pulA] at h ⊢
    obtain ⟨cs, h0, h1⟩ := h
    exact ⟨cs, h0, by have := pulA_rel hm _ _ hi h1; simpa only [pulA] using this⟩
  | .arr m e xs, u, hi, h => by
    simp only [RelV, pulA] at h ⊢
    obtain ⟨cs, h0, h1⟩ := h
    exact ⟨cs, h0, by have := pulA_rel hm _ _ hi h1; simpa only [pulA] using this⟩
  | .int .., u, hi, h => by simp only [RelV] at h; have := pulA_rel hm _ _ hi h; simpa only [RelV, pulA] using this
  | .bool .., u, hi, h => by simp only [RelV] at h; have := pulA_rel hm _ _ hi h; simpa only [RelV, pulA] using this
  | .str .., u, hi, h => by simp only [RelV] at h; have := pulA_rel hm _ _ hi h; simpa only [RelV, pulA] using this
  | .sl e xs .no, u, hi, h => by simp only [RelV] at h; have := pulA_rel hm _ _ hi h; simpa only [RelV, pulA] using this
  | .sl e xs .full, u, hi, h => by simp only [RelV] at h; have := pulA_rel hm _ _ hi h; simpa only [RelV, pulA] using this
  | .sl e xs (.own id), u, hi, h => by simp only [RelV] at h; have := pulA_rel hm _ _ hi h; simpa only [RelV, pulA] using this
  | .rsl .., u, hi, h => by simp only [RelV] at h; have := pulA_rel hm _ _ hi h; simpa only [RelV, pulA] using this
  | .ptr .., u, hi, h => by simp only [RelV] at h; have := pulA_rel hm _ _ hi h; simpa only [RelV, pulA] using this
  | .cptr .., u, hi, h => by simp only [RelV] at h; have := pulA_rel hm _ _ hi h; simpa only [RelV, pulA] using this
  | .nilp, u, hi, h => by simp only [RelV] at h; have := pulA_rel hm _ _ hi h; simpa only [RelV, pulA] using this
  | .fn .., u, hi, h => by simp only [RelV] at h; have := pulA_rel hm _ _ hi h; simpa only [RelV, pulA] using this
  | .nilfn, u, hi, h => by simp only [RelV] at h; have := pulA_rel hm _ _ hi h; simpa only [RelV, pulA] using this
theorem pulVs_rel (hm : ∀ id ∈ rho, ∀ b, H[id]? = some b → n[idx id rho]? = some (pulB rho b) ∧ mu'' (idx id rho) = mu id) : ∀ (vs : List AV) (us : List Value), (∀ id ∈ idsAs vs, id ∈ rho) → RelVs w S mu H vs us → RelVs w S mu'' n (pulAs rho vs) us
  | [], us, _, h => by simpa only [RelVs, pulAs] using h
  | v :: vs, us, hi, h => by
    simp only [RelVs, pulAs] at h ⊢
    obtain ⟨u, us', h0, h1, h2⟩ := h
    exact ⟨u, us', h0, pulV_rel hm v u (fun id hid => hi id (by simp [idsAs, hid])) h1, pulVs_rel hm vs us' (fun id hid => hi id (by simp [idsAs, hid])) h2⟩
end
mutual
theorem fitsV_pul (rho : List Nat) : ∀ (v : AV) (T : Ty), fitsV v T = true → fitsV (pulA rho v) T = true
  | .undef, T, h => by cases T <;> simp [fitsV] at h
  | .int .., T, h => by simpa only [pulA] using h
  | .bool .., T, h => by simpa only [pulA] using h
  | .str .., T, h => by simpa only [pulA] using h
  | .sl e xs t, T, h => by cases t <;> cases T <;> simp [fitsV] at h <;> simp [pulA, fitsV, h]
  | .rsl .., T, h => by cases T <;> simp [fitsV] at h <;> simp [pulA, fitsV, h]
  | .ptr .., T, h => by cases T <;> simp [fitsV] at h <;> simp [pulA, fitsV]
  | .st vs, T, h => by
    cases T <;> simp [fitsV] at h
    simp only [pulA, fitsV]
    exact fitsVs_pul rho vs _ h
  | .fn f vs, T, h => by cases T <;> simp [fitsV] at h <;> simp [pulA, fitsV]
  | .tup vs, T, h => by cases T <;> simp [fitsV] at h
  | .arr .., T, h => by simpa only [pulA] using h
  | .cptr .., T, h => by simpa only [pulA] using h
  | .nilp, T, h => by simpa only [pulA] using h
  | .nilfn, T, h => by simpa only [pulA] using h
theorem fitsVs_pul (rho : List Nat) : ∀ (vs : List AV) (ts : List Ty), fitsVs vs ts = true → fitsVs (pulAs rho vs) ts = true
  | [], [], _ => rfl
  | [], _ :: _, h => by simp [fitsVs] at h
  | _ :: _, [], h => by simp [fitsVs] at h
  | v :: vs, t :: ts, h => by
    simp [fitsVs] at h
    simp [pulAs, fitsVs, fitsV_pul rho v t h.1, fitsVs_pul rho vs ts h.2]
end
end

theorem blks_get (h : Heap) : ∀ (ids : List Nat) (i : Nat), (blks h ids)[i]? = (ids[i]?).map fun id => h.getD id .dead
  | [], i => by simp [blks]
  | id :: r, 0 => by simp [blks]
  | id :: r, i + 1 => by simp [blks, blks_get h r i]
theorem pulBs_get (rho : List Nat) : ∀ (l : List Blk) (i : Nat), (pulBs rho l)[i]? = (l[i]?).map (pulB rho)
  | [], i => by simp [pulBs]
  | b :: r, 0 => by simp [pulBs]
  | b :: r, i + 1 => by simp [pulBs, pulBs_get rho r i]
theorem bids_mem : ∀ (l : List Blk) (b : Blk), b ∈ l → ∀ id ∈ idsB b, id ∈ bids l
  | [], b, h => by simp at h
  | x :: r, b, h => fun id hid => by
    simp only [bids, List.mem_append]
    rcases List.mem_cons.1 h with rfl | h
    · exact .inl hid
    · exact .inr (bids_mem r b h id hid)
theorem allIn_spec {ids rho : List Nat} (h : allIn ids rho = true) : ∀ id ∈ ids, id ∈ rho := fun id hid => memN_spec.1 (List.all_eq_true.1 h id hid)

end
section
variable {w : World} {S : SetS} {mu mu'' : Mu} {n H'' : Heap} {f : Nat → Nat}
mutual
theorem gmA_rel (hm : ∀ id b, n[id]? = some b → H''[f id]? = some (gmB f b) ∧ mu'' (f id) = mu id) : ∀ (v : AV) (cs : List Value), RelA w S mu n v cs → RelA w S mu'' H'' (gmA f v) cs
  | .undef, _, h => by simp [RelA] at h
  | .int k n, cs, h => by simpa only [RelA, gmA] using h
  | .bool b, cs, h => by simpa only [RelA, gmA] using h
  | .str s, cs, h => by simpa only [RelA, gmA] using h
  | .sl e xs .full, cs, h => by simpa only [RelA, gmA, RelT] using h
  | .sl e xs .no, cs, h => by simpa only [RelA, gmA, RelT] using h
  | .sl e xs (.own id), cs, h => by
    simp only [RelA, gmA] at h ⊢
    obtain ⟨ad, m, c, h0, h1, blk, h2, h3, h4⟩ := h
    obtain ⟨g1, g2⟩ := hm id blk h2
    refine ⟨ad, m, c, h0, h1, _, g1, by cases blk <;> first | exact h3 | (simp [Blk.grows] at h3), ?_⟩
    intro e' m' hb
    cases blk <;> simp [gmB] at hb
    obtain ⟨rfl, rfl⟩ := hb
    obtain ⟨q1, q2, q3⟩ := h4 _ _ rfl
    exact ⟨q1, q2, fun hnm => by rw [g2]; exact q3 hnm⟩
  | .rsl id e1 off len, cs, h => by
    simp only [RelA, gmA] at h ⊢
    obtain ⟨ad, c, h0, h1, h2, h3, blk, q4, q5, q6⟩ := h
    obtain ⟨g1, g2⟩ := hm id blk q4
    refine ⟨ad, c, h0, h1, h2, h3, _, g1, by cases blk <;> first | exact q5 | (simp [Blk.row] at q5), ?_⟩
    intro e' xs' fz' hb
    cases blk <;> simp [gmB] at hb
    obtain ⟨rfl, rfl, rfl⟩ := hb
    rw [g2]
    exact q6 _ _ _ rfl
  | .st vs, cs, h => by simp only [RelA, gmA] at h ⊢; exact gmAs_rel hm vs cs h
  | .arr n e xs, cs, h => by simpa only [RelA, gmA] using h
  | .ptr id p ty, cs, h => by
    simp only [RelA, gmA] at h ⊢
    obtain ⟨b, o, h0, blk, q1, q2, q3⟩ := h
    obtain ⟨g1, g2⟩ := hm id blk q1
    refine ⟨b, o, h0, _, g1, by cases blk <;> exact q2, fun hh => ?_⟩
    rw [g2]
    cases blk with
    | var t v fz =>
      obtain ⟨k1, k2, k3⟩ := q3 (.inl ⟨_, _, _, rfl⟩)
      exact ⟨k1, by cases p <;> exact k2, by cases p <;> exact k3⟩
    | fix e xs fz => exact q3 (.inr ⟨_, _, _, rfl⟩)
    | resv => simp [gmB] at hh
    | dead => simp [gmB] at hh
    | ext e m => simp [gmB] at hh
  | .cptr t d, cs, h => by simpa only [RelA, gmA] using h
  | .nilp, cs, h => by simpa only [RelA, gmA] using h
  | .fn f caps, cs, h => by
    simp only [RelA, gmA] at h ⊢
    obtain ⟨vs, h0, h1⟩ := h
    exact ⟨vs, h0, gmC_rel hm caps _ h1⟩
  | .nilfn, cs, h => by simpa only [RelA, gmA] using h
  | .tup _, _, h => by simp [RelA] at h
theorem gmAs_rel (hm : ∀ id b, n[id]? = some b → H''[f id]? = some (gmB f b) ∧ mu'' (f id) = mu id) : ∀ (vs : List AV) (cs : List Value), RelAs w S mu n vs cs → RelAs w S mu'' H'' (gmAs f vs) cs
  | [], cs, h => by simpa only [RelAs, gmAs] using h
  | v :: vs, cs, h => by
    simp only [RelAs, gmAs] at h ⊢
    obtain ⟨c1, c2, h0, h1, h2⟩ := h
    exact ⟨c1, c2, h0, gmA_rel hm v c1 h1, gmAs_rel hm vs c2 h2⟩
theorem gmC_rel (hm : ∀ id b, n[id]? = some b → H''[f id]? = some (gmB f b) ∧ mu'' (f id) = mu id) : ∀ (vs : List AV) (cs : List Value), RelC w S mu n vs cs → RelC w S mu'' H'' (gmAs f vs) cs
  | [], cs, h => by simpa only [RelC, gmAs] using h
  | v :: vs, cs, h => by
    simp only [RelC, gmAs] at h ⊢
    obtain ⟨c, cs', h0, h1, h2⟩ := h
    exact ⟨c, cs', h0, gmA_rel hm v [c] h1, gmC_rel hm vs cs' h2⟩
end
mutual
theorem gmV_rel (hm : ∀ id b, n[id]? = some b → H''[f id]? = some (gmB f b) ∧ mu'' (f id) = mu id) : ∀ (v : AV) (u : Value), RelV w S mu n v u → RelV w S mu'' H'' (gmA f v) u
  | .undef, _, _ => by simp only [RelV, gmA]
  | .tup vs, u, h => by
    simp only [RelV, gmA] at h ⊢
    obtain ⟨us, h0, h1⟩ := h
    exact ⟨us, h0, gmVs_rel hm vs _ h1⟩
  | .st vs, u, h => by
    simp only [RelV, gmA] at h ⊢
    obtain ⟨cs, h0, h1⟩ := h
    exact ⟨cs, h0, by have := gmA_rel hm _ _ h1; simpa only [gmA] using this⟩
  | .arr m e xs, u, h => by
    simp only [RelV, gmA] at h ⊢
    obtain ⟨cs, h0, h1⟩ := h
    exact ⟨cs, h0, by have := gmA_rel hm _ _ h1; simpa only [gmA] using this⟩
  | .int .., u, h => by simp only [RelV] at h; have := gmA_rel hm _ _ h; simpa only [RelV, gmA] using this
  | .bool .., u, h => by simp only [RelV] at h; have := gmA_rel hm _ _ h; simpa only [RelV, gmA] using this
  | .str .., u, h => by simp only [RelV] at h; have := gmA_rel hm _ _ h; simpa only [RelV, gmA] using this
  | .sl e xs .no, u, h => by simp only [RelV] at h; have := gmA_rel hm _ _ h; simpa only [RelV, gmA] using this
  | .sl e xs .full, u, h => by simp only [RelV] at h; have := gmA_rel hm _ _ h; simpa only [RelV, gmA] using this
  | .sl e xs (.own id), u, h => by simp only [RelV] at h; have := gmA_rel hm _ _ h; simpa only [RelV, gmA] using this
  | .rsl .., u, h => by simp only [RelV] at h; have := gmA_rel hm _ _ h; simpa only [RelV, gmA] using this
  | .ptr .., u, h => by simp only [RelV] at h; have := gmA_rel hm _ _ h; simpa only [RelV, gmA] using this
  | .cptr .., u, h => by simp only [RelV] at h; have := gmA_rel hm _ _ h; simpa only [RelV, gmA] using this
  | .nilp, u, h => by simp only [RelV] at h; have := gmA_rel hm _ _ h; simpa only [RelV, gmA] using this
  | .fn .., u, h => by simp only [RelV] at h; have := gmA_rel hm _ _ h; simpa only [RelV, gmA] using this
  | .nilfn, u, h => by simp only [RelV] at h; have := gmA_rel hm _ _ h; simpa only [RelV, gmA] using this
theorem gmVs_rel (hm : ∀ id b, n[id]? = some b → H''[f id]? = some (gmB f b) ∧ mu'' (f id) = mu id) : ∀ (vs : List AV) (us : List Value), RelVs w S mu n vs us → RelVs w S mu'' H'' (gmAs f vs) us
  | [], us, h => by simpa only [RelVs, gmAs] using h
  | v :: vs, us, h => by
    simp only [RelVs, gmAs] at h ⊢
    obtain ⟨u, us', h0, h1, h2⟩ := h
    exact ⟨u, us', h0, gmV_rel hm v u h1, gmVs_rel hm vs us' h2⟩
end
end

mutual
theorem fitsV_gm (f : Nat → Nat) : ∀ (v : AV) (T : Ty), fitsV v T = true → fitsV (gmA f v) T = true
  | .undef, T, h => by cases T <;> simp [fitsV] at h
  | .int .., T, h => by simpa only [gmA] using h
  | .bool .., T, h => by simpa only [gmA] using h
  | .str .., T, h => by simpa only [gmA] using h
  | .sl e xs t, T, h => by cases t <;> cases T <;> simp [fitsV] at h <;> simp [gmA, fitsV, h]
  | .rsl .., T, h => by cases T <;> simp [fitsV] at h <;> simp [gmA, fitsV, h]
  | .ptr .., T, h => by cases T <;> simp [fitsV] at h <;> simp [gmA, fitsV]
  | .st vs, T, h => by
    cases T <;> simp [fitsV] at h
    simp only [gmA, fitsV]
    exact fitsVs_gm f vs _ h
  | .fn f' vs, T, h => by cases T <;> simp [fitsV] at h <;> simp [gmA, fitsV]
  | .tup vs, T, h => by cases T <;> simp [fitsV] at h
  | .arr .., T, h => by simpa only [gmA] using h
  | .cptr .., T, h => by simpa only [gmA] using h
  | .nilp, T, h => by simpa only [gmA] using h
  | .nilfn, T, h => by simpa only [gmA] using h
theorem fitsVs_gm (f : Nat → Nat) : ∀ (vs : List AV) (ts : List Ty), fitsVs vs ts = true → fitsVs (gmAs f vs) ts = true
  | [], [], _ => rfl
  | [], _ :: _, h => by simp [fitsVs] at h
  | _ :: _, [], h => by simp [fitsVs] at h
  | v :: vs, t :: ts, h => by
    simp [fitsVs] at h
    simp [gmAs, fitsVs, fitsV_gm f v t h.1, fitsVs_gm f vs ts h.2]
end

theorem gmB_live (f : Nat → Nat) (b : Blk) : (gmB f b).live = b.live := by cases b <;> rfl

theorem gmB_rel {w : World} {S : SetS} {mu mu'' : Mu} {n H'' : Heap} {f : Nat → Nat} (hm : ∀ id b, n[id]? = some b → H''[f id]? = some (gmB f b) ∧ mu'' (f id) = mu id) {id : Nat} {b : Blk} (hid : n[id]? = some b) (h : RelB w S mu n id b) : RelB w S mu'' H'' (f id) (gmB f b) := by
  have hmu := (hm id b hid).2
  cases b with
  | resv => trivial
  | dead => trivial
  | var t v fz =>
    obtain ⟨b, cells, ty, h1, h2, h3, h4, h5, h6⟩ := h
    exact ⟨b, cells, ty, by rw [hmu, h1], h2, h3, gmA_rel hm _ _ h4, fitsV_gm f _ _ h5, h6⟩
  | fix e xs fz =>
    obtain ⟨b, cells, ty, h1, h2, h3, h4, h5, h6⟩ := h
    exact ⟨b, cells, ty, by rw [hmu, h1], h2, h3, h4, h5, h6⟩
  | ext e m =>
    obtain ⟨h0, h1⟩ := h
    refine ⟨h0, ?_⟩
    rcases h1 with ⟨h1, h2⟩ | ⟨b, cells, ty, h1, h2, h3, h4⟩
    · exact .inl ⟨h1, by rw [hmu, h2]⟩
    · exact .inr ⟨b, cells, ty, by rw [hmu, h1], h2, h3, h4⟩


/-! ### Writes -/
/-- The last of writes at a place. -/
def lastW : List (Nat × Blk) → Nat → Option Blk
  | [], _ => none
  | (i, b) :: r, j => match lastW r j with
    | some c => some c
    | none => if i = j then some b else none
theorem lastW_none : ∀ (ws : List (Nat × Blk)) (j : Nat), lastW ws j = none ↔ j ∉ ws.map (·.1)
  | [], j => by simp [lastW]
  | (i, b) :: r, j => by
    have ih := lastW_none r j
    simp only [lastW, List.map_cons, List.mem_cons, not_or]
    cases hl : lastW r j with
    | some c =>
      rw [hl] at ih
      simp at ih
      simp [ih]
    | none =>
      rw [hl] at ih
      simp only [true_iff] at ih
      by_cases hi : i = j
      · simp [hi]
      · rw [if_neg hi]; simp [ih, Ne.symm hi]
theorem setAll_length : ∀ (ws : List (Nat × Blk)) (H : Heap), (setAll H ws).length = H.length
  | [], _ => rfl
  | (i, b) :: r, H => by simp only [setAll]; rw [setAll_length r]; simp
theorem setAll_get : ∀ (ws : List (Nat × Blk)) (H : Heap) (j : Nat), (setAll H ws)[j]? = match lastW ws j with
    | some b => if j < H.length then some b else none
    | none => H[j]?
  | [], H, j => rfl
  | (i, b) :: r, H, j => by
    simp only [setAll, lastW]
    rw [setAll_get r]
    cases hl : lastW r j with
    | some c => simp
    | none =>
      simp only
      rw [List.getElem?_set]
      by_cases hi : i = j
      · subst hi
        simp
      · simp [hi]
/-! ### A part of memory -/
section
variable {P : Program} {w : World} {S : SetS} {mu : Mu} {H : Heap} {env : Env} {a : Act} {nt : Nat}

theorem idx_lt {x : Nat} {l : List Nat} (h : x ∈ l) : idx x l < l.length := by
  have := idx_get h
  rcases Nat.lt_or_ge (idx x l) l.length with h1 | h1
  · exact h1
  · rw [List.getElem?_eq_none h1] at this; cases this
theorem idx_at {l : List Nat} (hn : nodupN l = true) {i x : Nat} (h : l[i]? = some x) : idx x l = i :=
  nodupN_spec hn _ _ x (idx_get (List.mem_of_getElem? h)) h
theorem pushW_last (f : Nat → Nat) : ∀ (rho : List Nat) (n : Heap) (j : Nat), nodupN rho = true → n.length = rho.length → lastW (pushW f rho n) j = if j ∈ rho then (n[idx j rho]?).map (gmB f) else none
  | [], n, j, _, hl => by simp [pushW, lastW]
  | id :: r, [], j, _, hl => by simp at hl
  | id :: r, b :: n, j, hn, hl => by
    simp only [nodupN, Bool.and_eq_true] at hn
    have hni : id ∉ r := fun hm => by have := memN_spec.2 hm; rw [this] at hn; simp at hn
    simp only [pushW, lastW]
    rw [pushW_last f r n j hn.2 (by simpa using hl)]
    by_cases hj : j ∈ r
    · have hne : id ≠ j := fun e => hni (e ▸ hj)
      have hb : Nat.beq id j = false := by
        cases h : Nat.beq id j with
        | true => exact absurd (Nat.eq_of_beq_eq_true h) hne
        | false => rfl
      rw [if_pos hj, if_pos (List.mem_cons_of_mem _ hj)]
      have hlt := idx_lt hj
      simp only [idx, hb, cond_false, List.getElem?_cons_succ]
      have hlt' : idx j r < n.length := by simp at hl; omega
      rw [List.getElem?_eq_getElem hlt']
      rfl
    · rw [if_neg hj]
      simp only
      by_cases hij : id = j
      · subst hij
        simp [idx]
      · rw [if_neg hij, if_neg (by simp [hj, Ne.symm hij])]
def mulOf (mu : Mu) (rho : List Nat) : Mu := fun i => match rho[i]? with | some id => mu id | none => none
theorem mulOf_at {rho : List Nat} {i id : Nat} (h : rho[i]? = some id) : mulOf mu rho i = mu id := by simp only [mulOf, h]
theorem mulOf_some {rho : List Nat} {i b : Nat} (h : mulOf mu rho i = some b) : ∃ id, rho[i]? = some id ∧ mu id = some b := by
  cases hr : rho[i]? with
  | none => simp only [mulOf, hr] at h; cases h
  | some id => rw [mulOf_at hr] at h; exact ⟨id, by first | exact hr | rfl, h⟩
theorem pul_get (rho : List Nat) (i : Nat) : (pulBs rho (blks H rho))[i]? = (rho[i]?).map fun id => pulB rho (H.getD id .dead) := by
  rw [pulBs_get, blks_get]
  cases rho[i]? <;> rfl
theorem pul_hm (rho : List Nat) : ∀ id ∈ rho, ∀ b, H[id]? = some b → (pulBs rho (blks H rho))[idx id rho]? = some (pulB rho b) ∧ mulOf mu rho (idx id rho) = mu id := fun id hid b hb => by
  have hi := idx_get hid
  refine ⟨?_, mulOf_at hi⟩
  rw [pul_get, hi]
  simp only [Option.map_some]
  rw [List.getD_eq_getElem?_getD, hb]
  rfl
/-- A part of memory, seen by itself. -/
theorem pul_heap {rho : List Nat} (hH : RelH w S mu H) (h1 : nodupN rho = true) (h3 : allIn (bids (blks H rho)) rho = true) : RelH w S (mulOf mu rho) (pulBs rho (blks H rho)) := by
  have hm := pul_hm (H := H) (mu := mu) rho
  have hsome : ∀ i b, (pulBs rho (blks H rho))[i]? = some b → ∃ id, rho[i]? = some id ∧ b = pulB rho (H.getD id .dead) := fun i b hb => by
    rw [pul_get] at hb
    cases hr : rho[i]? with
    | none => rw [hr] at hb; cases hb
    | some id => rw [hr] at hb; exact ⟨id, by first | exact hr | rfl, by simpa using hb.symm⟩
  have hlive : ∀ b, (pulB rho b).live = b.live := fun b => by cases b <;> rfl
  have hHlive : ∀ id, (H.getD id .dead).live = true → H[id]? = some (H.getD id .dead) := fun id h => getD_blk rfl (fun e => by rw [e] at h; cases h)
  refine ⟨fun i b hb => ?_, fun i j bi bj b hi hj li lj mi mj => ?_, hH.there, fun i b hi => ?_⟩
  · obtain ⟨id, hid, rfl⟩ := hsome i b hb
    have hmi := mulOf_at (mu := mu) hid
    cases hx : H.getD id .dead with
    | resv => trivial
    | dead => trivial
    | var t u fz =>
      have hb' := getD_blk hx (by simp)
      obtain ⟨b, cells, ty, k1, k2, k3, k4, k5, k6⟩ := hH.blk id _ hb'
      refine ⟨b, cells, ty, by rw [hmi, k1], k2, k3, pulA_rel hm _ _ (fun x hxm => ?_) k4, fitsV_pul rho _ _ k5, k6⟩
      refine allIn_spec h3 x (bids_mem _ (H.getD id .dead) ?_ x (by rw [hx]; exact hxm))
      have : (blks H rho)[i]? = some (H.getD id .dead) := by rw [blks_get, hid]; rfl
      exact List.mem_of_getElem? this
    | fix e xs fz =>
      have hb' := getD_blk hx (by simp)
      obtain ⟨b, cells, ty, k1, k2, k3, k4, k5, k6⟩ := hH.blk id _ hb'
      exact ⟨b, cells, ty, by rw [hmi, k1], k2, k3, k4, k5, k6⟩
    | ext e m =>
      have hb' := getD_blk hx (by simp)
      obtain ⟨k0, k1⟩ := hH.blk id _ hb'
      refine ⟨k0, ?_⟩
      rcases k1 with ⟨k1, k2⟩ | ⟨b, cells, ty, k1, k2, k3, k4⟩
      · exact .inl ⟨k1, by rw [hmi, k2]⟩
      · exact .inr ⟨b, cells, ty, by rw [hmi, k1], k2, k3, k4⟩
  · obtain ⟨id1, hid1, rfl⟩ := hsome i bi hi
    obtain ⟨id2, hid2, rfl⟩ := hsome j bj hj
    rw [hlive] at li lj
    rw [mulOf_at hid1] at mi
    rw [mulOf_at hid2] at mj
    have := hH.inj id1 id2 _ _ b (hHlive _ li) (hHlive _ lj) li lj mi mj
    subst this
    exact nodupN_spec h1 i j id1 hid1 hid2
  · obtain ⟨id, _, h⟩ := mulOf_some hi
    exact hH.mus id b h

theorem liveAll_spec : ∀ (l : List Blk), liveAll l = true → ∀ b ∈ l, b.live = true
  | [], _, b, h => by simp at h
  | x :: r, h, b, hb => by
    simp only [liveAll, Bool.and_eq_true] at h
    rcases List.mem_cons.1 hb with rfl | hb
    · have := h.1
      cases b <;> first | rfl | (simp [liveB] at this)
    · exact liveAll_spec r h.2 b hb

/-- A call with a part of memory, seen by the caller. -/
theorem loc_turn {w' : World} {S' : SetS} {mu' : Mu} {n : Heap} {r : AV} {v : Value} {rho : List Nat} (h : Rel nt w S mu H env a) (hnd : nodupN rho = true) (hlv : liveAll (blks H rho) = true)
    (hv : RelV w' S' mu' n r v) (hH : RelH w' S' mu' n) (hE : Ev w S (mulOf mu rho) (pulBs rho (blks H rho)) w' S' mu' n) (hlen : n.length = rho.length) :
    ∃ mu'', Rel nt w' S' mu'' (setAll H (pushW (fun i => rho.getD i 0) rho n)) env a ∧ Ev w S mu H w' S' mu'' (setAll H (pushW (fun i => rho.getD i 0) rho n)) ∧ RelV w' S' mu'' (setAll H (pushW (fun i => rho.getD i 0) rho n)) (gmA (fun i => rho.getD i 0) r) v := by
  classical
  generalize hf : (fun i => rho.getD i 0) = f
  have hfi : ∀ i id, rho[i]? = some id → f i = id := fun i id hi => by rw [← hf]; simp [hi]
  have hin : ∀ id, id ∈ rho → ∃ b, H[id]? = some b ∧ b.live = true := fun id hid => by
    obtain ⟨i, hi⟩ := List.getElem?_of_mem hid
    have h1 : (blks H rho)[i]? = some (H.getD id .dead) := by rw [blks_get, hi]; rfl
    have h2 := liveAll_spec _ hlv _ (List.mem_of_getElem? h1)
    exact ⟨_, getD_blk rfl (fun e => by rw [e] at h2; cases h2), h2⟩
  have hget : ∀ j, (setAll H (pushW f rho n))[j]? = if j ∈ rho then (n[idx j rho]?).map (gmB f) else H[j]? := fun j => by
    rw [setAll_get, pushW_last f rho n j hnd hlen]
    by_cases hj : j ∈ rho
    · rw [if_pos hj, if_pos hj]
      obtain ⟨b, hb, _⟩ := hin j hj
      have hlt := lt_of_get hb
      have hix := idx_lt hj
      rw [List.getElem?_eq_getElem (by omega)]
      simp [hlt]
    · rw [if_neg hj, if_neg hj]
  let mu'' : Mu := fun j => if j ∈ rho then mu' (idx j rho) else mu j
  have m1 : ∀ j, j ∈ rho → mu'' j = mu' (idx j rho) := fun j hj => if_pos hj
  have m2 : ∀ j, j ∉ rho → mu'' j = mu j := fun j hj => if_neg hj
  have hm : ∀ i b, n[i]? = some b → (setAll H (pushW f rho n))[f i]? = some (gmB f b) ∧ mu'' (f i) = mu' i := fun i b hb => by
    have hi := lt_of_get hb
    have hr := List.getElem?_eq_getElem (l := rho) (i := i) (by omega)
    have hmem := List.mem_of_getElem? hr
    have hix := idx_at hnd hr
    rw [hfi i _ hr, hget, if_pos hmem, hix, hb, m1 _ hmem, hix]
    exact ⟨rfl, rfl⟩
  have hmul : ∀ i b, mulOf mu rho i = some b → ∃ id bk, id ∈ rho ∧ mu id = some b ∧ H[id]? = some bk ∧ bk.live = true := fun i b hi => by
    obtain ⟨id, h1, h2⟩ := mulOf_some hi
    have hmem := List.mem_of_getElem? h1
    obtain ⟨bk, h3, h4⟩ := hin id hmem
    exact ⟨id, bk, hmem, h2, h3, h4⟩
  have hT : Turn w S mu H w' S' mu'' (setAll H (pushW f rho n)) := by
    refine ⟨hE.turn.stab, hE.turn.wide, fun j b hb => ?_⟩
    rw [hget]
    by_cases hj : j ∈ rho
    · rw [if_pos hj, m1 j hj]
      obtain ⟨g1, g2⟩ := pul_hm (H := H) (mu := mu) rho j hj b hb
      obtain ⟨b', q1, q2⟩ := hE.turn.compat _ _ g1
      rw [q1]
      refine ⟨_, rfl, ?_⟩
      rw [g2] at q2
      cases b with
      | resv => trivial
      | dead => simp only [pulB, Compat] at q2 ⊢; subst q2; rfl
      | var t v fz =>
        simp only [pulB, Compat] at q2 ⊢
        rcases q2 with rfl | ⟨v', fz', rfl, q3, q4⟩
        · exact .inl rfl
        · exact .inr ⟨_, fz', rfl, q3, q4⟩
      | fix e xs fz =>
        simp only [pulB, Compat] at q2 ⊢
        rcases q2 with rfl | ⟨xs', fz', rfl, q3, q4⟩ | ⟨e', m', rfl⟩
        · exact .inl rfl
        · exact .inr (.inl ⟨xs', fz', rfl, q3, q4⟩)
        · exact .inr (.inr ⟨e', m', rfl⟩)
      | ext e m =>
        simp only [pulB, Compat] at q2 ⊢
        rcases q2 with rfl | ⟨m', rfl, q3⟩
        · exact .inl rfl
        · exact .inr ⟨m', rfl, q3⟩
    · rw [if_neg hj, m2 j hj]
      exact ⟨b, hb, Compat.refl _ _⟩
  refine ⟨mu'', h.mono hT ?_, ⟨hT, hE.size, hE.os, hE.tape, hE.output, fun b hb hno => hE.frame b hb fun i hi => ?_, fun b o hs => ?_, fun j b hj => ?_⟩, gmV_rel hm r v hv⟩
  · refine turn_sound (· ∈ rho) h.heap hT (fun j hj => ?_) (fun j bk b hj hb hl hmj => ?_) (fun j bk hj hb => ?_) (fun i j bi bj b hi hij hbi hbj li lj mi mj => ?_) hH.there (fun i b hi => ?_)
    · rw [hget, if_neg hj]
      exact ⟨rfl, m2 j hj⟩
    · have hlt := h.heap.mus j b hmj
      have hno : ∀ i, mulOf mu rho i ≠ some b := fun i hi => by
        obtain ⟨id, bk', k1, k2, k3, k4⟩ := hmul i b hi
        have := h.heap.inj id j _ _ b k3 hb k4 hl k2 hmj
        subst this
        exact hj k1
      refine ⟨hE.frame b hlt hno, fun o hs => ?_⟩
      rcases hE.newS b o hs with hs | hs | ⟨i, hi⟩
      · exact hs
      · omega
      · exact absurd hi (hno i)
    · rw [hget, if_pos hj] at hb
      cases hn : n[idx j rho]? with
      | none => rw [hn] at hb; cases hb
      | some b0 =>
        rw [hn] at hb
        simp only [Option.map_some, Option.some.injEq] at hb
        subst hb
        have := gmB_rel hm hn (hH.blk _ _ hn)
        rwa [hfi _ _ (idx_get hj)] at this
    · rw [hget, if_pos hi] at hbi
      rw [m1 i hi] at mi
      cases hn1 : n[idx i rho]? with
      | none => rw [hn1] at hbi; cases hbi
      | some b1 =>
        rw [hn1] at hbi
        simp only [Option.map_some, Option.some.injEq] at hbi
        subst hbi
        rw [gmB_live] at li
        by_cases hj : j ∈ rho
        · rw [hget, if_pos hj] at hbj
          rw [m1 j hj] at mj
          cases hn2 : n[idx j rho]? with
          | none => rw [hn2] at hbj; cases hbj
          | some b2 =>
            rw [hn2] at hbj
            simp only [Option.map_some, Option.some.injEq] at hbj
            subst hbj
            rw [gmB_live] at lj
            have := hH.inj _ _ _ _ b hn1 hn2 li lj mi mj
            have e1 := idx_get hi
            have e2 := idx_get hj
            rw [this, e2] at e1
            exact hij (Option.some.inj e1).symm
        · rw [hget, if_neg hj] at hbj
          rw [m2 j hj] at mj
          have hlt := h.heap.mus j b mj
          rcases hE.newM _ b mi with hx | ⟨i', hx⟩
          · omega
          · obtain ⟨id, bk', k1, k2, k3, k4⟩ := hmul i' b hx
            have := h.heap.inj id j _ _ b k3 hbj k4 lj k2 mj
            subst this
            exact hj k1
    · by_cases hj : i ∈ rho
      · rw [m1 i hj] at hi
        exact hH.mus _ _ hi
      · rw [m2 i hj] at hi
        exact Nat.lt_of_lt_of_le (h.heap.mus i b hi) hE.size
  · obtain ⟨id, _, _, k2, _, _⟩ := hmul i b hi
    exact hno id k2
  · rcases hE.newS b o hs with hs | hs | ⟨i, hi⟩
    · exact .inl hs
    · exact .inr (.inl hs)
    · obtain ⟨id, _, _, k2, _, _⟩ := hmul i b hi
      exact .inr (.inr ⟨id, k2⟩)
  · by_cases hc : j ∈ rho
    · rw [m1 j hc] at hj
      rcases hE.newM _ _ hj with hx | ⟨i, hi⟩
      · exact .inl hx
      · obtain ⟨id, _, _, k2, _, _⟩ := hmul i b hi
        exact .inr ⟨id, k2⟩
    · rw [m2 j hc] at hj
      exact .inr ⟨j, hj⟩

mutual
theorem drpO_rel : ∀ (v : AV) (cs : List Value), RelA w S mu H v cs → RelA w S mu H (drpO v) cs
  | .sl e xs t, cs, h => by
    cases t with
    | own i => simpa only [drpO] using h
    | no => simpa only [drpO] using h
    | full =>
      simp only [drpO, RelA] at h ⊢
      obtain ⟨a, n, c, h0, h1, _⟩ := h
      exact ⟨a, n, c, h0, h1, trivial⟩
  | .st vs, cs, h => by simp only [drpO, RelA] at h ⊢; exact drpOs_rel vs cs h
  | .undef, _, h | .int .., _, h | .bool _, _, h | .str _, _, h | .rsl .., _, h | .arr .., _, h | .ptr .., _, h | .cptr .., _, h | .nilp, _, h | .fn .., _, h | .nilfn, _, h | .tup _, _, h => by simpa only [drpO] using h
theorem drpOs_rel : ∀ (vs : List AV) (cs : List Value), RelAs w S mu H vs cs → RelAs w S mu H (drpOs vs) cs
  | [], cs, h => by simpa only [drpOs] using h
  | v :: vs, cs, h => by
    simp only [drpOs, RelAs] at h ⊢
    obtain ⟨c1, c2, h0, h1, h2⟩ := h
    exact ⟨c1, c2, h0, drpO_rel v c1 h1, drpOs_rel vs c2 h2⟩
end
theorem drpOV_rel (v : AV) (u : Value) (h : RelV w S mu H v u) : RelV w S mu H (drpO v) u := by
  cases v with
  | st vs =>
    simp only [RelV] at h
    obtain ⟨cs, h0, h1⟩ := h
    have := drpO_rel _ _ h1
    simp only [drpO] at this ⊢
    simp only [RelV]
    exact ⟨cs, h0, this⟩
  | sl e xs t =>
    simp only [RelV] at h
    have := drpO_rel _ _ h
    cases t <;> simp only [drpO] at this ⊢ <;> simpa only [RelV] using this
  | _ => simpa only [drpO] using h
theorem drpOVs_rel : ∀ (vs : List AV) (us : List Value), RelVs w S mu H vs us → RelVs w S mu H (drpOs vs) us
  | [], us, h => by simpa only [drpOs] using h
  | v :: vs, us, h => by
    simp only [drpOs, RelVs] at h ⊢
    obtain ⟨u, us', h0, h1, h2⟩ := h
    exact ⟨u, us', h0, drpOV_rel v u h1, drpOVs_rel vs us' h2⟩

theorem RelVs_set : ∀ (vs : List AV) (us : List Value) (j : Nat) (v : AV), RelVs w S mu H vs us → (∀ u, us[j]? = some u → RelV w S mu H v u) → RelVs w S mu H (vs.set j v) us
  | [], us, j, v, h, _ => by simpa using h
  | x :: vs, us, 0, v, h, hu => by
    simp only [RelVs] at h
    obtain ⟨u, us', rfl, h1, h2⟩ := h
    simp only [List.set_cons_zero, RelVs]
    exact ⟨u, us', rfl, hu u rfl, h2⟩
  | x :: vs, us, j + 1, v, h, hu => by
    simp only [RelVs] at h
    obtain ⟨u, us', rfl, h1, h2⟩ := h
    simp only [List.set_cons_succ, RelVs]
    exact ⟨u, us', rfl, h1, RelVs_set vs us' j v h2 fun u' hu' => hu u' (by simpa using hu')⟩
theorem RelVs_getv : ∀ (vs : List AV) (us : List Value) (j : Nat) (u : Value), RelVs w S mu H vs us → us[j]? = some u → RelV w S mu H (vs.getD j .undef) u
  | [], us, j, u, h, hu => by simp only [RelVs] at h; subst h; simp at hu
  | x :: vs, us, 0, u, h, hu => by
    simp only [RelVs] at h
    obtain ⟨u', us', rfl, h1, h2⟩ := h
    simp at hu
    subst hu
    simpa using h1
  | x :: vs, us, j + 1, u, h, hu => by
    simp only [RelVs] at h
    obtain ⟨u', us', rfl, h1, h2⟩ := h
    have := RelVs_getv vs us' j u h2 (by simpa using hu)
    simpa using this
theorem mkArgs_turn : ∀ (mks : List (Nat × Nat × Ty)) (base : Nat) (vs : List AV) (us : List Value) (mu : Mu) (H : Heap) (vs1 : List AV) (h1 : Heap), Rel nt w S mu H env a → RelVs w S mu H vs us → mkArgs base mks vs H = some (vs1, h1) →
    ∃ mu1, Rel nt w S mu1 h1 env a ∧ Ev w S mu H w S mu1 h1 ∧ RelVs w S mu1 h1 vs1 us
  | [], base, vs, us, mu, H, vs1, h1, hR, hv, hm => by
    simp only [mkArgs, Option.some.injEq, Prod.mk.injEq] at hm
    obtain ⟨rfl, rfl⟩ := hm
    exact ⟨mu, hR, Ev.refl _ _ _ _, hv⟩
  | (j, off, e) :: r, base, vs, us, mu, H, vs1, h1, hR, hv, hm => by
    simp only [mkArgs] at hm
    split at hm
    · rename_i u hj
      cases hu : (Ty.same u e && Nat.blt 0 e.size) with
      | false => rw [hu] at hm; cases hm
      | true =>
        rw [hu] at hm
        simp only [cond_true] at hm
        simp only [Bool.and_eq_true] at hu
        have hse := Ty.same_eq _ _ hu.1
        subst hse
        split at hm
        · rename_i hb
          have hb' := getD_blk hb (by simp)
          obtain ⟨mu', g1, g2⟩ := mk_turn hR hb' (e := u) (by simpa using hu.2)
          have hv2 : RelVs w S mu' (H.set (base + off) (.ext u 0)) (vs.set j (.sl u [] (.own (base + off)))) us := by
            refine RelVs_set _ _ _ _ (RelVs.mono g2.turn _ _ hv) fun x hx => ?_
            have := RelVs_getv vs us j x hv hx
            rw [hj] at this
            simp only [RelV, RelA] at this ⊢
            obtain ⟨ad, n, c, e1, ⟨q1, q2, q3, _⟩, q4⟩ := this
            simp only [RelT] at q4
            simp at q1
            subst q1; subst q4
            refine ⟨ad, 0, 0, e1, ⟨rfl, Nat.le_refl _, by simp [maxLen], fun j x hj => by simp at hj⟩, .ext u 0, by rw [set_get (lt_of_get hb'), if_pos rfl], rfl, ?_⟩
            intro e' m hh
            injection hh with q1 q2
            subst q1; subst q2
            exact ⟨rfl, Nat.le_refl _, fun _ => .inl rfl⟩
          obtain ⟨mu1, k1, k2, k3⟩ := mkArgs_turn r base _ us mu' _ vs1 h1 g1 hv2 hm
          exact ⟨mu1, k1, g2.trans k2, k3⟩
        · cases hm
    · exact mkArgs_turn r base vs us mu H vs1 h1 hR hv hm
    · cases hm
end
end Go.Vc
