/- Calls. -/
import Derived.Test.YtgcakbnkeiajeaaVcOpK
set_option linter.unusedVariables false
set_option linter.unusedSimpArgs false
namespace Go.Vc

def mu0 : Mu := fun _ => none

/-- What a call with data alone leaves. -/
def PPost (w : World) (S : SetS) (r : AV) (n : Heap) (out : Ending) (w' : World) : Prop :=
  ∃ v S' mu', out = .returned v ∧ RelV w' S' mu' n r v ∧ RelH w' S' mu' n ∧ Ev w S mu0 [] w' S' mu' n
def SPost (w : World) (S : SetS) (mu : Mu) (H : Heap) (r : AV) (H' : Heap) (out : Ending) (w' : World) : Prop :=
  ∃ v S' mu', out = .returned v ∧ RelV w' S' mu' H' r v ∧ RelH w' S' mu' H' ∧ Ev w S mu H w' S' mu' H'

def POK (P : Program) (orc : Orc) (f : FuncId) : Prop :=
  ∀ (args : List AV) (vals : Array Value) (w : World) (S : SetS), RelVs w S mu0 [] args vals.toList → (∀ b o, S b o → ∃ v, w.cell? ⟨b, o, none⟩ = some v) →
    match (orc.p f args).res with
    | .ok r n => Calls P f vals w (PPost w S r n)
    | .iff c r n => c → Calls P f vals w (PPost w S r n)
    | _ => True
def SOK (P : Program) (orc : Orc) (f : FuncId) : Prop :=
  ∀ (args : List AV) (vals : Array Value) (w : World) (S : SetS) (mu : Mu) (H : Heap), RelVs w S mu H args vals.toList → RelH w S mu H →
    match (orc.s f args H).res with
    | .ok r H' => Calls P f vals w (SPost w S mu H r H')
    | .iff c r H' => c → Calls P f vals w (SPost w S mu H r H')
    | _ => True

section
variable {P : Program} {w : World} {S : SetS} {mu : Mu} {H : Heap} {env : Env} {a : Act} {nt : Nat} {K : Env → Heap → Prop}

/-! ### Rows, frozen -/
def froz : Blk → Blk
  | .fix e xs _ => .fix e xs true
  | b => b
theorem frz_get : ∀ (ids : List Nat) (H : Heap) (j : Nat), (frz H ids)[j]? = if j ∈ ids then (H[j]?).map froz else H[j]?
  | [], H, j => by simp [frz]
  | id :: r, H, j => by
    have key : ∀ H1 : Heap, (∀ j, H1[j]? = if j = id then (H[j]?).map froz else H[j]?) → (frz H1 r)[j]? = if j ∈ id :: r then (H[j]?).map froz else H[j]? := by
      intro H1 h1
      rw [frz_get r H1 j, h1 j]
      by_cases hj : j = id
      · subst hj
        simp only [if_true, List.mem_cons, true_or]
        split
        · cases hh : H[j]? with
          | none => rfl
          | some b => cases b <;> rfl
        · rfl
      · simp [hj]
    simp only [frz]
    split
    · rename_i e xs fz hg
      have hb := getD_blk hg (by simp)
      refine key _ (fun j => ?_)
      rw [set_get (lt_of_get hb)]
      by_cases hj : j = id
      · subst hj; simp [hb, froz]
      · simp [hj]
    · rename_i hg
      refine key _ (fun j => ?_)
      by_cases hj : j = id
      · subst hj
        simp only [if_true]
        cases hh : H[j]? with
        | none => rfl
        | some b =>
          have hd : H.getD j .dead = b := by rw [List.getD_eq_getElem?_getD, hh]; rfl
          cases b <;> first | rfl | exact absurd hd (hg _ _ _)
      · simp [hj]

/-- The cells that show when rows are handed over. -/
def rowS (S : SetS) (mu : Mu) (H : Heap) (ids : List Nat) : SetS := fun b o =>
  S b o ∨ ∃ id e xs fz, id ∈ ids ∧ H[id]? = some (.fix e xs fz) ∧ mu id = some b ∧ o < xs.length * e.size

theorem rowS_stab (ids : List Nat) : Stab w S w (rowS S mu H ids) := ⟨fun _ _ _ => rfl, fun _ _ h => .inl h⟩
theorem rowS_there (h : RelH w S mu H) (ids : List Nat) : ∀ b o, rowS S mu H ids b o → ∃ v, w.cell? ⟨b, o, none⟩ = some v := by
  rintro b o (hs | ⟨id, e, xs, fz, _, h1, h2, h3⟩)
  · exact h.there b o hs
  · obtain ⟨b', cells, ty, k1, k2, k3, k4, k5, k6⟩ := h.blk id _ h1
    rw [h2] at k1
    injection k1 with k1
    subst k1
    have ho : o < cells.size := by omega
    exact ⟨cells[o], by rw [cell_of k2]; exact Array.getElem?_eq_getElem ho⟩

theorem froz_live (b : Blk) : (froz b).live = b.live := by cases b <;> rfl

theorem frz_rel (h : Rel nt w S mu H env a) (ids : List Nat) : Rel nt w (rowS S mu H ids) mu (frz H ids) env a ∧ Ev w S mu H w (rowS S mu H ids) mu (frz H ids) := by
  have hT : Turn w S mu H w (rowS S mu H ids) mu (frz H ids) := by
    refine ⟨rowS_stab ids, fun b c t fr hb => ⟨c, fr, hb, rfl⟩, fun j b hb => ?_⟩
    rw [frz_get]
    by_cases hj : j ∈ ids
    · rw [if_pos hj, hb]
      refine ⟨froz b, rfl, ?_⟩
      cases b <;> simp only [froz] <;> first | exact Compat.refl _ _ | exact .inr (.inl ⟨_, _, rfl, rfl, rfl⟩)
    · rw [if_neg hj]
      exact ⟨b, hb, Compat.refl _ _⟩
  refine ⟨h.mono hT ?_, hT, Nat.le_refl _, rfl, rfl, rfl, fun _ _ _ => rfl, fun b o hs => ?_, fun j b hj => .inr ⟨j, hj⟩⟩
  · refine turn_sound (fun j => j ∈ ids ∧ ∃ e xs fz, H[j]? = some (.fix e xs fz)) h.heap hT (fun j hj => ?_) (fun j bk b hj hb hl hm => ⟨rfl, fun o hs => ?_⟩) (fun j bk hj hb => ?_) (fun i j bi bj b hi hij hbi hbj li lj mi mj => ?_) (rowS_there h.heap ids) (fun i b hi => h.heap.mus i b hi)
    · refine ⟨?_, rfl⟩
      rw [frz_get]
      split
      · rename_i hm
        cases hh : H[j]? with
        | none => rfl
        | some b => cases b <;> first | rfl | exact absurd ⟨hm, _, _, _, hh⟩ hj
      · rfl
    · rcases hs with hs | ⟨id, e, xs, fz, h1, h2, h3, h4⟩
      · exact hs
      · have := h.heap.inj j id bk _ b hb h2 hl rfl hm h3
        subst this
        exact absurd ⟨h1, _, _, _, h2⟩ hj
    · obtain ⟨hm, e, xs, fz, hh⟩ := hj
      rw [frz_get, if_pos hm, hh] at hb
      simp only [Option.map_some, froz, Option.some.injEq] at hb
      subst hb
      obtain ⟨b, cells, ty, k1, k2, k3, k4, k5, k6⟩ := h.heap.blk j _ hh
      exact ⟨b, cells, ty, k1, k2, k3, k4, fun k x hk => RelD.mono hT.stab _ _ _ (k5 k x hk), fun hf => by cases hf⟩
    · have old : ∀ (k : Nat) (bk : Blk), (frz H ids)[k]? = some bk → bk.live = true → ∃ b0 : Blk, H[k]? = some b0 ∧ b0.live = true := by
        intro k bk hk hl
        rw [frz_get] at hk
        split at hk
        · cases hh : H[k]? with
          | none => rw [hh] at hk; cases hk
          | some b0 =>
            rw [hh] at hk
            simp only [Option.map_some, Option.some.injEq] at hk
            subst hk
            exact ⟨b0, rfl, by rw [← froz_live]; exact hl⟩
        · exact ⟨bk, hk, hl⟩
      obtain ⟨c1, d1, d2⟩ := old i bi hbi li
      obtain ⟨c2, d3, d4⟩ := old j bj hbj lj
      exact hij (h.heap.inj i j c1 c2 b d1 d3 d2 d4 mi mj)
  · rcases hs with hs | ⟨id, e, xs, fz, _, _, h2, _⟩
    · exact .inl hs
    · exact .inr (.inr ⟨id, h2⟩)

/-! ### Handed over as data -/
mutual
theorem expo_rel (hH : RelH w S mu H) (S1 : SetS) (hst : ∀ b o, S b o → S1 b o) : ∀ (v : AV) (cs : List Value), (∀ id ∈ rids v, ∀ e xs fz b, H[id]? = some (.fix e xs fz) → mu id = some b → ∀ o, o < xs.length * e.size → S1 b o) → datA H v = true → RelA w S mu H v cs → RelA w S1 mu0 [] (expo H v) cs
  | .undef, _, _, _, h => by simp [RelA] at h
  | .int k n, cs, _, _, h => by simpa only [RelA, expo] using h
  | .bool b, cs, _, _, h => by simpa only [RelA, expo] using h
  | .str s, cs, _, _, h => by simpa only [RelA, expo] using h
  | .sl e xs .full, cs, _, _, h => by
    simp only [RelA, expo] at h ⊢
    obtain ⟨ad, n, c, h0, h1, h2⟩ := h
    exact ⟨ad, n, c, h0, h1.mono ⟨fun _ _ _ => rfl, hst⟩ (fun cs x hx => RelD.mono ⟨fun _ _ _ => rfl, hst⟩ e cs x hx), h2⟩
  | .sl e xs .no, cs, _, _, h => by
    simp only [RelA, expo] at h ⊢
    obtain ⟨ad, n, c, h0, h1, h2⟩ := h
    exact ⟨ad, n, c, h0, h1.mono ⟨fun _ _ _ => rfl, hst⟩ (fun cs x hx => RelD.mono ⟨fun _ _ _ => rfl, hst⟩ e cs x hx), trivial⟩
  | .sl e xs (.own id), cs, _, _, h => by
    simp only [RelA, expo] at h ⊢
    obtain ⟨ad, n, c, h0, h1, h2⟩ := h
    exact ⟨ad, n, c, h0, h1.mono ⟨fun _ _ _ => rfl, hst⟩ (fun cs x hx => RelD.mono ⟨fun _ _ _ => rfl, hst⟩ e cs x hx), trivial⟩
  | .rsl id e1 off len, cs, hr, hd, h => by
    simp only [datA] at hd
    split at hd
    · rename_i f xs fz hbk
      have := Ty.same_eq _ _ hd
      subst this
      have hb' := getD_blk hbk (by simp)
      simp only [expo, hbk]
      simp only [RelA] at h ⊢
      obtain ⟨ad, c, h0, h1, h2, h3, blk, q4, q5, q6⟩ := h
      rw [hb'] at q4
      injection q4 with q4
      subst q4
      obtain ⟨_, hol, b, p1, p2, cells, ty, fr, p3, p4⟩ := q6 _ _ _ rfl
      obtain ⟨b', cells', ty', k1, k2, k3, k4, k5, k6⟩ := hH.blk id _ hb'
      rw [p1] at k1
      injection k1 with k1
      subst k1
      rw [p3] at k2
      injection k2 with k2
      injection k2 with k21 k22 k23
      subst k21
      have hl : (List.take len (List.drop off xs)).length = len := by simp; omega
      refine ⟨ad, len, c, h0, ⟨hl, h1, h2, fun j x hj => ?_⟩, trivial⟩
      have hjl : j < len := by
        rcases Nat.lt_or_ge j len with h | h
        · exact h
        · rw [List.getElem?_eq_none (by omega)] at hj; cases hj
      rw [List.getElem?_take_of_lt hjl, List.getElem?_drop] at hj
      have hx := k5 _ x hj
      have had := p2.resolve_left (by omega)
      have hle : (off + j + 1) * f.size ≤ xs.length * f.size := Nat.mul_le_mul_right _ (by omega)
      have e1 : (off + j + 1) * f.size = (off + j) * f.size + f.size := by rw [Nat.add_mul (off + j) 1]; omega
      have e2 : (off + j) * f.size = off * f.size + j * f.size := Nat.add_mul _ _ _
      refine ⟨b, off * f.size, _, had, fun k v hk => ?_, by simp; omega, RelD.mono ⟨fun _ _ _ => rfl, hst⟩ _ _ _ hx⟩
      have hkl : k < f.size := by
        rcases Nat.lt_or_ge k f.size with h | h
        · exact h
        · rw [List.getElem?_eq_none (by simp; omega)] at hk; cases hk
      rw [List.getElem?_take_of_lt hkl, List.getElem?_drop] at hk
      refine ⟨?_, hr id (by simp [rids]) _ _ _ b hb' p1 _ (by omega)⟩
      rw [cell_of p3, ← Array.getElem?_toList, ← hk]
      congr 1
      omega
    · cases hd
  | .st vs, cs, hr, hd, h => by
    simp only [RelA, expo] at h ⊢
    exact expos_rel hH S1 hst vs cs (fun id hid => hr id (by simpa [rids] using hid)) (by simpa only [datA] using hd) h
  | .arr n e xs, cs, _, _, h => by
    simp only [RelA, expo] at h ⊢
    exact ⟨h.1, h.2.mono (fun cs x hx => RelD.mono ⟨fun _ _ _ => rfl, hst⟩ e cs x hx)⟩
  | .ptr id p ty, cs, _, hd, h => by simp [datA] at hd
  | .cptr t d, cs, _, _, h => by
    simp only [RelA, expo] at h ⊢
    obtain ⟨b, o, h0, cells, h1, h2⟩ := h
    exact ⟨b, o, h0, cells, h1.mono ⟨fun _ _ _ => rfl, hst⟩, RelD.mono ⟨fun _ _ _ => rfl, hst⟩ t cells d h2⟩
  | .nilp, cs, _, _, h => by simpa only [RelA, expo] using h
  | .fn f [], cs, _, _, h => by
    simp only [RelA, expo] at h ⊢
    obtain ⟨vs, h0, h1⟩ := h
    exact ⟨vs, h0, by simpa only [RelC] using h1⟩
  | .fn f (_ :: _), cs, _, hd, h => by simp [datA] at hd
  | .nilfn, cs, _, _, h => by simpa only [RelA, expo] using h
  | .tup _, _, _, _, h => by simp [RelA] at h
theorem expos_rel (hH : RelH w S mu H) (S1 : SetS) (hst : ∀ b o, S b o → S1 b o) : ∀ (vs : List AV) (cs : List Value), (∀ id ∈ ridss vs, ∀ e xs fz b, H[id]? = some (.fix e xs fz) → mu id = some b → ∀ o, o < xs.length * e.size → S1 b o) → datAs H vs = true → RelAs w S mu H vs cs → RelAs w S1 mu0 [] (expos H vs) cs
  | [], cs, _, _, h => by simpa only [RelAs, expos] using h
  | v :: vs, cs, hr, hd, h => by
    simp only [RelAs, expos] at h ⊢
    simp [datAs] at hd
    obtain ⟨c1, c2, h0, h1, h2⟩ := h
    exact ⟨c1, c2, h0, expo_rel hH S1 hst v c1 (fun id hid => hr id (by simp [ridss, hid])) hd.1 h1, expos_rel hH S1 hst vs c2 (fun id hid => hr id (by simp [ridss, hid])) hd.2 h2⟩
end

theorem expoV_rel (hH : RelH w S mu H) (S1 : SetS) (hst : ∀ b o, S b o → S1 b o) (v : AV) (u : Value) (hr : ∀ id ∈ rids v, ∀ e xs fz b, H[id]? = some (.fix e xs fz) → mu id = some b → ∀ o, o < xs.length * e.size → S1 b o) (hd : datA H v = true) (h : RelV w S mu H v u) : RelV w S1 mu0 [] (expo H v) u := by
  have hA : ∀ cs, RelA w S mu H v cs → RelA w S1 mu0 [] (expo H v) cs := fun cs => expo_rel hH S1 hst v cs hr hd
  cases v with
  | undef => simp [datA] at hd
  | tup vs => simp [datA] at hd
  | st vs => simp only [RelV, expo] at h ⊢; obtain ⟨cs, h0, h1⟩ := h; exact ⟨cs, h0, hA _ h1⟩
  | arr n e xs => simp only [RelV, expo] at h ⊢; obtain ⟨cs, h0, h1⟩ := h; exact ⟨cs, h0, hA _ h1⟩
  | int k n => simp only [RelV] at h; simpa only [RelV, expo] using hA _ h
  | bool b => simp only [RelV] at h; simpa only [RelV, expo] using hA _ h
  | str s => simp only [RelV] at h; simpa only [RelV, expo] using hA _ h
  | sl e xs t => simp only [RelV] at h; have := hA _ h; cases t <;> simpa only [RelV, expo] using this
  | rsl id e off len =>
    simp only [RelV] at h
    have := hA _ h
    simp only [datA] at hd
    split at hd
    · rename_i f xs fz hbk
      simp only [expo, hbk] at this ⊢
      simpa only [RelV] using this
    · cases hd
  | ptr id p t => simp [datA] at hd
  | cptr t d => simp only [RelV] at h; simpa only [RelV, expo] using hA _ h
  | nilp => simp only [RelV] at h; simpa only [RelV, expo] using hA _ h
  | fn f vs => 
    simp only [RelV] at h
    have := hA _ h
    cases vs with
    | nil => simpa only [RelV, expo] using this
    | cons _ _ => simp [datA] at hd
  | nilfn => simp only [RelV] at h; simpa only [RelV, expo] using hA _ h

theorem expoVs_rel (hH : RelH w S mu H) (S1 : SetS) (hst : ∀ b o, S b o → S1 b o) : ∀ (vs : List AV) (us : List Value), (∀ id ∈ ridss vs, ∀ e xs fz b, H[id]? = some (.fix e xs fz) → mu id = some b → ∀ o, o < xs.length * e.size → S1 b o) → datAs H vs = true → RelVs w S mu H vs us → RelVs w S1 mu0 [] (expos H vs) us
  | [], us, _, _, h => by simpa only [RelVs, expos] using h
  | v :: vs, us, hr, hd, h => by
    simp only [RelVs, expos] at h ⊢
    simp [datAs] at hd
    obtain ⟨u, us', h0, h1, h2⟩ := h
    exact ⟨u, us', h0, expoV_rel hH S1 hst v u (fun id hid => hr id (by simp [ridss, hid])) hd.1 h1, expoVs_rel hH S1 hst vs us' (fun id hid => hr id (by simp [ridss, hid])) hd.2 h2⟩

/-! ### Addresses, named anew -/
mutual
theorem drp_rel {w : World} {S : SetS} {mu : Mu} {H : Heap} : ∀ (v : AV) (cs : List Value), RelA w S mu H v cs → RelA w S mu H (drp v) cs
  | .sl e xs t, cs, h => by
    simp only [drp, RelA] at h ⊢
    obtain ⟨a, n, c, h0, h1, _⟩ := h
    exact ⟨a, n, c, h0, h1, trivial⟩
  | .st vs, cs, h => by simp only [drp, RelA] at h ⊢; exact drps_rel vs cs h
  | .undef, _, h | .int .., _, h | .bool _, _, h | .str _, _, h | .rsl .., _, h | .arr .., _, h | .ptr .., _, h | .cptr .., _, h | .nilp, _, h | .fn .., _, h | .nilfn, _, h | .tup _, _, h => by simpa only [drp] using h
theorem drps_rel {w : World} {S : SetS} {mu : Mu} {H : Heap} : ∀ (vs : List AV) (cs : List Value), RelAs w S mu H vs cs → RelAs w S mu H (drps vs) cs
  | [], cs, h => by simpa only [drps] using h
  | v :: vs, cs, h => by
    simp only [drps, RelAs] at h ⊢
    obtain ⟨c1, c2, h0, h1, h2⟩ := h
    exact ⟨c1, c2, h0, drp_rel v c1 h1, drps_rel vs c2 h2⟩
end
theorem drpV_rel {w : World} {S : SetS} {mu : Mu} {H : Heap} (v : AV) (u : Value) (h : RelV w S mu H v u) : RelV w S mu H (drp v) u := by
  cases v with
  | st vs =>
    simp only [RelV] at h
    obtain ⟨cs, h0, h1⟩ := h
    have := drp_rel _ _ h1
    simp only [drp] at this ⊢
    simp only [RelV]
    exact ⟨cs, h0, this⟩
  | sl e xs t =>
    simp only [RelV] at h
    have := drp_rel _ _ h
    simp only [drp] at this ⊢
    simpa only [RelV] using this
  | _ => simpa only [drp] using h
theorem drpVs_rel {w : World} {S : SetS} {mu : Mu} {H : Heap} (b : Bool) : ∀ (vs : List AV) (us : List Value), RelVs w S mu H vs us → RelVs w S mu H (drpF b vs) us := by
  have key : ∀ (vs : List AV) (us : List Value), RelVs w S mu H vs us → RelVs w S mu H (drps vs) us := by
    intro vs
    induction vs with
    | nil => intro us h; simpa only [drps] using h
    | cons v vs ih =>
      intro us h
      simp only [drps, RelVs] at h ⊢
      obtain ⟨u, us', h0, h1, h2⟩ := h
      exact ⟨u, us', h0, drpV_rel v u h1, ih us' h2⟩
  intro vs us h
  cases b with
  | true => exact h
  | false => exact key vs us h

theorem ren_zero (to id : Nat) : ren 0 to id = id + to := by
  unfold ren
  cases h : Nat.blt id 0 with
  | true => simp at h
  | false => simp

section
variable {w : World} {S : SetS} {mu mu'' : Mu} {n H'' : Heap} {to : Nat}
mutual
theorem renA_rel (hm : ∀ id b, n[id]? = some b → H''[id + to]? = some (renB 0 to b) ∧ mu'' (id + to) = mu id) : ∀ (v : AV) (cs : List Value), RelA w S mu n v cs → RelA w S mu'' H'' (renA 0 to v) cs
  | .undef, _, h => by simp [RelA] at h
  | .int k n, cs, h => by simpa only [RelA, renA] using h
  | .bool b, cs, h => by simpa only [RelA, renA] using h
  | .str s, cs, h => by simpa only [RelA, renA] using h
  | .sl e xs .full, cs, h => by simpa only [RelA, renA, RelT] using h
  | .sl e xs .no, cs, h => by simpa only [RelA, renA, RelT] using h
  | .sl e xs (.own id), cs, h => by
    simp only [RelA, renA, ren_zero] at h ⊢
    obtain ⟨ad, m, c, h0, h1, blk, h2, h3, h4⟩ := h
    obtain ⟨g1, g2⟩ := hm id blk h2
    refine ⟨ad, m, c, h0, h1, _, g1, by cases blk <;> first | exact h3 | (simp [Blk.grows] at h3), ?_⟩
    intro e' m' hb
    cases blk <;> simp [renB] at hb
    obtain ⟨rfl, rfl⟩ := hb
    obtain ⟨q1, q2, q3⟩ := h4 _ _ rfl
    exact ⟨q1, q2, fun hnm => by rw [g2]; exact q3 hnm⟩
  | .rsl id e1 off len, cs, h => by
    simp only [RelA, renA, ren_zero] at h ⊢
    obtain ⟨ad, c, h0, h1, h2, h3, blk, q4, q5, q6⟩ := h
    obtain ⟨g1, g2⟩ := hm id blk q4
    refine ⟨ad, c, h0, h1, h2, h3, _, g1, by cases blk <;> first | exact q5 | (simp [Blk.row] at q5), ?_⟩
    intro e' xs' fz' hb
    cases blk <;> simp [renB] at hb
    obtain ⟨rfl, rfl, rfl⟩ := hb
    rw [g2]
    exact q6 _ _ _ rfl
  | .st vs, cs, h => by simp only [RelA, renA] at h ⊢; exact renAs_rel hm vs cs h
  | .arr n e xs, cs, h => by simpa only [RelA, renA] using h
  | .ptr id p ty, cs, h => by
    simp only [RelA, renA, ren_zero] at h ⊢
    obtain ⟨b, o, h0, blk, q1, q2, q3⟩ := h
    obtain ⟨g1, g2⟩ := hm id blk q1
    refine ⟨b, o, h0, _, g1, by cases blk <;> exact q2, fun hh => ?_⟩
    rw [g2]
    cases blk with
    | var t v fz =>
      obtain ⟨k1, k2, k3⟩ := q3 (.inl ⟨_, _, _, rfl⟩)
      exact ⟨k1, by cases p <;> exact k2, by cases p <;> exact k3⟩
    | fix e xs fz => exact q3 (.inr ⟨_, _, _, rfl⟩)
    | resv => simp [renB] at hh
    | dead => simp [renB] at hh
    | ext e m => simp [renB] at hh
  | .cptr t d, cs, h => by simpa only [RelA, renA] using h
  | .nilp, cs, h => by simpa only [RelA, renA] using h
  | .fn f caps, cs, h => by
    simp only [RelA, renA] at h ⊢
    obtain ⟨vs, h0, h1⟩ := h
    exact ⟨vs, h0, renC_rel hm caps _ h1⟩
  | .nilfn, cs, h => by simpa only [RelA, renA] using h
  | .tup _, _, h => by simp [RelA] at h
theorem renAs_rel (hm : ∀ id b, n[id]? = some b → H''[id + to]? = some (renB 0 to b) ∧ mu'' (id + to) = mu id) : ∀ (vs : List AV) (cs : List Value), RelAs w S mu n vs cs → RelAs w S mu'' H'' (renAs 0 to vs) cs
  | [], cs, h => by simpa only [RelAs, renAs] using h
  | v :: vs, cs, h => by
    simp only [RelAs, renAs] at h ⊢
    obtain ⟨c1, c2, h0, h1, h2⟩ := h
    exact ⟨c1, c2, h0, renA_rel hm v c1 h1, renAs_rel hm vs c2 h2⟩
theorem renC_rel (hm : ∀ id b, n[id]? = some b → H''[id + to]? = some (renB 0 to b) ∧ mu'' (id + to) = mu id) : ∀ (vs : List AV) (cs : List Value), RelC w S mu n vs cs → RelC w S mu'' H'' (renAs 0 to vs) cs
  | [], cs, h => by simpa only [RelC, renAs] using h
  | v :: vs, cs, h => by
    simp only [RelC, renAs] at h ⊢
    obtain ⟨c, cs', h0, h1, h2⟩ := h
    exact ⟨c, cs', h0, renA_rel hm v [c] h1, renC_rel hm vs cs' h2⟩
end
mutual
theorem renV_rel (hm : ∀ id b, n[id]? = some b → H''[id + to]? = some (renB 0 to b) ∧ mu'' (id + to) = mu id) : ∀ (v : AV) (u : Value), RelV w S mu n v u → RelV w S mu'' H'' (renA 0 to v) u
  | .undef, _, _ => by simp only [RelV, renA]
  | .tup vs, u, h => by
    simp only [RelV, renA] at h ⊢
    obtain ⟨us, h0, h1⟩ := h
    exact ⟨us, h0, renVs_rel hm vs _ h1⟩
  | .st vs, u, h => by
    simp only [RelV, renA] at h ⊢
    obtain ⟨cs, h0, h1⟩ := h
    exact ⟨cs, h0, by have := renA_rel hm _ _ h1; simpa only [renA] using this⟩
  | .arr m e xs, u, h => by
    simp only [RelV, renA] at h ⊢
    obtain ⟨cs, h0, h1⟩ := h
    exact ⟨cs, h0, by have := renA_rel hm _ _ h1; simpa only [renA] using this⟩
  | .int .., u, h => by simp only [RelV] at h; have := renA_rel hm _ _ h; simpa only [RelV, renA] using this
  | .bool .., u, h => by simp only [RelV] at h; have := renA_rel hm _ _ h; simpa only [RelV, renA] using this
  | .str .., u, h => by simp only [RelV] at h; have := renA_rel hm _ _ h; simpa only [RelV, renA] using this
  | .sl e xs .no, u, h => by simp only [RelV] at h; have := renA_rel hm _ _ h; simpa only [RelV, renA] using this
  | .sl e xs .full, u, h => by simp only [RelV] at h; have := renA_rel hm _ _ h; simpa only [RelV, renA] using this
  | .sl e xs (.own id), u, h => by simp only [RelV] at h; have := renA_rel hm _ _ h; simpa only [RelV, renA] using this
  | .rsl .., u, h => by simp only [RelV] at h; have := renA_rel hm _ _ h; simpa only [RelV, renA] using this
  | .ptr .., u, h => by simp only [RelV] at h; have := renA_rel hm _ _ h; simpa only [RelV, renA] using this
  | .cptr .., u, h => by simp only [RelV] at h; have := renA_rel hm _ _ h; simpa only [RelV, renA] using this
  | .nilp, u, h => by simp only [RelV] at h; have := renA_rel hm _ _ h; simpa only [RelV, renA] using this
  | .fn .., u, h => by simp only [RelV] at h; have := renA_rel hm _ _ h; simpa only [RelV, renA] using this
  | .nilfn, u, h => by simp only [RelV] at h; have := renA_rel hm _ _ h; simpa only [RelV, renA] using this
theorem renVs_rel (hm : ∀ id b, n[id]? = some b → H''[id + to]? = some (renB 0 to b) ∧ mu'' (id + to) = mu id) : ∀ (vs : List AV) (us : List Value), RelVs w S mu n vs us → RelVs w S mu'' H'' (renAs 0 to vs) us
  | [], us, h => by simpa only [RelVs, renAs] using h
  | v :: vs, us, h => by
    simp only [RelVs, renAs] at h ⊢
    obtain ⟨u, us', h0, h1, h2⟩ := h
    exact ⟨u, us', h0, renV_rel hm v u h1, renVs_rel hm vs us' h2⟩
end
end
mutual
theorem scal_rel {w w' : World} {S S' : SetS} {mu mu' : Mu} {H H' : Heap} (to : Nat) : ∀ (v : AV) (u : Value), scal v = true → RelV w S mu H v u → RelV w' S' mu' H' (renA 0 to v) u
  | .int k n, u, _, h => by simpa only [RelV, RelA, renA] using h
  | .bool b, u, _, h => by simpa only [RelV, RelA, renA] using h
  | .str b, u, _, h => by simpa only [RelV, RelA, renA] using h
  | .sl e xs t, u, hs, h => by
    simp only [scal] at hs
    unfold scalS at hs
    split at hs
    · simp only [RelV, RelA, renA] at h ⊢
      obtain ⟨a, n, c, h0, h1, h2⟩ := h
      exact ⟨a, n, c, h0, ⟨h1.1, h1.2.1, h1.2.2.1, fun j x hj => by simp at hj⟩, trivial⟩
    · simp only [RelV, RelA, renA] at h ⊢
      obtain ⟨a, n, c, h0, h1, h2⟩ := h
      exact ⟨a, n, c, h0, ⟨h1.1, h1.2.1, h1.2.2.1, fun j x hj => by simp at hj⟩, h2⟩
    · cases hs
  | .tup vs, u, hs, h => by
    simp only [RelV, renA] at h ⊢
    obtain ⟨us, h0, h1⟩ := h
    exact ⟨us, h0, scals_rel to vs _ (by simpa only [scal] using hs) h1⟩
  | .nilp, u, _, h => by simpa only [RelV, RelA, renA] using h
  | .nilfn, u, _, h => by simpa only [RelV, RelA, renA] using h
  | .undef, _, hs, _ => by simp [scal] at hs
  | .rsl .., _, hs, _ => by simp [scal] at hs
  | .st _, _, hs, _ => by simp [scal] at hs
  | .arr .., _, hs, _ => by simp [scal] at hs
  | .ptr .., _, hs, _ => by simp [scal] at hs
  | .cptr .., _, hs, _ => by simp [scal] at hs
  | .fn .., _, hs, _ => by simp [scal] at hs
theorem scals_rel {w w' : World} {S S' : SetS} {mu mu' : Mu} {H H' : Heap} (to : Nat) : ∀ (vs : List AV) (us : List Value), scals vs = true → RelVs w S mu H vs us → RelVs w' S' mu' H' (renAs 0 to vs) us
  | [], us, _, h => by simpa only [RelVs, renAs] using h
  | v :: vs, us, hs, h => by
    simp only [RelVs, renAs] at h ⊢
    simp [scals] at hs
    obtain ⟨u, us', h0, h1, h2⟩ := h
    exact ⟨u, us', h0, scal_rel to v u hs.1 h1, scals_rel to vs us' hs.2 h2⟩
end

/-! ### Where new blocks are laid -/
theorem lay_get : ∀ (n : Heap) (h : Heap) (i j : Nat), (∀ k, i ≤ k → k < i + n.length → k < h.length) → (lay h i n)[j]? = if i ≤ j ∧ j < i + n.length then n[j - i]? else h[j]?
  | [], h, i, j, _ => by
    simp only [lay, List.length_nil, Nat.add_zero]
    rw [if_neg (by omega)]
  | b :: r, h, i, j, hl => by
    simp only [lay]
    simp only [List.length_cons] at hl
    have hi := hl i (Nat.le_refl _) (by omega)
    rw [lay_get r (h.set i b) (i + 1) j (fun k h1 h2 => by have := hl k (by omega) (by omega); simpa using this), set_get hi]
    by_cases hj : j = i
    · subst hj
      rw [if_neg (by omega), if_pos rfl, if_pos (by simp)]
      simp
    · by_cases hc : i + 1 ≤ j ∧ j < i + 1 + r.length
      · rw [if_pos hc, if_pos (by simp; omega)]
        rw [show j - i = (j - (i + 1)) + 1 by omega, List.getElem?_cons_succ]
      · rw [if_neg hc, if_neg hj, if_neg (by simp; omega)]
theorem renH_length (n0 to : Nat) : ∀ (n : Heap), (renH n0 to n).length = n.length
  | [] => rfl
  | b :: r => by simp [renH, renH_length n0 to r]
theorem renH_get (n0 to : Nat) : ∀ (n : Heap) (j : Nat), (renH n0 to n)[j]? = (n[j]?).map (renB n0 to)
  | [], j => by simp [renH]
  | b :: r, 0 => by simp [renH]
  | b :: r, j + 1 => by simp [renH, renH_get n0 to r j]
theorem resvs_get : ∀ (k : Nat) (h : Heap) (i : Nat), resvs h i k = true → ∀ j, i ≤ j → j < i + k → h[j]? = some .resv
  | 0, h, i, _, j, h1, h2 => by omega
  | k + 1, h, i, hr, j, h1, h2 => by
    simp only [resvs, Bool.and_eq_true] at hr
    by_cases hj : j = i
    · subst hj
      have h3 := hr.1
      split at h3
      · rename_i hg; exact getD_blk hg (by simp)
      · cases h3
    · exact resvs_get k h (i + 1) hr.2 j (by omega) (by omega)
theorem lay_length : ∀ (n : Heap) (h : Heap) (i : Nat), (lay h i n).length = h.length
  | [], h, i => rfl
  | b :: r, h, i => by simp [lay, lay_length r]

mutual
theorem fitsV_ren (to : Nat) : ∀ (v : AV) (T : Ty), fitsV v T = true → fitsV (renA 0 to v) T = true
  | .undef, T, h => by cases T <;> simp [fitsV] at h
  | .int .., T, h => by simpa only [renA] using h
  | .bool .., T, h => by simpa only [renA] using h
  | .str .., T, h => by simpa only [renA] using h
  | .sl e xs t, T, h => by cases t <;> cases T <;> simp [fitsV] at h <;> simp [renA, fitsV, h]
  | .rsl .., T, h => by cases T <;> simp [fitsV] at h <;> simp [renA, fitsV, h]
  | .ptr .., T, h => by cases T <;> simp [fitsV] at h <;> simp [renA, fitsV]
  | .st vs, T, h => by
    cases T <;> simp [fitsV] at h
    simp only [renA, fitsV]
    exact fitsVs_ren to vs _ h
  | .fn f vs, T, h => by cases T <;> simp [fitsV] at h <;> simp [renA, fitsV]
  | .tup vs, T, h => by cases T <;> simp [fitsV] at h
  | .arr .., T, h => by simpa only [renA] using h
  | .cptr .., T, h => by simpa only [renA] using h
  | .nilp, T, h => by simpa only [renA] using h
  | .nilfn, T, h => by simpa only [renA] using h
theorem fitsVs_ren (to : Nat) : ∀ (vs : List AV) (ts : List Ty), fitsVs vs ts = true → fitsVs (renAs 0 to vs) ts = true
  | [], [], _ => rfl
  | [], _ :: _, h => by simp [fitsVs] at h
  | _ :: _, [], h => by simp [fitsVs] at h
  | v :: vs, t :: ts, h => by
    simp [fitsVs] at h
    simp [renAs, fitsVs, fitsV_ren to v t h.1, fitsVs_ren to vs ts h.2]
end

theorem renB_live (to : Nat) (b : Blk) : (renB 0 to b).live = b.live := by cases b <;> rfl

theorem renB_rel {w : World} {S : SetS} {mu mu'' : Mu} {n H'' : Heap} {to : Nat} (hm : ∀ id b, n[id]? = some b → H''[id + to]? = some (renB 0 to b) ∧ mu'' (id + to) = mu id) {id : Nat} {b : Blk} (hid : n[id]? = some b) (h : RelB w S mu n id b) : RelB w S mu'' H'' (id + to) (renB 0 to b) := by
  have hmu := (hm id b hid).2
  cases b with
  | resv => trivial
  | dead => trivial
  | var t v fz =>
    obtain ⟨b, cells, ty, h1, h2, h3, h4, h5, h6⟩ := h
    exact ⟨b, cells, ty, by rw [hmu, h1], h2, h3, renA_rel hm _ _ h4, fitsV_ren to _ _ h5, h6⟩
  | fix e xs fz =>
    obtain ⟨b, cells, ty, h1, h2, h3, h4, h5, h6⟩ := h
    exact ⟨b, cells, ty, by rw [hmu, h1], h2, h3, h4, h5, h6⟩
  | ext e m =>
    obtain ⟨h0, h1⟩ := h
    refine ⟨h0, ?_⟩
    rcases h1 with ⟨h1, h2⟩ | ⟨b, cells, ty, h1, h2, h3, h4⟩
    · exact .inl ⟨h1, by rw [hmu, h2]⟩
    · exact .inr ⟨b, cells, ty, by rw [hmu, h1], h2, h3, h4⟩

/-- A call of data alone, seen by the caller. -/
theorem call_turn {w' : World} {S' : SetS} {mu' : Mu} {n : Heap} {r : AV} {v : Value} {to : Nat} (h : Rel nt w S mu H env a) (hrv : ∀ j, to ≤ j → j < to + n.length → H[j]? = some .resv)
    (hv : RelV w' S' mu' n r v) (hH : RelH w' S' mu' n) (hE : Ev w S mu0 [] w' S' mu' n) :
    ∃ mu'', Rel nt w' S' mu'' (lay H to (renH 0 to n)) env a ∧ Ev w S mu H w' S' mu'' (lay H to (renH 0 to n)) ∧ RelV w' S' mu'' (lay H to (renH 0 to n)) (renA 0 to r) v := by
  have hrl := renH_length 0 to n
  have hget : ∀ j, (lay H to (renH 0 to n))[j]? = if to ≤ j ∧ j < to + n.length then (n[j - to]?).map (renB 0 to) else H[j]? := fun j => by
    rw [lay_get _ _ _ _ (fun k h1 h2 => lt_of_get (hrv k h1 (by omega))), hrl, renH_get]
  let mu'' : Mu := fun j => if to ≤ j ∧ j < to + n.length then mu' (j - to) else mu j
  have hin : ∀ j, to ≤ j ∧ j < to + n.length → mu'' j = mu' (j - to) := fun j hj => if_pos hj
  have hout : ∀ j, ¬ (to ≤ j ∧ j < to + n.length) → mu'' j = mu j := fun j hj => if_neg hj
  have hm : ∀ id b, n[id]? = some b → (lay H to (renH 0 to n))[id + to]? = some (renB 0 to b) ∧ mu'' (id + to) = mu' id := fun id b hb => by
    have hid := lt_of_get hb
    have hc : to ≤ id + to ∧ id + to < to + n.length := by omega
    rw [hget, if_pos hc, hin _ hc, Nat.add_sub_cancel, hb]
    exact ⟨rfl, rfl⟩
  have hfr : ∀ b, b < w.heap.size → w'.heap[b]? = w.heap[b]? := fun b hb => hE.frame b hb (fun id => by simp [mu0])
  have hnewM : ∀ i b, mu' i = some b → w.heap.size ≤ b := fun i b hi => by
    rcases hE.newM i b hi with h | ⟨_, h⟩
    · exact h
    · simp [mu0] at h
  have hnewS : ∀ b o, S' b o → S b o ∨ w.heap.size ≤ b := fun b o hs => by
    rcases hE.newS b o hs with h | h | ⟨_, h⟩
    · exact .inl h
    · exact .inr h
    · simp [mu0] at h
  have hT : Turn w S mu H w' S' mu'' (lay H to (renH 0 to n)) := by
    refine ⟨hE.turn.stab, hE.turn.wide, fun j b hb => ?_⟩
    rw [hget]
    by_cases hj : to ≤ j ∧ j < to + n.length
    · rw [if_pos hj]
      have hlt : j - to < n.length := by omega
      rw [List.getElem?_eq_getElem hlt]
      rw [hrv j hj.1 hj.2] at hb
      injection hb with hb
      subst hb
      exact ⟨_, rfl, trivial⟩
    · rw [if_neg hj, hout j hj]
      exact ⟨b, hb, Compat.refl _ _⟩
  refine ⟨mu'', h.mono hT ?_, ⟨hT, hE.size, hE.os, hE.tape, hE.output, fun b hb _ => hfr b hb, fun b o hs => ?_, fun j b hj => ?_⟩, renV_rel hm r v hv⟩
  · refine turn_sound (fun j => to ≤ j ∧ j < to + n.length) h.heap hT (fun j hj => ?_) (fun j bk b hj hb hl hmj => ?_) (fun j bk hj hb => ?_) (fun i j bi bj b hi hij hbi hbj li lj mi mj => ?_) hH.there (fun i b hi => ?_)
    · rw [hget, if_neg hj]
      exact ⟨rfl, hout j hj⟩
    · have hlt := h.heap.mus j b hmj
      refine ⟨hfr b hlt, fun o hs => ?_⟩
      rcases hnewS b o hs with hs | hs
      · exact hs
      · omega
    · rw [hget, if_pos hj] at hb
      cases hn : n[j - to]? with
      | none => rw [hn] at hb; cases hb
      | some b0 =>
        rw [hn] at hb
        simp only [Option.map_some, Option.some.injEq] at hb
        subst hb
        have := renB_rel hm hn (hH.blk _ _ hn)
        rwa [Nat.sub_add_cancel hj.1] at this
    · rw [hget, if_pos hi] at hbi
      rw [hin i hi] at mi
      have hbs := hnewM _ _ mi
      by_cases hj : to ≤ j ∧ j < to + n.length
      · rw [hget, if_pos hj] at hbj
        rw [hin j hj] at mj
        cases hn1 : n[i - to]? with
        | none => rw [hn1] at hbi; cases hbi
        | some b1 =>
          cases hn2 : n[j - to]? with
          | none => rw [hn2] at hbj; cases hbj
          | some b2 =>
            rw [hn1] at hbi
            rw [hn2] at hbj
            simp only [Option.map_some, Option.some.injEq] at hbi hbj
            subst hbi; subst hbj
            have := hH.inj _ _ _ _ b hn1 hn2 (by rw [← renB_live to]; exact li) (by rw [← renB_live to]; exact lj) mi mj
            omega
      · rw [hout j hj] at mj
        have := h.heap.mus j b mj
        omega
    · by_cases hj : to ≤ i ∧ i < to + n.length
      · rw [hin i hj] at hi
        exact hH.mus _ _ hi
      · rw [hout i hj] at hi
        exact Nat.lt_of_lt_of_le (h.heap.mus i b hi) hE.size
  · rcases hnewS b o hs with hs | hs
    · exact .inl hs
    · exact .inr (.inl hs)
  · by_cases hc : to ≤ j ∧ j < to + n.length
    · rw [hin j hc] at hj
      exact .inl (hnewM _ _ hj)
    · rw [hout j hc] at hj
      exact .inr ⟨j, hj⟩

/-- A call that shows nothing: all is as it was, and a little more lies in memory. -/
theorem call_still {w' : World} {S1 S' : SetS} {mu' : Mu} (h : Rel nt w S mu H env a) (hE : Ev w S1 mu0 [] w' S' mu' []) :
    Rel nt w' S mu H env a ∧ Ev w S mu H w' S mu H := by
  have hfr : ∀ b, b < w.heap.size → w'.heap[b]? = w.heap[b]? := fun b hb => hE.frame b hb (fun id => by simp [mu0])
  have hSlt : ∀ b o, S b o → b < w.heap.size := fun b o hs => by obtain ⟨v, hv⟩ := h.heap.there b o hs; exact lt_of_cell hv
  have hT : Turn w S mu H w' S mu H :=
    ⟨⟨fun b o hs => cell_same (hfr b (hSlt b o hs)), fun b o hs => hs⟩, hE.turn.wide, fun j b hb => ⟨b, hb, Compat.refl _ _⟩⟩
  refine ⟨h.mono hT ?_, hT, hE.size, hE.os, hE.tape, hE.output, fun b hb _ => hfr b hb, fun b o hs => .inl hs, fun j b hj => .inr ⟨j, hj⟩⟩
  refine turn_sound (fun _ => False) h.heap hT (fun _ _ => ⟨rfl, rfl⟩) (fun j bk b _ _ _ hm => ⟨hfr b (h.heap.mus j b hm), fun o hs => hs⟩) (fun _ _ h => h.elim) (fun i j bi bj b hi => hi.elim) (fun b o hs => ?_) (fun i b hi => ?_)
  · obtain ⟨v, hv⟩ := h.heap.there b o hs
    exact ⟨v, by rw [cell_same (hfr b (hSlt b o hs))]; exact hv⟩
  · exact Nat.lt_of_lt_of_le (h.heap.mus i b hi) hE.size
end
end Go.Vc
