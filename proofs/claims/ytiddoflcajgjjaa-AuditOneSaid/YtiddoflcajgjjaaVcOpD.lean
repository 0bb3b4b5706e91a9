/- Part D: places, parts and slices. -/
import Derived.Test.YtiddoflcajgjjaaVcOpC
set_option linter.unusedVariables false
set_option linter.unusedSimpArgs false
namespace Go.Vc

theorem addr_add (b o j : Nat) : (⟨b, o, none⟩ : Addr).add j = ⟨b, o + j, none⟩ := by
  unfold Addr.add; split <;> simp_all

section
variable {P : Program} {w : World} {S : Nat → Nat → Prop} {mu : Mu} {H : Heap} {env : Env} {a : Act}

/-! ### Cutting what is related -/
theorem Lies.mid {b o : Nat} {pre c post : List Value} (h : Lies w S b o (pre ++ (c ++ post))) : Lies w S b (o + pre.length) c := by
  intro k v hk
  have hlt : k < c.length := by
    rcases Nat.lt_or_ge k c.length with h | h
    · exact h
    · rw [List.getElem?_eq_none h] at hk; cases hk
  have := h (pre.length + k) v (by rw [List.getElem?_append_right (by omega), show pre.length + k - pre.length = k by omega, List.getElem?_append_left hlt]; exact hk)
  rwa [show o + (pre.length + k) = o + pre.length + k by omega] at this
theorem Lies.append {b o : Nat} {c1 c2 : List Value} (h1 : Lies w S b o c1) (h2 : Lies w S b (o + c1.length) c2) : Lies w S b o (c1 ++ c2) := by
  intro k v hk
  rcases Nat.lt_or_ge k c1.length with h | h
  · rw [List.getElem?_append_left h] at hk; exact h1 k v hk
  · rw [List.getElem?_append_right h] at hk
    have := h2 (k - c1.length) v hk
    rwa [show o + c1.length + (k - c1.length) = o + k by omega] at this
theorem Lies.nil (b o : Nat) : Lies w S b o [] := fun k v hk => by simp at hk

theorem RelL_get {sz : Nat} {R : List Value → D → Prop} : ∀ {cs : List Value} {xs : List D} {j : Nat} {x : D}, RelL sz R cs xs → xs[j]? = some x →
    ∃ pre c post, cs = pre ++ (c ++ post) ∧ pre.length = j * sz ∧ c.length = sz ∧ R c x
  | _, [], _, _, _, h => by simp at h
  | cs, y :: ys, 0, x, h, hj => by
    obtain ⟨c1, c2, h0, h1, h2, h3⟩ := h
    simp at hj
    subst hj
    exact ⟨[], c1, c2, by simpa using h0, by simp, h1, h2⟩
  | cs, y :: ys, j + 1, x, h, hj => by
    obtain ⟨c1, c2, h0, h1, h2, h3⟩ := h
    obtain ⟨pre, c, post, g0, g1, g2, g3⟩ := RelL_get h3 (j := j) (by simpa using hj)
    exact ⟨c1 ++ pre, c, post, by rw [h0, g0]; simp, by simp [h1, g1, Nat.add_mul, Nat.add_comm], g2, g3⟩
theorem RelL_append {sz : Nat} {R : List Value → D → Prop} : ∀ {c1 c2 : List Value} {xs ys : List D}, RelL sz R c1 xs → RelL sz R c2 ys → RelL sz R (c1 ++ c2) (xs ++ ys)
  | _, _, [], _, h1, h2 => by simp [RelL] at h1; subst h1; simpa using h2
  | _, _, x :: xs, ys, h1, h2 => by
    obtain ⟨a1, a2, rfl, g1, g2, g3⟩ := h1
    exact ⟨a1, a2 ++ _, by simp, g1, g2, RelL_append g3 h2⟩
theorem RelL_one {sz : Nat} {R : List Value → D → Prop} {c : List Value} {x : D} (hl : c.length = sz) (hr : R c x) : RelL sz R c [x] := ⟨c, [], by simp, hl, hr, rfl⟩

theorem RelDs_get : ∀ {ts : List Ty} {i0 i : Nat} {cs : List Value} {d : D}, RelDs w S ts i0 cs d → i < ts.length →
    ∃ pre c post, cs = pre ++ (c ++ post) ∧ pre.length = Ty.sizes (ts.take i) ∧ RelD w S (ts.getD i .op) c (d.fld (i0 + i))
  | [], _, _, _, _, _, h => by simp at h
  | t :: ts, i0, 0, cs, d, h, _ => by
    simp only [RelDs] at h
    obtain ⟨c1, c2, h0, h1, h2⟩ := h
    exact ⟨[], c1, c2, by simpa using h0, by simp [Ty.sizes], by simpa using h1⟩
  | t :: ts, i0, i + 1, cs, d, h, hi => by
    simp only [RelDs] at h
    obtain ⟨c1, c2, h0, h1, h2⟩ := h
    obtain ⟨pre, c, post, g0, g1, g2⟩ := RelDs_get h2 (i := i) (by simpa using hi)
    refine ⟨c1 ++ pre, c, post, by rw [h0, g0]; simp, by simp [Ty.sizes, h1.length, g1], ?_⟩
    rw [show i0 + (i + 1) = i0 + 1 + i by omega]
    simpa using g2

mutual
theorem RelA.length : ∀ (v : AV) (T : Ty) (cs : List Value), fitsV v T = true → RelA w S mu H v cs → cs.length = T.size
  | .int .., T, cs, hf, h => by cases T <;> simp [fitsV] at hf; simp only [RelA] at h; simp [h.1, Ty.size]
  | .bool .., T, cs, hf, h => by cases T <;> simp [fitsV] at hf; simp only [RelA] at h; simp [h, Ty.size]
  | .str .., T, cs, hf, h => by cases T <;> simp [fitsV] at hf; simp only [RelA] at h; simp [h.1, Ty.size]
  | .sl .., T, cs, hf, h => by cases T <;> simp [fitsV] at hf; simp only [RelA] at h; obtain ⟨_, _, _, h, _⟩ := h; simp [h, Ty.size]
  | .rsl .., T, cs, hf, h => by cases T <;> simp [fitsV] at hf; simp only [RelA] at h; obtain ⟨_, _, h, _⟩ := h; simp [h, Ty.size]
  | .ptr .., T, cs, hf, h => by cases T <;> simp [fitsV] at hf; simp only [RelA] at h; obtain ⟨_, _, h, _⟩ := h; simp [h, Ty.size]
  | .cptr .., T, cs, hf, h => by cases T <;> simp [fitsV] at hf; simp only [RelA] at h; obtain ⟨_, _, h, _⟩ := h; simp [h, Ty.size]
  | .nilp, T, cs, hf, h => by cases T <;> simp [fitsV] at hf; simp only [RelA] at h; simp [h, Ty.size]
  | .fn .., T, cs, hf, h => by cases T <;> simp [fitsV] at hf; simp only [RelA] at h; obtain ⟨_, h, _⟩ := h; simp [h, Ty.size]
  | .nilfn, T, cs, hf, h => by cases T <;> simp [fitsV] at hf; simp only [RelA] at h; simp [h, Ty.size]
  | .arr n e xs, T, cs, hf, h => by
    cases T <;> simp [fitsV] at hf
    obtain ⟨rfl, he⟩ := hf
    have := Ty.same_eq _ _ he
    subst this
    simp only [RelA] at h
    simp only [Ty.size]
    rw [h.2.length, h.1]
  | .st vs, T, cs, hf, h => by
    cases T <;> simp [fitsV] at hf
    simp only [RelA] at h
    simp only [Ty.size]
    exact RelAs.length vs _ cs hf h
  | .undef, T, _, hf, _ => by cases T <;> simp [fitsV] at hf
  | .tup _, T, _, hf, _ => by cases T <;> simp [fitsV] at hf
theorem RelAs.length : ∀ (vs : List AV) (ts : List Ty) (cs : List Value), fitsVs vs ts = true → RelAs w S mu H vs cs → cs.length = Ty.sizes ts
  | [], [], cs, _, h => by simp only [RelAs] at h; simp [h, Ty.sizes]
  | [], _ :: _, _, hf, _ => by simp [fitsVs] at hf
  | _ :: _, [], _, hf, _ => by simp [fitsVs] at hf
  | v :: vs, t :: ts, cs, hf, h => by
    simp [fitsVs] at hf
    simp only [RelAs] at h
    obtain ⟨c1, c2, rfl, h1, h2⟩ := h
    simp [Ty.sizes, RelA.length v t c1 hf.1 h1, RelAs.length vs ts c2 hf.2 h2]
end

theorem RelAs_get : ∀ {vs : List AV} {ts : List Ty} {i : Nat} {cs : List Value}, fitsVs vs ts = true → RelAs w S mu H vs cs → i < ts.length →
    ∃ pre c post, cs = pre ++ (c ++ post) ∧ pre.length = Ty.sizes (ts.take i) ∧ RelA w S mu H (vs.getD i .undef) c ∧ fitsV (vs.getD i .undef) (ts.getD i .op) = true
  | [], [], _, _, _, _, h => by simp at h
  | [], _ :: _, _, _, hf, _, _ => by simp [fitsVs] at hf
  | _ :: _, [], _, _, hf, _, _ => by simp [fitsVs] at hf
  | v :: vs, t :: ts, 0, cs, hf, h, _ => by
    simp [fitsVs] at hf
    simp only [RelAs] at h
    obtain ⟨c1, c2, h0, h1, h2⟩ := h
    exact ⟨[], c1, c2, by simpa using h0, by simp [Ty.sizes], by simpa using h1, by simpa using hf.1⟩
  | v :: vs, t :: ts, i + 1, cs, hf, h, hi => by
    simp [fitsVs] at hf
    simp only [RelAs] at h
    obtain ⟨c1, c2, h0, h1, h2⟩ := h
    obtain ⟨pre, c, post, g0, g1, g2, g3⟩ := RelAs_get hf.2 h2 (i := i) (by simpa using hi)
    exact ⟨c1 ++ pre, c, post, by rw [h0, g0]; simp, by simp [Ty.sizes, RelA.length v t c1 hf.1 h1, g1], by simpa using g2, by simpa using g3⟩

/-! ### Places -/
theorem offP_fld : ∀ {T : Ty} {p : List PStep} {o i : Nat} {ts : List Ty}, offP T p = some o → endP T p = .st ts → i < ts.length →
    offP T (p ++ [.fld i]) = some (o + Ty.sizes (ts.take i)) ∧ endP T (p ++ [.fld i]) = ts.getD i .op
  | T, [], o, i, ts, h, he, hi => by
    simp only [offP, Option.some.injEq] at h
    simp only [endP] at he
    subst h; subst he
    simp [offP, endP, hi]
  | .st us, .fld k :: p, o, i, ts, h, he, hi => by
    simp only [offP] at h
    split at h
    · rename_i hk
      simp only [Option.map_eq_some_iff] at h
      obtain ⟨o', h1, rfl⟩ := h
      simp only [endP] at he
      obtain ⟨g1, g2⟩ := offP_fld h1 he hi
      simp only [List.cons_append, offP, endP, hk, if_true, g1, g2, Option.map_some]
      exact ⟨by congr 1; omega, trivial⟩
    · cases h
  | .arr n e, .idx k :: p, o, i, ts, h, he, hi => by
    simp only [offP] at h
    split at h
    · rename_i hk
      simp only [Option.map_eq_some_iff] at h
      obtain ⟨o', h1, rfl⟩ := h
      simp only [endP] at he
      obtain ⟨g1, g2⟩ := offP_fld h1 he hi
      simp only [List.cons_append, offP, endP, hk, if_true, g1, g2, Option.map_some]
      exact ⟨by congr 1; omega, trivial⟩
    · cases h
  | .int _, .fld _ :: _, _, _, _, h, _, _ | .int _, .idx _ :: _, _, _, _, h, _, _ | .bool, .fld _ :: _, _, _, _, h, _, _ | .bool, .idx _ :: _, _, _, _, h, _, _
  | .str, .fld _ :: _, _, _, _, h, _, _ | .str, .idx _ :: _, _, _, _, h, _, _ | .sl _, .fld _ :: _, _, _, _, h, _, _ | .sl _, .idx _ :: _, _, _, _, h, _, _
  | .st _, .idx _ :: _, _, _, _, h, _, _ | .arr _ _, .fld _ :: _, _, _, _, h, _, _ | .ptr, .fld _ :: _, _, _, _, h, _, _ | .ptr, .idx _ :: _, _, _, _, h, _, _
  | .fn, .fld _ :: _, _, _, _, h, _, _ | .fn, .idx _ :: _, _, _, _, h, _, _ | .op, .fld _ :: _, _, _, _, h, _, _ | .op, .idx _ :: _, _, _, _, h, _, _ => by simp [offP] at h
theorem offP_idx : ∀ {T : Ty} {p : List PStep} {o n k : Nat} {e : Ty}, offP T p = some o → endP T p = .arr n e → k < n →
    offP T (p ++ [.idx k]) = some (o + k * e.size) ∧ endP T (p ++ [.idx k]) = e
  | T, [], o, n, k, e, h, he, hi => by
    simp only [offP, Option.some.injEq] at h
    simp only [endP] at he
    subst h; subst he
    simp [offP, endP, hi]
  | .st us, .fld j :: p, o, n, k, e, h, he, hi => by
    simp only [offP] at h
    split at h
    · rename_i hk
      simp only [Option.map_eq_some_iff] at h
      obtain ⟨o', h1, rfl⟩ := h
      simp only [endP] at he
      obtain ⟨g1, g2⟩ := offP_idx h1 he hi
      simp only [List.cons_append, offP, endP, hk, if_true, g1, g2, Option.map_some]
      exact ⟨by congr 1; omega, trivial⟩
    · cases h
  | .arr m f, .idx j :: p, o, n, k, e, h, he, hi => by
    simp only [offP] at h
    split at h
    · rename_i hk
      simp only [Option.map_eq_some_iff] at h
      obtain ⟨o', h1, rfl⟩ := h
      simp only [endP] at he
      obtain ⟨g1, g2⟩ := offP_idx h1 he hi
      simp only [List.cons_append, offP, endP, hk, if_true, g1, g2, Option.map_some]
      exact ⟨by congr 1; omega, trivial⟩
    · cases h
  | .int _, .fld _ :: _, _, _, _, _, h, _, _ | .int _, .idx _ :: _, _, _, _, _, h, _, _ | .bool, .fld _ :: _, _, _, _, _, h, _, _ | .bool, .idx _ :: _, _, _, _, _, h, _, _
  | .str, .fld _ :: _, _, _, _, _, h, _, _ | .str, .idx _ :: _, _, _, _, _, h, _, _ | .sl _, .fld _ :: _, _, _, _, _, h, _, _ | .sl _, .idx _ :: _, _, _, _, _, h, _, _
  | .st _, .idx _ :: _, _, _, _, _, h, _, _ | .arr _ _, .fld _ :: _, _, _, _, _, h, _, _ | .ptr, .fld _ :: _, _, _, _, _, h, _, _ | .ptr, .idx _ :: _, _, _, _, _, h, _, _
  | .fn, .fld _ :: _, _, _, _, _, h, _, _ | .fn, .idx _ :: _, _, _, _, _, h, _, _ | .op, .fld _ :: _, _, _, _, _, h, _, _ | .op, .idx _ :: _, _, _, _, _, h, _, _ => by simp [offP] at h

theorem place_fld {blk : Blk} {p : List PStep} {o i : Nat} {ts : List Ty} (h : blk.place p = some o) (he : blk.ty p = .st ts) (hi : i < ts.length) :
    blk.place (p ++ [.fld i]) = some (o + Ty.sizes (ts.take i)) ∧ blk.ty (p ++ [.fld i]) = ts.getD i .op := by
  cases blk with
  | var t v fz => exact offP_fld h he hi
  | fix e xs fz =>
    cases p with
    | nil => simp [Blk.place] at h
    | cons s p =>
      cases s with
      | fld j => simp [Blk.place] at h
      | idx k =>
        simp only [Blk.place] at h
        split at h
        · rename_i hk
          simp only [Option.map_eq_some_iff] at h
          obtain ⟨o', h1, rfl⟩ := h
          obtain ⟨g1, g2⟩ := offP_fld h1 he hi
          simp only [List.cons_append, Blk.place, Blk.ty, hk, if_true, g1, g2, Option.map_some]
          exact ⟨by congr 1; omega, trivial⟩
        · cases h
  | resv => simp [Blk.place] at h
  | dead => simp [Blk.place] at h
  | ext e n => simp [Blk.place] at h
  | grw e n => simp [Blk.place] at h
theorem place_idx {blk : Blk} {p : List PStep} {o n k : Nat} {e : Ty} (h : blk.place p = some o) (he : blk.ty p = .arr n e) (hi : k < n) :
    blk.place (p ++ [.idx k]) = some (o + k * e.size) ∧ blk.ty (p ++ [.idx k]) = e := by
  cases blk with
  | var t v fz => exact offP_idx h he hi
  | fix f xs fz =>
    cases p with
    | nil => simp [Blk.place] at h
    | cons s p =>
      cases s with
      | fld j => simp [Blk.place] at h
      | idx j =>
        simp only [Blk.place] at h
        split at h
        · rename_i hk
          simp only [Option.map_eq_some_iff] at h
          obtain ⟨o', h1, rfl⟩ := h
          obtain ⟨g1, g2⟩ := offP_idx h1 he hi
          simp only [List.cons_append, Blk.place, Blk.ty, hk, if_true, g1, g2, Option.map_some]
          exact ⟨by congr 1; omega, trivial⟩
        · cases h
  | resv => simp [Blk.place] at h
  | dead => simp [Blk.place] at h
  | ext e n => simp [Blk.place] at h
  | grw e n => simp [Blk.place] at h

/-! ### Loads -/
theorem run_loadVar {t : TypeId} {T : Ty} (ht : tyOK P t T = true) {b o : Nat} {cs : List Value} (hl : ∀ (k : Nat) (v : Value), cs[k]? = some v → w.cell? ⟨b, o + k, none⟩ = some v) (hc : cs.length = T.size) :
    ∃ u, (loadVar t ⟨b, o, none⟩).run P w = .ok u w ∧ Val T.isAgg cs u := by
  unfold loadVar
  simp only [Sem.run_bind, tyOK_isAgg ht w, Result.andThen_ok]
  cases hT : T.isAgg with
  | true =>
    refine ⟨.agg cs.toArray, ?_, by simp [Val]⟩
    have := run_loadCells_list (P := P) w ⟨b, o, none⟩ cs (fun j v hj => by rw [addr_add]; exact hl j v hj)
    simp only [if_true, Sem.run_bind, tyOK_size ht w, Result.andThen_ok, ← hc, this, Sem.run_pure]
  | false =>
    have h1 : T.size = 1 := by cases T <;> simp [Ty.isAgg] at hT <;> simp [Ty.size]
    rw [h1] at hc
    match cs, hc with
    | [c], _ =>
      refine ⟨c, ?_, by simp [Val]⟩
      have := hl 0 c rfl
      simp only [Nat.add_zero] at this
      simp [this]

mutual
theorem ofD_fits : ∀ (T : Ty) (d : D) (cs : List Value), RelD w S T cs d → fits (ofD T d) T = true
  | .int k, d, _, _ => by simp [ofD, fits]
  | .bool, d, _, _ => by simp [ofD, fits]
  | .str, d, _, _ => by simp [ofD, fits]
  | .sl f, d, _, _ => by simp [ofD, fits, same_refl]
  | .ptr, d, _, h => by simp [RelD] at h
  | .fn, d, _, h => by simp [RelD] at h
  | .op, d, _, h => by simp [RelD] at h
  | .arr n f, d, _, _ => by simp [ofD, fits, same_refl]
  | .st ts, d, cs, h => by simp only [ofD, fits]; simp only [RelD] at h; exact ofDs_fits ts 0 d cs h
theorem ofDs_fits : ∀ (ts : List Ty) (i : Nat) (d : D) (cs : List Value), RelDs w S ts i cs d → fitss (ofDs ts i d) ts = true
  | [], _, _, _, _ => by simp [ofDs, fitss]
  | t :: ts, i, d, cs, h => by
    simp only [RelDs] at h
    obtain ⟨c1, c2, _, h1, h2⟩ := h
    simp [ofDs, fitss, ofD_fits t _ c1 h1, ofDs_fits ts (i + 1) d c2 h2]
end
end
end Go.Vc
