/- Operations on memory, part H: stores, and what changes a block in place. -/
import Derived.Test.YtgcakbnkeiajeaaVcOpG
import Derived.Laws.CopyRow
set_option linter.unusedVariables false
set_option linter.unusedSimpArgs false
namespace Go.Vc

section
variable {P : Program} {w : World} {S : SetS} {mu : Mu} {H : Heap} {env : Env} {a : Act} {nt : Nat} {K : Env → Heap → Prop}

/-! ### Cells are of one cell each -/
theorem cells1_L {sz : Nat} {R : List Value → D → Prop} (hR : ∀ cs d, R cs d → ∀ u ∈ cs, u.oneCell' = true) : ∀ (cs : List Value) (xs : List D), RelL sz R cs xs → ∀ u ∈ cs, u.oneCell' = true
  | cs, [], h => by simp [RelL] at h; subst h; simp
  | cs, x :: xs, h => by
    obtain ⟨c1, c2, rfl, _, h2, h3⟩ := h
    intro u hu
    rcases List.mem_append.1 hu with hu | hu
    · exact hR _ _ h2 u hu
    · exact cells1_L hR _ _ h3 u hu
mutual
theorem cells1_D : ∀ (t : Ty) (cs : List Value) (d : D), RelD w S t cs d → ∀ u ∈ cs, u.oneCell' = true
  | .int k, cs, d, h => by simp only [RelD] at h; rw [h.1]; simp [Value.oneCell']
  | .bool, cs, d, h => by simp only [RelD] at h; rw [h]; simp [Value.oneCell']
  | .str, cs, d, h => by simp only [RelD] at h; rw [h.1]; simp [Value.oneCell']
  | .sl e, cs, d, h => by simp only [RelD] at h; obtain ⟨a, n, c, rfl, _⟩ := h; simp [Value.oneCell']
  | .st ts, cs, d, h => by simp only [RelD] at h; exact cells1_Ds ts 0 cs d h
  | .arr n e, cs, d, h => by simp only [RelD] at h; exact cells1_L (fun cs d hd => cells1_D e cs d hd) _ _ h.2
  | .ptr, _, _, h => by simp [RelD] at h
  | .fn, _, _, h => by simp [RelD] at h
  | .op, _, _, h => by simp [RelD] at h
theorem cells1_Ds : ∀ (ts : List Ty) (i : Nat) (cs : List Value) (d : D), RelDs w S ts i cs d → ∀ u ∈ cs, u.oneCell' = true
  | [], _, cs, d, h => by simp only [RelDs] at h; subst h; simp
  | t :: ts, i, cs, d, h => by
    simp only [RelDs] at h
    obtain ⟨c1, c2, rfl, h1, h2⟩ := h
    intro u hu
    rcases List.mem_append.1 hu with hu | hu
    · exact cells1_D t c1 _ h1 u hu
    · exact cells1_Ds ts (i + 1) c2 d h2 u hu
end
mutual
theorem cells1_A : ∀ (v : AV) (cs : List Value), RelA w S mu H v cs → ∀ u ∈ cs, u.oneCell' = true
  | .undef, _, h => by simp [RelA] at h
  | .int k n, cs, h => by simp only [RelA] at h; rw [h.1]; simp [Value.oneCell']
  | .bool b, cs, h => by simp only [RelA] at h; rw [h]; simp [Value.oneCell']
  | .str s, cs, h => by simp only [RelA] at h; rw [h.1]; simp [Value.oneCell']
  | .sl e xs t, cs, h => by simp only [RelA] at h; obtain ⟨_, _, _, rfl, _⟩ := h; simp [Value.oneCell']
  | .rsl id e1 off len, cs, h => by simp only [RelA] at h; obtain ⟨_, _, rfl, _⟩ := h; simp [Value.oneCell']
  | .st vs, cs, h => by simp only [RelA] at h; exact cells1_As vs cs h
  | .arr n e xs, cs, h => by simp only [RelA] at h; exact cells1_L (fun cs d hd => cells1_D e cs d hd) _ _ h.2
  | .ptr id p ty, cs, h => by simp only [RelA] at h; obtain ⟨_, _, rfl, _⟩ := h; simp [Value.oneCell']
  | .cptr t d, cs, h => by simp only [RelA] at h; obtain ⟨_, _, rfl, _⟩ := h; simp [Value.oneCell']
  | .nilp, cs, h => by simp only [RelA] at h; rw [h]; simp [Value.oneCell']
  | .fn f caps, cs, h => by simp only [RelA] at h; obtain ⟨_, rfl, _⟩ := h; simp [Value.oneCell']
  | .nilfn, cs, h => by simp only [RelA] at h; rw [h]; simp [Value.oneCell']
  | .tup _, _, h => by simp [RelA] at h
theorem cells1_As : ∀ (vs : List AV) (cs : List Value), RelAs w S mu H vs cs → ∀ u ∈ cs, u.oneCell' = true
  | [], cs, h => by simp only [RelAs] at h; subst h; simp
  | v :: vs, cs, h => by
    simp only [RelAs] at h
    obtain ⟨c1, c2, rfl, h1, h2⟩ := h
    intro u hu
    rcases List.mem_append.1 hu with hu | hu
    · exact cells1_A v c1 h1 u hu
    · exact cells1_As vs c2 h2 u hu
end

/-! ### Data, changed at a place -/
theorem over_nest {pre c post c' : List Value} {o' : Nat} (h : o' + c'.length ≤ c.length) : over (pre ++ (c ++ post)) (pre.length + o') c' = pre ++ (over c o' c' ++ post) := by
  unfold over
  rw [List.take_length_add_append, List.take_append_of_le_length (by omega), show pre.length + o' + c'.length = pre.length + (o' + c'.length) by omega, List.drop_length_add_append, List.drop_append_of_le_length h]
  simp only [List.append_assoc]

theorem RelDs_congr : ∀ {ts : List Ty} {i0 : Nat} {cs : List Value} {d d' : D}, (∀ j, i0 ≤ j → d'.fld j = d.fld j) → RelDs w S ts i0 cs d → RelDs w S ts i0 cs d'
  | [], _, cs, d, d', _, h => by simpa only [RelDs] using h
  | t :: ts, i0, cs, d, d', he, h => by
    simp only [RelDs] at h ⊢
    obtain ⟨c1, c2, rfl, h1, h2⟩ := h
    exact ⟨c1, c2, rfl, by rw [he i0 (Nat.le_refl _)]; exact h1, RelDs_congr (fun j hj => he j (by omega)) h2⟩

theorem RelDs_over : ∀ {ts : List Ty} {i0 i : Nat} {cs : List Value} {d d' : D} {c : List Value} {x : D}, RelDs w S ts i0 cs d → i < ts.length → RelD w S (ts.getD i .op) c x →
    d'.fld (i0 + i) = x → (∀ j, j ≠ i0 + i → d'.fld j = d.fld j) → RelDs w S ts i0 (over cs (Ty.sizes (ts.take i)) c) d' ∧ Ty.sizes (ts.take i) + c.length ≤ cs.length
  | [], _, _, _, _, _, _, _, _, h, _, _, _ => by simp at h
  | t :: ts, i0, 0, cs, d, d', c, x, h, _, hr, he, ho => by
    simp only [RelDs] at h ⊢
    obtain ⟨c1, c2, rfl, h1, h2⟩ := h
    simp only [List.getD_cons_zero, Nat.add_zero] at hr he
    have hl : c.length = c1.length := by rw [hr.length, h1.length]
    have := over_mid (pre := []) (c := c1) (c' := c) (post := c2) hl
    simp only [List.nil_append, List.length_nil] at this
    simp only [List.take_zero, Ty.sizes]
    rw [this]
    exact ⟨⟨c, c2, rfl, by rw [he]; exact hr, RelDs_congr (fun j hj => ho j (by omega)) h2⟩, by simp; omega⟩
  | t :: ts, i0, i + 1, cs, d, d', c, x, h, hi, hr, he, ho => by
    simp only [RelDs] at h ⊢
    obtain ⟨c1, c2, rfl, h1, h2⟩ := h
    obtain ⟨g1, g2⟩ := RelDs_over (i := i) (c := c) (x := x) (d' := d') h2 (by simpa using hi) (by simpa using hr) (by rw [← he]; congr 1; omega) (fun j hj => ho j (by omega))
    have hlen := h1.length
    simp only [List.take_succ_cons, Ty.sizes]
    have := over_nest (pre := c1) (c := c2) (post := []) (c' := c) (o' := Ty.sizes (ts.take i)) (by omega)
    simp only [List.append_nil] at this
    rw [← hlen, this]
    exact ⟨⟨c1, _, rfl, by rw [ho i0 (by omega)]; exact h1, g1⟩, by simp; omega⟩

theorem padSet_get : ∀ (l : List D) (i : Nat) (x : D) (j : Nat), (padSet l i x).getD j (.i 0) = if j = i then x else l.getD j (.i 0)
  | [], 0, x, 0 => by simp [padSet]
  | [], 0, x, j + 1 => by simp [padSet]
  | [], i + 1, x, 0 => by simp [padSet]
  | [], i + 1, x, j + 1 => by
    have := padSet_get [] i x j
    simp [padSet] at this ⊢
    rw [this]
  | y :: r, 0, x, 0 => by simp [padSet]
  | y :: r, 0, x, j + 1 => by simp [padSet]
  | y :: r, i + 1, x, 0 => by simp [padSet]
  | y :: r, i + 1, x, j + 1 => by
    have := padSet_get r i x j
    simp [padSet] at this ⊢
    rw [this]

theorem setD'_rel : ∀ {T : Ty} {p : List PStep} {d : D} {cs : List Value} {o : Nat} {y : AV} {c : List Value}, RelD w S T cs d → offP T p = some o → fits y (endP T p) = true → RelA w S mu H y c →
    RelD w S T (over cs o c) (setD' T p d y) ∧ o + c.length ≤ cs.length
  | T, [], d, cs, o, y, c, h, ho, hf, hr => by
    simp only [offP, Option.some.injEq] at ho
    subst ho
    simp only [endP] at hf
    have h1 := toD_rel y T c hf hr
    have hl : c.length = cs.length := by rw [h1.length, h.length]
    have := over_mid (pre := []) (c := cs) (c' := c) (post := []) hl
    simp only [List.nil_append, List.length_nil, List.append_nil] at this
    simp only [setD']
    rw [this]
    exact ⟨h1, by omega⟩
  | .st ts, .fld i :: p, d, cs, o, y, c, h, ho, hf, hr => by
    simp only [offP] at ho
    split at ho
    · rename_i hi
      simp only [Option.map_eq_some_iff] at ho
      obtain ⟨o', h1, rfl⟩ := ho
      simp only [RelD] at h
      obtain ⟨pre, c0, post, rfl, q1, q2⟩ := RelDs_get h hi
      rw [Nat.zero_add] at q2
      obtain ⟨g1, g2⟩ := setD'_rel q2 h1 (by simpa only [endP] using hf) hr
      obtain ⟨k1, k2⟩ := RelDs_over (d' := setD' (.st ts) (.fld i :: p) d y) h hi g1 (by
        rw [Nat.zero_add]
        show (padSet d.fs i _).getD i (.i 0) = _
        rw [padSet_get, if_pos rfl]) (fun j hj => by
        rw [Nat.zero_add] at hj
        show (padSet d.fs i _).getD j (.i 0) = _
        rw [padSet_get, if_neg hj]
        rfl)
      rw [← q1] at k1 ⊢
      rw [over_mid (by rw [over_length g2])] at k1
      rw [over_nest g2]
      exact ⟨by simpa only [RelD] using k1, by simp; omega⟩
    · cases ho
  | .arr n e, .idx k :: p, d, cs, o, y, c, h, ho, hf, hr => by
    simp only [offP] at ho
    split at ho
    · rename_i hi
      simp only [Option.map_eq_some_iff] at ho
      obtain ⟨o', h1, rfl⟩ := ho
      simp only [RelD] at h
      obtain ⟨hn, h⟩ := h
      obtain ⟨pre, c0, post, rfl, q1, q3, q2⟩ := RelL_get h (getD_of (show k < d.fs.length by omega))
      obtain ⟨g1, g2⟩ := setD'_rel q2 h1 (by simpa only [endP] using hf) hr
      obtain ⟨k1, k2⟩ := RelL_over h (show k < d.fs.length by omega) (by rw [over_length g2]; exact q3) g1
      rw [← q1] at k1 ⊢
      rw [over_mid (by rw [over_length g2])] at k1
      rw [over_nest g2]
      refine ⟨?_, by simp; omega⟩
      simp only [RelD, setD']
      exact ⟨by show (d.fs.set k _).length = n; rw [List.length_set]; exact hn, k1⟩
    · cases ho
  | .int _, .fld _ :: _, _, _, _, _, _, _, h, _, _ | .int _, .idx _ :: _, _, _, _, _, _, _, h, _, _ | .bool, .fld _ :: _, _, _, _, _, _, _, h, _, _ | .bool, .idx _ :: _, _, _, _, _, _, _, h, _, _
  | .str, .fld _ :: _, _, _, _, _, _, _, h, _, _ | .str, .idx _ :: _, _, _, _, _, _, _, h, _, _ | .sl _, .fld _ :: _, _, _, _, _, _, _, h, _, _ | .sl _, .idx _ :: _, _, _, _, _, _, _, h, _, _
  | .st _, .idx _ :: _, _, _, _, _, _, _, h, _, _ | .arr _ _, .fld _ :: _, _, _, _, _, _, _, h, _, _ | .ptr, .fld _ :: _, _, _, _, _, _, _, h, _, _ | .ptr, .idx _ :: _, _, _, _, _, _, _, h, _, _
  | .fn, .fld _ :: _, _, _, _, _, _, _, h, _, _ | .fn, .idx _ :: _, _, _, _, _, _, _, h, _, _ | .op, .fld _ :: _, _, _, _, _, _, _, h, _, _ | .op, .idx _ :: _, _, _, _, _, _, _, h, _, _ => by simp [offP] at h

theorem setA_rel : ∀ {T : Ty} {p : List PStep} {v : AV} {cs : List Value} {o : Nat} {y : AV} {c : List Value}, fitsV v T = true → RelA w S mu H v cs → offP T p = some o → fitsV y (endP T p) = true → (flds p = true ∨ fits y (endP T p) = true) → RelA w S mu H y c →
    fitsV (setA p v y) T = true ∧ RelA w S mu H (setA p v y) (over cs o c) ∧ o + c.length ≤ cs.length
  | T, [], v, cs, o, y, c, hv, h, ho, hf, _, hr => by
    simp only [offP, Option.some.injEq] at ho
    subst ho
    simp only [endP] at hf
    have hl : c.length = cs.length := by rw [RelA.length _ _ _ hf hr, RelA.length _ _ _ hv h]
    have := over_mid (pre := []) (c := cs) (c' := c) (post := []) hl
    simp only [List.nil_append, List.length_nil, List.append_nil] at this
    simp only [setA]
    rw [this]
    exact ⟨hf, hr, by omega⟩
  | .st ts, .fld i :: p, v, cs, o, y, c, hv, h, ho, hf, hd, hr => by
    simp only [offP] at ho
    split at ho
    · rename_i hi
      simp only [Option.map_eq_some_iff] at ho
      obtain ⟨o', h1, rfl⟩ := ho
      cases v <;> simp [fitsV] at hv
      rename_i vs
      simp only [RelA] at h
      obtain ⟨pre, c0, post, rfl, q1, q2, q3⟩ := RelAs_get hv h hi
      obtain ⟨g0, g1, g2⟩ := setA_rel q3 q2 h1 (by simpa only [endP] using hf) (by simpa only [endP, flds] using hd) hr
      have k0 := fitsVs_set hv g0 hi
      obtain ⟨k1, k2⟩ := RelAs_over hv h hi g0 g1
      rw [← q1] at k1 ⊢
      rw [over_mid (by rw [over_length g2])] at k1
      rw [over_nest g2]
      simp only [setA, fitsV, RelA]
      exact ⟨k0, k1, by simp; omega⟩
    · cases ho
  | .arr n e, .idx k :: p, v, cs, o, y, c, hv, h, ho, hf, hd, hr => by
    simp only [offP] at ho
    split at ho
    · rename_i hi
      simp only [Option.map_eq_some_iff] at ho
      obtain ⟨o', h1, rfl⟩ := ho
      cases v <;> simp [fitsV] at hv
      rename_i m f xs
      obtain ⟨rfl, hs⟩ := hv
      have := Ty.same_eq _ _ hs
      subst this
      simp only [RelA] at h
      obtain ⟨hn, h⟩ := h
      have hfd : fits y (endP f p) = true := by
        rcases hd with hd | hd
        · simp [flds] at hd
        · simpa only [endP] using hd
      obtain ⟨pre, c0, post, rfl, q1, q3, q2⟩ := RelL_get h (getD_of (show k < xs.length by omega))
      obtain ⟨g1, g2⟩ := setD'_rel q2 h1 hfd hr
      obtain ⟨k1, k2⟩ := RelL_over h (show k < xs.length by omega) (by rw [over_length g2]; exact q3) g1
      rw [← q1] at k1 ⊢
      rw [over_mid (by rw [over_length g2])] at k1
      rw [over_nest g2]
      simp only [setA, fitsV, RelA]
      exact ⟨by simp [same_refl], ⟨by simpa using hn, k1⟩, by simp; omega⟩
    · cases ho
  | .int _, .fld _ :: _, _, _, _, _, _, _, _, h, _, _, _ | .int _, .idx _ :: _, _, _, _, _, _, _, _, h, _, _, _ | .bool, .fld _ :: _, _, _, _, _, _, _, _, h, _, _, _ | .bool, .idx _ :: _, _, _, _, _, _, _, _, h, _, _, _
  | .str, .fld _ :: _, _, _, _, _, _, _, _, h, _, _, _ | .str, .idx _ :: _, _, _, _, _, _, _, _, h, _, _, _ | .sl _, .fld _ :: _, _, _, _, _, _, _, _, h, _, _, _ | .sl _, .idx _ :: _, _, _, _, _, _, _, _, h, _, _, _
  | .st _, .idx _ :: _, _, _, _, _, _, _, _, h, _, _, _ | .arr _ _, .fld _ :: _, _, _, _, _, _, _, _, h, _, _, _ | .ptr, .fld _ :: _, _, _, _, _, _, _, _, h, _, _, _ | .ptr, .idx _ :: _, _, _, _, _, _, _, _, h, _, _, _
  | .fn, .fld _ :: _, _, _, _, _, _, _, _, h, _, _, _ | .fn, .idx _ :: _, _, _, _, _, _, _, _, h, _, _, _ | .op, .fld _ :: _, _, _, _, _, _, _, _, h, _, _, _ | .op, .idx _ :: _, _, _, _, _, _, _, _, h, _, _, _ => by simp [offP] at h

/-! ### A block's row turns in place -/
theorem row_turn (h : Rel nt w S mu H env a) {id b : Nat} {blk blk' : Blk} {cur cur' : Array Value} {ty : TypeId} (hid : H[id]? = some blk) (hl : blk.live = true) (hmu : mu id = some b)
    (hb : w.heap[b]? = some (.cells cur ty (0, 0))) (hsz : cur'.size = cur.size) (hS : ∀ o, S b o → cur'[o]? = cur[o]?) (S1 : Nat → Prop) (hS1 : ∀ o, S1 o → o < cur'.size) (hc : Compat blk blk' (some b) (some b))
    (hB : ∀ w' S' H', w'.heap[b]? = some (.cells cur' ty (0, 0)) → Turn w S mu H w' S' mu H' → (∀ o, S' b o ↔ S b o ∨ S1 o) → RelB w' S' mu H' id blk') :
    ∃ S', Rel nt (w.setRow b cur') S' mu (H.set id blk') env a ∧ Ev w S mu H (w.setRow b cur') S' mu (H.set id blk') ∧ (∀ o, S' b o ↔ S b o ∨ S1 o) := by
  have hlen : id < H.length := by
    rcases Nat.lt_or_ge id H.length with h' | h'
    · exact h'
    · rw [List.getElem?_eq_none h'] at hid; cases hid
  have hnew : (w.setRow b cur').heap[b]? = some (.cells cur' ty (0, 0)) := setRow_heap w b cur cur' ty (0, 0) hb
  have hold : ∀ k, k ≠ b → (w.setRow b cur').heap[k]? = w.heap[k]? := fun k hk => setRow_other w b k cur' hk
  let S' : SetS := fun c o => S c o ∨ (c = b ∧ S1 o)
  have hSb : ∀ o, S' b o ↔ S b o ∨ S1 o := fun o => ⟨fun hs => hs.elim .inl (fun hs => .inr hs.2), fun hs => hs.elim .inl (fun hs => .inr ⟨rfl, hs⟩)⟩
  have hT : Turn w S mu H (w.setRow b cur') S' mu (H.set id blk') := by
    refine ⟨⟨fun c o hs => ?_, fun c o hs => .inl hs⟩, fun c cs t fr hc' => ?_, fun j bk hj => ?_⟩
    · by_cases hcb : c = b
      · subst hcb
        rw [cell_of hnew, cell_of hb]
        exact hS o hs
      · exact cell_same (hold c hcb)
    · by_cases hcb : c = b
      · subst hcb
        rw [hb] at hc'
        injection hc' with hc'
        injection hc' with e1 e2 e3
        subst e1; subst e2; subst e3
        exact ⟨cur', _, hnew, hsz⟩
      · exact ⟨cs, fr, by rw [hold c hcb, hc'], rfl⟩
    · rw [set_get hlen]
      by_cases hj' : j = id
      · subst hj'
        rw [hid] at hj
        injection hj with hj
        subst hj
        exact ⟨blk', by simp, by rw [hmu]; exact hc⟩
      · exact ⟨bk, by rw [if_neg hj', hj], Compat.refl _ _⟩
  refine ⟨S', h.mono hT ?_, ⟨hT, by simp, rfl, rfl, rfl, fun c hc' hm => hold c (fun e => hm id (by rw [hmu, e])), fun c o hs => ?_, fun j c hj => .inr ⟨j, hj⟩⟩, hSb⟩
  · refine turn_sound (fun j => j = id) h.heap hT (fun j hj => ?_) (fun j bk c hj hbj hlv hm => ?_) (fun j bk hj hbj => ?_) (fun i j bi bj c hi hij hbi hbj li lj mi mj => ?_) (fun c o hs => ?_) (fun i c hi => ?_)
    · rw [set_get hlen, if_neg hj]
      exact ⟨rfl, rfl⟩
    · have hcb : c ≠ b := fun e => hj (h.heap.inj j id bk blk c hbj hid hlv hl hm (by rw [hmu, e]))
      refine ⟨hold c hcb, fun o hs => ?_⟩
      rcases hs with hs | ⟨e, _⟩
      · exact hs
      · exact absurd e hcb
    · subst hj
      rw [set_get hlen, if_pos rfl] at hbj
      injection hbj with hbj
      subst hbj
      exact hB (w.setRow b cur') S' (H.set j blk') hnew hT hSb
    · subst hi
      have hji : ¬ j = i := fun e => hij e.symm
      rw [set_get hlen, if_neg hji] at hbj
      exact hij (h.heap.inj i j blk bj c hid hbj hl lj mi mj)
    · by_cases hcb : c = b
      · subst hcb
        rw [cell_of hnew]
        have ho : o < cur'.size := by
          rcases hs with hs | ⟨_, hs⟩
          · obtain ⟨v, hv⟩ := h.heap.there c o hs
            rw [cell_of hb] at hv
            rw [hsz]
            rcases Nat.lt_or_ge o cur.size with hh | hh
            · exact hh
            · rw [Array.getElem?_eq_none hh] at hv; cases hv
          · exact hS1 o hs
        exact ⟨cur'[o], by simp [ho]⟩
      · rcases hs with hs | ⟨e, _⟩
        · obtain ⟨v, hv⟩ := h.heap.there c o hs
          exact ⟨v, by rw [cell_same (hold c hcb)]; exact hv⟩
        · exact absurd e hcb
    · have := h.heap.mus i c hi
      simpa using this
  · rcases hs with hs | ⟨rfl, _⟩
    · exact .inl hs
    · exact .inr (.inr ⟨id, hmu⟩)

/-- Nothing turns but how a block is seen. -/
theorem ghost_turn (h : Rel nt w S mu H env a) {id b : Nat} {blk blk' : Blk} {cur : Array Value} {ty : TypeId} (hid : H[id]? = some blk) (hl : blk.live = true) (hmu : mu id = some b)
    (hb : w.heap[b]? = some (.cells cur ty (0, 0))) (S1 : Nat → Prop) (hS1 : ∀ o, S1 o → o < cur.size) (hc : Compat blk blk' (some b) (some b))
    (hB : ∀ w' S' H', w'.heap[b]? = some (.cells cur ty (0, 0)) → Turn w S mu H w' S' mu H' → (∀ o, S' b o ↔ S b o ∨ S1 o) → RelB w' S' mu H' id blk') :
    ∃ S', Rel nt w S' mu (H.set id blk') env a ∧ Ev w S mu H w S' mu (H.set id blk') ∧ (∀ o, S' b o ↔ S b o ∨ S1 o) := by
  have := row_turn h hid hl hmu hb rfl (fun _ _ => rfl) S1 hS1 hc hB
  rwa [setRow_self w b cur ty (0, 0) hb] at this

theorem run_storeVar {t : TypeId} {T : Ty} (ht : tyOK P t T = true) {b o : Nat} {cur : Array Value} {ty : TypeId} {v : Value} (hb : w.heap[b]? = some (.cells cur ty (0, 0))) (hc : v.cells.size = T.size) (hfit : o + v.cells.toList.length ≤ cur.size) (h1 : ∀ u ∈ v.cells.toList, u.oneCell' = true) :
    (storeVar t ⟨b, o, none⟩ v).run P w = .ok () (w.setRow b (over cur.toList o v.cells.toList).toArray) := by
  unfold storeVar
  have := run_storeCells_at P b o ty v.cells.toList 0 cur w hb (by simpa using hfit) h1
  simp only [Nat.add_zero] at this
  simp only [Sem.run_bind, tyOK_size ht w, Result.andThen_ok, hc, ne_eq, not_true_eq_false, if_false, Sem.run_pure, this, over, List.append_assoc]

theorem op_store (hR : Rel nt w S mu H env a) {o : Oper} {t : Ty} {x y : Ar} {ty : TypeId} {X Y : Operand} (ho : o.op = .store ty X Y) (hd : o.dst = none) (ht : tyOK P ty t = true) (hx : arOK X x = true) (hy : arOK Y y = true)
    (orc : Orc) (base : Nat) (hK : awpOp orc base (.store t x y) env H K) (Q : Exit → Act → World → Prop) : o.wp P a w (OpPost nt w S mu H K) Q := by
  have r1 := arOK_rel hR.env hx
  have r2 := arOK_rel hR.env hy
  simp only [awpOp] at hK
  cases hv : x.ev env <;> simp only [hv] at hK
  rename_i id p u
  rw [hv] at r1
  obtain ⟨b, o', e1, blk, hb, hu, hpl⟩ := r1.ptr
  cases hs : (Ty.same u t && fitsV (y.ev env) t) with
  | false => simp [hs] at hK
  | true =>
    simp only [hs, cond_true, nrm_eq] at hK
    simp only [Bool.and_eq_true] at hs
    obtain ⟨hs, hf⟩ := hs
    have := Ty.same_eq _ _ hs
    subst this
    obtain ⟨hval, hrel⟩ := r2.val hf
    have hclen : (a.eval Y).cells.toList.length = u.size := RelA.length _ _ _ hf hrel
    have h1 := cells1_A _ _ hrel
    have hfin : ∀ {blk' : Blk} {cur : Array Value} {ty' : TypeId}, blk.live = true → mu id = some b → w.heap[b]? = some (.cells cur ty' (0, 0)) → (∀ o, ¬ S b o) → o' + (a.eval Y).cells.toList.length ≤ cur.size → Compat blk blk' (some b) (some b) →
        (∀ w' S' H', w'.heap[b]? = some (.cells (over cur.toList o' (a.eval Y).cells.toList).toArray ty' (0, 0)) → Turn w S mu H w' S' mu H' → (∀ o, S' b o ↔ S b o ∨ False) → RelB w' S' mu H' id blk') →
        K env (H.set id blk') → o.wp P a w (OpPost nt w S mu H K) Q := by
      intro blk' cur ty' hl hmu hc hS hfit hcom hB hK
      have hol := over_length (cs := cur.toList) (off := o') (c := (a.eval Y).cells.toList) (by simpa using hfit)
      obtain ⟨S', g1, g2, g3⟩ := row_turn hR hb hl hmu hc (by simpa using hol) (fun o hs => absurd hs (hS o)) (fun _ => False) (fun _ h => h.elim) hcom hB
      unfold Oper.wp
      simp only [execOp, ho, e1, Instr.storeAt, Instr.sureAddr, Sem.run_bind, Sem.run_pure, Result.andThen_ok, run_storeVar ht hc (by simpa using hclen) hfit h1, Oper.upon, hd]
      exact ⟨env, _, S', mu, g1, g2, hK⟩
    cases hbk : H.getD id .dead with
    | var T v fz =>
      cases fz with
      | true => simp only [hbk] at hK
      | false =>
      simp only [hbk] at hK
      have hb' := getD_blk hbk (by simp)
      rw [hb] at hb'
      injection hb' with hb'
      subst hb'
      obtain ⟨g1, g2, g3⟩ := hpl (.inl ⟨_, _, _, rfl⟩)
      simp only [Blk.place] at g2
      simp only [Blk.ty] at g3
      cases hfl : (flds p || fits (y.ev env) u) with
      | false => simp [hfl] at hK
      | true =>
        simp only [hfl, cond_true] at hK
        have hB := hR.heap.blk id _ hb
        obtain ⟨b', cells, ty', k1, k2, k3, k4, k5, k6⟩ := hB
        rw [g1] at k1
        injection k1 with k1
        subst k1
        obtain ⟨q1, q2, q3⟩ := setA_rel k5 k4 g2 (by rw [g3]; exact hf) (by rw [g3]; simpa using hfl) hrel
        have hol := over_length q3
        refine hfin rfl g1 k2 (k6 rfl) (by simpa using q3) (.inr ⟨_, _, rfl, rfl, fun h => h⟩) (fun w' S' H' hc hT hS => ⟨b, _, ty', g1, hc, by simpa [k3] using hol, RelA.mono hT _ _ q2, q1, fun _ o hs => ?_⟩) hK
        rcases (hS o).1 hs with hs | hs
        · exact k6 rfl o hs
        · exact hs
    | fix e xs fz =>
      cases fz with
      | true => simp only [hbk] at hK
      | false =>
      simp only [hbk] at hK
      have hb' := getD_blk hbk (by simp)
      rw [hb] at hb'
      injection hb' with hb'
      subst hb'
      obtain ⟨g1, g2, g3⟩ := hpl (.inr ⟨_, _, _, rfl⟩)
      cases p with
      | nil => simp at hK
      | cons s q =>
        cases s with
        | fld j => simp at hK
        | idx n =>
          simp only [Blk.place] at g2
          simp only [Blk.ty] at g3
          cases hfl : fits (y.ev env) u with
          | false => simp [hfl] at hK
          | true =>
            simp only [hfl, cond_true] at hK
            split at g2
            · rename_i hn
              simp only [Option.map_eq_some_iff] at g2
              obtain ⟨o'', g2, rfl⟩ := g2
              have hB := hR.heap.blk id _ hb
              obtain ⟨b', cells, ty', k1, k2, k3, k4, k5, k6⟩ := hB
              rw [g1] at k1
              injection k1 with k1
              subst k1
              have hx := k5 n _ (getD_of hn)
              obtain ⟨q1, q2⟩ := setD'_rel hx g2 (by rw [g3]; exact hfl) hrel
              have hle : n * e.size + e.size ≤ cells.toList.length := by
                have : (n + 1) * e.size ≤ xs.length * e.size := Nat.mul_le_mul_right _ hn
                rw [Nat.add_mul] at this
                simp at this ⊢
                omega
              have hsl : ((cells.toList.drop (n * e.size)).take e.size).length = e.size := by simp at hle ⊢; omega
              have hfit : n * e.size + o'' + (a.eval Y).cells.toList.length ≤ cells.toList.length := by rw [hsl] at q2; omega
              have hpre : (cells.toList.take (n * e.size)).length = n * e.size := by simp at hle ⊢; omega
              have hov : over cells.toList (n * e.size + o'') (a.eval Y).cells.toList = cells.toList.take (n * e.size) ++ (over ((cells.toList.drop (n * e.size)).take e.size) o'' (a.eval Y).cells.toList ++ (cells.toList.drop (n * e.size)).drop e.size) := by
                have := over_nest (pre := cells.toList.take (n * e.size)) (c := (cells.toList.drop (n * e.size)).take e.size) (post := (cells.toList.drop (n * e.size)).drop e.size) q2
                rw [List.take_append_drop, List.take_append_drop, hpre] at this
                exact this
              have hol := over_length hfit
              refine hfin rfl g1 k2 (k6 rfl) (by simpa using hfit) (.inr (.inl ⟨_, _, rfl, by simp, rfl⟩)) (fun w' S' H' hc hT hS => ⟨b, _, ty', g1, hc, k3, by simpa [hol] using k4, fun j y' hj => ?_, fun _ o hs => ?_⟩) hK
              · rw [List.getElem?_set] at hj
                by_cases hjn : n = j
                · subst hjn
                  simp only [if_true, hn] at hj
                  injection hj with hj
                  subst hj
                  have : (List.drop (n * e.size) (over cells.toList (n * e.size + o'') (a.eval Y).cells.toList)) = over ((cells.toList.drop (n * e.size)).take e.size) o'' (a.eval Y).cells.toList ++ (cells.toList.drop (n * e.size)).drop e.size := by
                    rw [hov]
                    have := List.drop_left (l₁ := cells.toList.take (n * e.size)) (l₂ := over ((cells.toList.drop (n * e.size)).take e.size) o'' (a.eval Y).cells.toList ++ (cells.toList.drop (n * e.size)).drop e.size)
                    rwa [hpre] at this
                  simp only [List.toList_toArray]
                  rw [this]
                  have hol2 := over_length q2
                  rw [hsl] at hol2
                  have := List.take_left (l₁ := over ((cells.toList.drop (n * e.size)).take e.size) o'' (a.eval Y).cells.toList) (l₂ := (cells.toList.drop (n * e.size)).drop e.size)
                  rw [hol2] at this
                  rw [this]
                  exact RelD.mono hT.stab _ _ _ q1
                · rw [if_neg hjn] at hj
                  have hjl : j < xs.length := by
                    rcases Nat.lt_or_ge j xs.length with h | h
                    · exact h
                    · rw [List.getElem?_eq_none h] at hj; cases hj
                  have hy := k5 j _ hj
                  have : (List.drop (j * e.size) (over cells.toList (n * e.size + o'') (a.eval Y).cells.toList)).take e.size = (cells.toList.drop (j * e.size)).take e.size := by
                    apply List.ext_getElem?
                    intro k
                    by_cases hk : k < e.size
                    · rw [List.getElem?_take_of_lt hk, List.getElem?_take_of_lt hk, List.getElem?_drop, List.getElem?_drop, over_get _ _ _ hfit, if_neg]
                      rw [hsl] at q2
                      rintro ⟨m1, m2⟩
                      rcases Nat.lt_or_ge j n with hh | hh
                      · have : (j + 1) * e.size ≤ n * e.size := Nat.mul_le_mul_right _ hh
                        rw [Nat.add_mul] at this
                        omega
                      · have : (n + 1) * e.size ≤ j * e.size := Nat.mul_le_mul_right _ (by omega)
                        rw [Nat.add_mul] at this
                        omega
                    · rw [List.getElem?_eq_none (by simp; omega), List.getElem?_eq_none (by simp; omega)]
                  simp only [List.toList_toArray]
                  rw [this]
                  exact RelD.mono hT.stab _ _ _ hy
              · rcases (hS o).1 hs with hs | hs
                · exact k6 rfl o hs
                · exact hs
            · cases g2
    | resv => simp only [hbk] at hK
    | dead => simp only [hbk] at hK
    | ext e n => simp only [hbk] at hK
end
end Go.Vc
