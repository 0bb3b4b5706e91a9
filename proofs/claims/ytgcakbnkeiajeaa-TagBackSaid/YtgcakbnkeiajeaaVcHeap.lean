/- The state: what keeps the relation when a block turns. -/
import Derived.Test.YtgcakbnkeiajeaaVcOpF
import Derived.Test.YtgcakbnkeiajeaaVcAwp
import Derived.Below
set_option linter.unusedVariables false
set_option linter.unusedSimpArgs false
namespace Go.Vc

abbrev SetS := Nat → Nat → Prop

structure Ev (w : World) (S : SetS) (mu : Mu) (H : Heap) (w' : World) (S' : SetS) (mu' : Mu) (H' : Heap) : Prop where
  turn : Turn w S mu H w' S' mu' H'
  size : w.heap.size ≤ w'.heap.size
  os : w'.os = w.os
  tape : w'.tape = w.tape
  output : w'.output = w.output
  frame : ∀ b, b < w.heap.size → (∀ id, mu id ≠ some b) → w'.heap[b]? = w.heap[b]?
  newS : ∀ b o, S' b o → S b o ∨ w.heap.size ≤ b ∨ ∃ id, mu id = some b
  newM : ∀ id b, mu' id = some b → w.heap.size ≤ b ∨ ∃ id', mu id' = some b

theorem Ev.refl (w : World) (S : SetS) (mu : Mu) (H : Heap) : Ev w S mu H w S mu H :=
  ⟨Turn.refl _ _ _ _, Nat.le_refl _, rfl, rfl, rfl, fun _ _ _ => rfl, fun _ _ h => .inl h, fun id b h => .inr ⟨id, h⟩⟩
theorem Ev.trans {w w1 w2 : World} {S S1 S2 : SetS} {mu mu1 mu2 : Mu} {H H1 H2 : Heap} (h : Ev w S mu H w1 S1 mu1 H1) (k : Ev w1 S1 mu1 H1 w2 S2 mu2 H2) : Ev w S mu H w2 S2 mu2 H2 :=
  ⟨h.turn.trans k.turn, Nat.le_trans h.size k.size, k.os.trans h.os, k.tape.trans h.tape, k.output.trans h.output,
    fun b hb hm => by
      rw [k.frame b (Nat.lt_of_lt_of_le hb h.size) (fun id hid => by
        rcases h.newM id b hid with h1 | ⟨id', h1⟩
        · omega
        · exact hm id' h1)]
      exact h.frame b hb hm,
    fun b o hs => by
      rcases k.newS b o hs with h1 | h1 | ⟨id, h1⟩
      · exact h.newS b o h1
      · exact .inr (.inl (Nat.le_trans h.size h1))
      · exact .inr (h.newM id b h1),
    fun id b hid => by
      rcases k.newM id b hid with h1 | ⟨id', h1⟩
      · exact .inl (Nat.le_trans h.size h1)
      · exact h.newM id' b h1⟩

/-- The relation between a state of the abstract machine and the model's. -/
structure Rel (nt : Nat) (w : World) (S : SetS) (mu : Mu) (H : Heap) (env : Env) (a : Act) : Prop where
  env : RelE w S mu H env a
  heap : RelH w S mu H
  tmps : a.tmps.size = nt
  defers : a.defers = []

section
variable {P : Program} {w w' : World} {S S' : SetS} {mu mu' : Mu} {H H' : Heap} {env : Env} {a : Act} {nt : Nat}

theorem RelE.mono (h : Turn w S mu H w' S' mu' H') (hE : RelE w S mu H env a) : RelE w' S' mu' H' env a := fun t => (hE t).mono h _ _

theorem RelE.put (hE : RelE w S mu H env a) {d : Nat} {av : AV} {v : Value} (hd : d < a.tmps.size) (hr : RelV w S mu H av v) : RelE w S mu H (put env d av) (a.put (some d) v) := by
  intro t
  simp only [Vc.put, get, Act.put, Array.getD_eq_getD_getElem?, Array.getElem?_setIfInBounds]
  by_cases h : d = t
  · subst h
    simp [hd, hr]
  · have : Nat.beq d t = false := by
      cases hh : Nat.beq d t with
      | false => rfl
      | true => exact absurd (by simpa using hh) h
    simp only [this, cond_false, if_neg h]
    simpa [Array.getD_eq_getD_getElem?] using hE t

theorem Rel.put (h : Rel nt w S mu H env a) {d : Nat} {av : AV} {v : Value} (hd : d < nt) (hr : RelV w S mu H av v) : Rel nt w S mu H (put env d av) (a.put (some d) v) :=
  ⟨h.env.put (by rw [h.tmps]; exact hd) hr, h.heap, by simp [Act.put, h.tmps], by simp [Act.put, h.defers]⟩

theorem Rel.mono (h : Rel nt w S mu H env a) (hT : Turn w S mu H w' S' mu' H') (hH : RelH w' S' mu' H') : Rel nt w' S' mu' H' env a :=
  ⟨h.env.mono hT, hH, h.tmps, h.defers⟩

/-- Draws alone. -/
theorem Ev.drawn (n : Nat) : Ev w S mu H { w with drawn := n } S mu H :=
  ⟨⟨⟨fun _ _ _ => rfl, fun _ _ h => h⟩, fun b c t fr h => ⟨c, fr, h, rfl⟩, fun id b h => ⟨b, h, Compat.refl _ _⟩⟩, Nat.le_refl _, rfl, rfl, rfl, fun _ _ _ => rfl, fun _ _ h => .inl h, fun id b h => .inr ⟨id, h⟩⟩
theorem RelH.drawn (h : RelH w S mu H) (n : Nat) : RelH { w with drawn := n } S mu H :=
  ⟨fun id b hb => by
    have hT : Turn w S mu H { w with drawn := n } S mu H := (Ev.drawn n).turn
    have := h.blk id b hb
    cases b with
    | resv => trivial
    | dead => trivial
    | var t v fz =>
      obtain ⟨b, cells, ty, h1, h2, h3, h4, h5, h6⟩ := this
      exact ⟨b, cells, ty, h1, h2, h3, RelA.mono hT _ _ h4, h5, h6⟩
    | fix e xs fz =>
      obtain ⟨b, cells, ty, h1, h2, h3, h4, h5, h6⟩ := this
      exact ⟨b, cells, ty, h1, h2, h3, h4, fun j x hj => RelD.mono hT.stab _ _ _ (h5 j x hj), h6⟩
    | ext e m => exact this, h.inj, h.there, h.mus⟩
theorem Rel.drawn (h : Rel nt w S mu H env a) (n : Nat) : Rel nt { w with drawn := n } S mu H env a := h.mono (Ev.drawn n).turn (h.heap.drawn n)

/-- What keeps the heap's relation: blocks for which 'ch' holds may turn. -/
theorem turn_sound (ch : Nat → Prop) (h : RelH w S mu H) (hT : Turn w S mu H w' S' mu' H')
    (hsame : ∀ j, ¬ ch j → H'[j]? = H[j]? ∧ mu' j = mu j)
    (hold : ∀ j blk b, ¬ ch j → H[j]? = some blk → blk.live = true → mu j = some b → w'.heap[b]? = w.heap[b]? ∧ ∀ o, S' b o → S b o)
    (hch : ∀ j blk, ch j → H'[j]? = some blk → RelB w' S' mu' H' j blk)
    (hinj : ∀ i j bi bj b, ch i → i ≠ j → H'[i]? = some bi → H'[j]? = some bj → bi.live = true → bj.live = true → mu' i = some b → mu' j = some b → False)
    (hthere : ∀ b o, S' b o → ∃ v, w'.cell? ⟨b, o, none⟩ = some v) (hmus : ∀ i b, mu' i = some b → b < w'.heap.size) : RelH w' S' mu' H' := by
  refine ⟨fun j blk hj => ?_, fun i j bi bj b hi hj li lj mi mj => ?_, hthere, hmus⟩
  · by_cases hc : ch j
    · exact hch j blk hc hj
    · obtain ⟨e1, e2⟩ := hsame j hc
      rw [e1] at hj
      have hB := h.blk j blk hj
      cases blk with
      | resv => trivial
      | dead => trivial
      | var t v fz =>
        obtain ⟨b, cells, ty, h1, h2, h3, h4, h5, h6⟩ := hB
        obtain ⟨g1, g2⟩ := hold j _ b hc hj rfl h1
        exact ⟨b, cells, ty, by rw [e2, h1], by rw [g1, h2], h3, RelA.mono hT _ _ h4, h5, fun hf o hs => h6 hf o (g2 o hs)⟩
      | fix e xs fz =>
        obtain ⟨b, cells, ty, h1, h2, h3, h4, h5, h6⟩ := hB
        obtain ⟨g1, g2⟩ := hold j _ b hc hj rfl h1
        exact ⟨b, cells, ty, by rw [e2, h1], by rw [g1, h2], h3, h4, fun k x hk => RelD.mono hT.stab _ _ _ (h5 k x hk), fun hf o hs => h6 hf o (g2 o hs)⟩
      | ext e m =>
        obtain ⟨h0, h1⟩ := hB
        refine ⟨h0, ?_⟩
        rcases h1 with ⟨h1, h2⟩ | ⟨b, cells, ty, h1, h2, h3, h4⟩
        · exact .inl ⟨h1, by rw [e2, h2]⟩
        · obtain ⟨g1, g2⟩ := hold j _ b hc hj rfl h1
          exact .inr ⟨b, cells, ty, by rw [e2, h1], by rw [g1, h2], h3, fun o hs => h4 o (g2 o hs)⟩
  · by_cases hij : i = j
    · exact hij
    · exfalso
      by_cases ci : ch i
      · exact hinj i j bi bj b ci hij hi hj li lj mi mj
      · by_cases cj : ch j
        · exact hinj j i bj bi b cj (fun e => hij e.symm) hj hi lj li mj mi
        · obtain ⟨e1, e2⟩ := hsame i ci
          obtain ⟨e3, e4⟩ := hsame j cj
          exact hij (h.inj i j bi bj b (by rw [← e1]; exact hi) (by rw [← e3]; exact hj) li lj (by rw [← e2]; exact mi) (by rw [← e4]; exact mj))

/-! ### A new block -/
def upd (mu : Mu) (id b : Nat) : Mu := fun j => if j = id then some b else mu j

theorem heap_push_old (w : World) (o : Obj) (k : Nat) (h : k < w.heap.size) : (w.alloc o).heap[k]? = w.heap[k]? := Go.RowKit.Below.heap_alloc w o k h
theorem heap_push_new (w : World) (o : Obj) : (w.alloc o).heap[w.heap.size]? = some o := by
  show (w.heap.push o)[w.heap.size]? = some o
  simp

theorem cell_of {b o : Nat} {cells : Array Value} {t : TypeId} {fr : Nat × Nat} (h : w.heap[b]? = some (.cells cells t fr)) : w.cell? ⟨b, o, none⟩ = cells[o]? := by
  simp [World.cell?, h]
theorem cell_same {b o : Nat} (h : w'.heap[b]? = w.heap[b]?) : w'.cell? ⟨b, o, none⟩ = w.cell? ⟨b, o, none⟩ := by
  simp [World.cell?, h]
theorem lt_of_heap {b : Nat} {o : Obj} (h : w.heap[b]? = some o) : b < w.heap.size := by
  rcases Nat.lt_or_ge b w.heap.size with h' | h'
  · exact h'
  · rw [Array.getElem?_eq_none h'] at h; cases h
theorem lt_of_cell {b o : Nat} {v : Value} (h : w.cell? ⟨b, o, none⟩ = some v) : b < w.heap.size := by
  unfold World.cell? at h
  split at h
  · rename_i hb; exact lt_of_heap hb
  · cases h

theorem set_get {H : Heap} {id j : Nat} {blk : Blk} (hid : id < H.length) : (H.set id blk)[j]? = if j = id then some blk else H[j]? := by
  rw [List.getElem?_set]
  by_cases h : id = j
  · subst h; simp [hid]
  · rw [if_neg h, if_neg (fun e => h e.symm)]

/-- A new block of the model's for a block of ours. -/
theorem new_row (h : Rel nt w S mu H env a) {id : Nat} {blk blk0 : Blk} {cells : Array Value} {ty : TypeId} (hid : H[id]? = some blk0) (hcom : Compat blk0 blk (mu id) (some w.heap.size)) (S1 : Nat → Prop)
    (hS1 : ∀ o, S1 o → o < cells.size)
    (hB : ∀ w' S' mu' H', w'.heap[w.heap.size]? = some (.cells cells ty (0, 0)) → Turn w S mu H w' S' mu' H' → mu' id = some w.heap.size → (∀ o, S' w.heap.size o ↔ S1 o) → RelB w' S' mu' H' id blk)
    {w' : World} (hw : ∃ n, w' = { w.alloc (.cells cells ty) with drawn := n }) :
    ∃ S' mu', Rel nt w' S' mu' (H.set id blk) env a ∧ Ev w S mu H w' S' mu' (H.set id blk) ∧ mu' id = some w.heap.size ∧ (∀ o, S1 o → S' w.heap.size o) := by
  obtain ⟨n, rfl⟩ := hw
  have hlen : id < H.length := by
    rcases Nat.lt_or_ge id H.length with h' | h'
    · exact h'
    · rw [List.getElem?_eq_none h'] at hid; cases hid
  let W : World := { w.alloc (.cells cells ty) with drawn := n }
  have hold : ∀ k, k < w.heap.size → W.heap[k]? = w.heap[k]? := fun k hk => heap_push_old w _ k hk
  have hnew : W.heap[w.heap.size]? = some (.cells cells ty (0, 0)) := heap_push_new w _
  have hSlt : ∀ b o, S b o → b < w.heap.size := fun b o hs => by obtain ⟨v, hv⟩ := h.heap.there b o hs; exact lt_of_cell hv
  let S' : SetS := fun b o => S b o ∨ (b = w.heap.size ∧ S1 o)
  let mu' : Mu := upd mu id w.heap.size
  have hT : Turn w S mu H W S' mu' (H.set id blk) := by
    refine ⟨⟨fun b o hs => cell_same (hold b (hSlt b o hs)), fun b o hs => .inl hs⟩, fun b c t fr hb => ⟨c, fr, by rw [hold b (lt_of_heap hb), hb], rfl⟩, fun j b hb => ?_⟩
    rw [set_get hlen]
    by_cases hj : j = id
    · subst hj
      rw [hid] at hb
      injection hb with hb
      subst hb
      exact ⟨blk, by simp, by simpa [mu', upd] using hcom⟩
    · exact ⟨b, by rw [if_neg hj, hb], by simp only [mu', upd, if_neg hj]; exact Compat.refl _ _⟩
  have hSnew : ∀ o, S' w.heap.size o ↔ S1 o := fun o => ⟨fun hs => by
    rcases hs with hs | ⟨_, hs⟩
    · exact absurd (hSlt _ _ hs) (Nat.lt_irrefl _)
    · exact hs, fun hs => .inr ⟨rfl, hs⟩⟩
  have hmuid : mu' id = some w.heap.size := by simp [mu', upd]
  refine ⟨S', mu', h.mono hT ?_, ⟨hT, by simp, rfl, rfl, rfl, fun b hb _ => hold b hb, fun b o hs => ?_, fun j b hj => ?_⟩, hmuid, fun o ho => (hSnew o).2 ho⟩
  · refine turn_sound (fun j => j = id) h.heap hT (fun j hj => ?_) (fun j bk b hj hb hl hm => ?_) (fun j bk hj hb => ?_) (fun i j bi bj b hi hij hbi hbj li lj mi mj => ?_) (fun b o hs => ?_) (fun i b hi => ?_)
    · rw [set_get hlen, if_neg hj]
      exact ⟨rfl, by simp only [mu', upd, if_neg hj]⟩
    · have hlt := h.heap.mus j b hm
      refine ⟨hold b hlt, fun o hs => ?_⟩
      rcases hs with hs | ⟨e, _⟩
      · exact hs
      · omega
    · subst hj
      rw [set_get hlen, if_pos rfl] at hb
      injection hb with hb
      subst hb
      exact hB W S' mu' (H.set j blk) hnew hT hmuid hSnew
    · subst hi
      rw [hmuid] at mi
      injection mi with mi
      subst mi
      have hji : ¬ j = i := fun e => hij e.symm
      simp only [mu', upd, if_neg hji] at mj
      have := h.heap.mus j _ mj
      omega
    · rcases hs with hs | ⟨rfl, hs⟩
      · obtain ⟨v, hv⟩ := h.heap.there b o hs
        exact ⟨v, by rw [cell_same (hold b (hSlt b o hs))]; exact hv⟩
      · rw [cell_of hnew]
        have := hS1 o hs
        exact ⟨cells[o], by simp [this]⟩
    · simp only [mu', upd] at hi
      split at hi
      · injection hi with hi; subst hi; simp
      · have := h.heap.mus i b hi; simp; omega
  · rcases hs with hs | ⟨rfl, _⟩
    · exact .inl hs
    · exact .inr (.inl (Nat.le_refl _))
  · simp only [mu', upd] at hj
    split at hj
    · injection hj with hj; left; omega
    · exact .inr ⟨j, hj⟩

/-- A new block of the model's for a block that was kept free. -/
theorem new_block (h : Rel nt w S mu H env a) {id : Nat} {blk : Blk} {cells : Array Value} {ty : TypeId} (hid : H[id]? = some .resv) (S1 : Nat → Prop)
    (hS1 : ∀ o, S1 o → o < cells.size)
    (hB : ∀ w' S' mu' H', w'.heap[w.heap.size]? = some (.cells cells ty (0, 0)) → Turn w S mu H w' S' mu' H' → mu' id = some w.heap.size → (∀ o, S' w.heap.size o ↔ S1 o) → RelB w' S' mu' H' id blk)
    {w' : World} (hw : ∃ n, w' = { w.alloc (.cells cells ty) with drawn := n }) :
    ∃ S' mu', Rel nt w' S' mu' (H.set id blk) env a ∧ Ev w S mu H w' S' mu' (H.set id blk) ∧ mu' id = some w.heap.size ∧ (∀ o, S1 o → S' w.heap.size o) :=
  new_row h hid trivial S1 hS1 hB hw

/-- A new block of the model's that is nobody's. -/
theorem new_junk (h : Rel nt w S mu H env a) {o : Obj} {w' : World} (hw : ∃ n, w' = { w.alloc o with drawn := n }) :
    Rel nt w' S mu H env a ∧ Ev w S mu H w' S mu H := by
  obtain ⟨n, rfl⟩ := hw
  let W : World := { w.alloc o with drawn := n }
  have hold : ∀ k, k < w.heap.size → W.heap[k]? = w.heap[k]? := fun k hk => heap_push_old w _ k hk
  have hSlt : ∀ b o, S b o → b < w.heap.size := fun b o hs => by obtain ⟨v, hv⟩ := h.heap.there b o hs; exact lt_of_cell hv
  have hT : Turn w S mu H W S mu H :=
    ⟨⟨fun b o hs => cell_same (hold b (hSlt b o hs)), fun b o hs => hs⟩, fun b c t fr hb => ⟨c, fr, by rw [hold b (lt_of_heap hb), hb], rfl⟩, fun j b hb => ⟨b, hb, Compat.refl _ _⟩⟩
  refine ⟨h.mono hT ?_, hT, by simp, rfl, rfl, rfl, fun b hb _ => hold b hb, fun b o hs => .inl hs, fun j b hj => .inr ⟨j, hj⟩⟩
  refine turn_sound (fun _ => False) h.heap hT (fun _ _ => ⟨rfl, rfl⟩) (fun j bk b _ _ _ hm => ⟨hold b (h.heap.mus j b hm), fun o hs => hs⟩) (fun _ _ h => h.elim) (fun i j bi bj b hi => hi.elim) (fun b o hs => ?_) (fun i b hi => ?_)
  · obtain ⟨v, hv⟩ := h.heap.there b o hs
    exact ⟨v, by rw [cell_same (hold b (hSlt b o hs))]; exact hv⟩
  · have := h.heap.mus i b hi
    simp
    omega

/-- A new block of the model's that is data from now on. -/
theorem new_data (h : Rel nt w S mu H env a) {cells : Array Value} {ty : TypeId} :
    ∃ S', Rel nt (w.alloc (.cells cells ty)) S' mu H env a ∧ Ev w S mu H (w.alloc (.cells cells ty)) S' mu H ∧ ∀ o, o < cells.size → S' w.heap.size o := by
  have hold : ∀ k, k < w.heap.size → (w.alloc (.cells cells ty)).heap[k]? = w.heap[k]? := fun k hk => heap_push_old w _ k hk
  have hnew : (w.alloc (.cells cells ty)).heap[w.heap.size]? = some (.cells cells ty (0, 0)) := heap_push_new w _
  have hSlt : ∀ b o, S b o → b < w.heap.size := fun b o hs => by obtain ⟨v, hv⟩ := h.heap.there b o hs; exact lt_of_cell hv
  let S' : SetS := fun b o => S b o ∨ (b = w.heap.size ∧ o < cells.size)
  have hT : Turn w S mu H (w.alloc (.cells cells ty)) S' mu H :=
    ⟨⟨fun b o hs => cell_same (hold b (hSlt b o hs)), fun b o hs => .inl hs⟩, fun b c t fr hb => ⟨c, fr, by rw [hold b (lt_of_heap hb), hb], rfl⟩, fun j b hb => ⟨b, hb, Compat.refl _ _⟩⟩
  refine ⟨S', h.mono hT ?_, ⟨hT, by simp, rfl, rfl, rfl, fun b hb _ => hold b hb, fun b o hs => ?_, fun j b hj => .inr ⟨j, hj⟩⟩, fun o ho => .inr ⟨rfl, ho⟩⟩
  · refine turn_sound (fun _ => False) h.heap hT (fun _ _ => ⟨rfl, rfl⟩) (fun j bk b _ _ _ hm => ?_) (fun _ _ h => h.elim) (fun i j bi bj b hi => hi.elim) (fun b o hs => ?_) (fun i b hi => ?_)
    · have hlt := h.heap.mus j b hm
      refine ⟨hold b hlt, fun o hs => ?_⟩
      rcases hs with hs | ⟨e, _⟩
      · exact hs
      · omega
    · rcases hs with hs | ⟨rfl, hs⟩
      · obtain ⟨v, hv⟩ := h.heap.there b o hs
        exact ⟨v, by rw [cell_same (hold b (hSlt b o hs))]; exact hv⟩
      · rw [cell_of hnew]
        exact ⟨cells[o], by simp [hs]⟩
    · have := h.heap.mus i b hi
      simp
      omega
  · rcases hs with hs | ⟨rfl, _⟩
    · exact .inl hs
    · exact .inr (.inl (Nat.le_refl _))

/-- A growing row of nothing. -/
theorem mk_turn (h : Rel nt w S mu H env a) {id : Nat} {e : Ty} (hid : H[id]? = some .resv) (he : 0 < e.size) :
    ∃ mu', Rel nt w S mu' (H.set id (.ext e 0)) env a ∧ Ev w S mu H w S mu' (H.set id (.ext e 0)) := by
  have hlen : id < H.length := by
    rcases Nat.lt_or_ge id H.length with h' | h'
    · exact h'
    · rw [List.getElem?_eq_none h'] at hid; cases hid
  let mu' : Mu := fun j => if j = id then none else mu j
  have hT : Turn w S mu H w S mu' (H.set id (.ext e 0)) := by
    refine ⟨Stab.refl _ _, fun b c t fr hb => ⟨c, fr, hb, rfl⟩, fun j b hb => ?_⟩
    rw [set_get hlen]
    by_cases hj : j = id
    · subst hj
      rw [hid] at hb
      injection hb with hb
      subst hb
      exact ⟨_, by rw [if_pos rfl], trivial⟩
    · exact ⟨b, by rw [if_neg hj, hb], by simp only [mu', if_neg hj]; exact Compat.refl _ _⟩
  refine ⟨mu', h.mono hT ?_, hT, Nat.le_refl _, rfl, rfl, rfl, fun _ _ _ => rfl, fun b o hs => .inl hs, fun j b hj => ?_⟩
  · refine turn_sound (fun j => j = id) h.heap hT (fun j hj => ?_) (fun j bk b hj hb hl hm => ⟨rfl, fun o hs => hs⟩) (fun j bk hj hb => ?_) (fun i j bi bj b hi hij hbi hbj li lj mi mj => ?_) h.heap.there (fun i b hi => ?_)
    · rw [set_get hlen, if_neg hj]
      exact ⟨rfl, by simp only [mu', if_neg hj]⟩
    · subst hj
      rw [set_get hlen, if_pos rfl] at hb
      injection hb with hb
      subst hb
      exact ⟨he, .inl ⟨rfl, by simp [mu']⟩⟩
    · subst hi
      simp [mu'] at mi
    · simp only [mu'] at hi
      split at hi
      · cases hi
      · exact h.heap.mus i b hi
  · simp only [mu'] at hj
    split at hj
    · cases hj
    · exact .inr ⟨j, hj⟩
end
end Go.Vc
