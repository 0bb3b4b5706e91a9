/- A part of the proof of the seat's laws: VcHeap, VcOpG, VcOpH, VcOpI. It states no claim by itself. -/
import Derived.Test.YtiddoflcajgjjaaVcOpF
import Derived.Test.YtiddoflcajgjjaaVcAwp
import Derived.Below
import Derived.Laws.CopyRow
import Derived.Great.BuildSlice
import Derived.Laws.MakeOwn
/- The state: what keeps the relation when a block turns. -/
set_option linter.unusedVariables false
set_option linter.unusedSimpArgs false
namespace Go.Vc

abbrev SetS := Nat → Nat → Prop

structure Ev (w : World) (S : SetS) (mu : Mu) (H : Heap) (w' : World) (S' : SetS) (mu' : Mu) (H' : Heap) : Prop where
  turn : Turn w S mu H w' S' mu' H'
  size : w.heap.size ≤ w'.heap.size
  os : w'.os = w.os
  tape : w'.tape = w.tape
  output : w'.output = w.output
  frame : ∀ b, b < w.heap.size → (∀ id, mu id ≠ some b) → w'.heap[b]? = w.heap[b]?
  newS : ∀ b o, S' b o → S b o ∨ w.heap.size ≤ b ∨ ∃ id, mu id = some b
  newM : ∀ id b, mu' id = some b → w.heap.size ≤ b ∨ ∃ id', mu id' = some b

theorem Ev.refl (w : World) (S : SetS) (mu : Mu) (H : Heap) : Ev w S mu H w S mu H :=
  ⟨Turn.refl _ _ _ _, Nat.le_refl _, rfl, rfl, rfl, fun _ _ _ => rfl, fun _ _ h => .inl h, fun id b h => .inr ⟨id, h⟩⟩
theorem Ev.trans {w w1 w2 : World} {S S1 S2 : SetS} {mu mu1 mu2 : Mu} {H H1 H2 : Heap} (h : Ev w S mu H w1 S1 mu1 H1) (k : Ev w1 S1 mu1 H1 w2 S2 mu2 H2) : Ev w S mu H w2 S2 mu2 H2 :=
  ⟨h.turn.trans k.turn, Nat.le_trans h.size k.size, k.os.trans h.os, k.tape.trans h.tape, k.output.trans h.output,
    fun b hb hm => by
      rw [k.frame b (Nat.lt_of_lt_of_le hb h.size) (fun id hid => by
        rcases h.newM id b hid with h1 | ⟨id', h1⟩
        · omega
        · exact hm id' h1)]
      exact h.frame b hb hm,
    fun b o hs => by
      rcases k.newS b o hs with h1 | h1 | ⟨id, h1⟩
      · exact h.newS b o h1
      · exact .inr (.inl (Nat.le_trans h.size h1))
      · exact .inr (h.newM id b h1),
    fun id b hid => by
      rcases k.newM id b hid with h1 | ⟨id', h1⟩
      · exact .inl (Nat.le_trans h.size h1)
      · exact h.newM id' b h1⟩

/-- The relation between a state of the abstract machine and the model's. -/
structure Rel (nt : Nat) (w : World) (S : SetS) (mu : Mu) (H : Heap) (env : Env) (a : Act) : Prop where
  env : RelE w S mu H env a
  heap : RelH w S mu H
  tmps : a.tmps.size = nt
  defers : a.defers = []

section
variable {P : Program} {w w' : World} {S S' : SetS} {mu mu' : Mu} {H H' : Heap} {env : Env} {a : Act} {nt : Nat}

theorem RelE.mono (h : Turn w S mu H w' S' mu' H') (hE : RelE w S mu H env a) : RelE w' S' mu' H' env a := fun t => (hE t).mono h _ _

theorem RelE.put (hE : RelE w S mu H env a) {d : Nat} {av : AV} {v : Value} (hd : d < a.tmps.size) (hr : RelV w S mu H av v) : RelE w S mu H (put env d av) (a.put (some d) v) := by
  intro t
  simp only [Vc.put, get, Act.put, Array.getD_eq_getD_getElem?, Array.getElem?_setIfInBounds]
  by_cases h : d = t
  · subst h
    simp [hd, hr]
  · have : Nat.beq d t = false := by
      cases hh : Nat.beq d t with
      | false => rfl
      | true => exact absurd (by simpa using hh) h
    simp only [this, cond_false, if_neg h]
    simpa [Array.getD_eq_getD_getElem?] using hE t

theorem Rel.put (h : Rel nt w S mu H env a) {d : Nat} {av : AV} {v : Value} (hd : d < nt) (hr : RelV w S mu H av v) : Rel nt w S mu H (put env d av) (a.put (some d) v) :=
  ⟨h.env.put (by rw [h.tmps]; exact hd) hr, h.heap, by simp [Act.put, h.tmps], by simp [Act.put, h.defers]⟩

theorem Rel.mono (h : Rel nt w S mu H env a) (hT : Turn w S mu H w' S' mu' H') (hH : RelH w' S' mu' H') : Rel nt w' S' mu' H' env a :=
  ⟨h.env.mono hT, hH, h.tmps, h.defers⟩

/-- Draws alone. -/
theorem Ev.drawn (n : Nat) : Ev w S mu H { w with drawn := n } S mu H :=
  ⟨⟨⟨fun _ _ _ => rfl, fun _ _ h => h⟩, fun b c t fr h => ⟨c, fr, h, rfl⟩, fun id b h => ⟨b, h, Compat.refl _ _⟩⟩, Nat.le_refl _, rfl, rfl, rfl, fun _ _ _ => rfl, fun _ _ h => .inl h, fun id b h => .inr ⟨id, h⟩⟩
theorem RelH.drawn (h : RelH w S mu H) (n : Nat) : RelH { w with drawn := n } S mu H :=
  ⟨fun id b hb => by
    have hT : Turn w S mu H { w with drawn := n } S mu H := (Ev.drawn n).turn
    have := h.blk id b hb
    cases b with
    | resv => trivial
    | dead => trivial
    | var t v fz =>
      obtain ⟨b, cells, ty, h1, h2, h3, h4, h5, h6⟩ := this
      exact ⟨b, cells, ty, h1, h2, h3, RelA.mono hT _ _ h4, h5, h6⟩
    | fix e xs fz =>
      obtain ⟨b, cells, ty, h1, h2, h3, h4, h5, h6⟩ := this
      exact ⟨b, cells, ty, h1, h2, h3, h4, fun j x hj => RelD.mono hT.stab _ _ _ (h5 j x hj), h6⟩
    | ext e m => exact this
    | grw e xs =>
      obtain ⟨h0, h1⟩ := this
      refine ⟨h0, ?_⟩
      rcases h1 with h1 | ⟨b, cells, ty, h1, h2, h3, h4, h5⟩
      · exact .inl h1
      · exact .inr ⟨b, cells, ty, h1, h2, h3, fun j x hj => RelD.mono hT.stab _ _ _ (h4 j x hj), h5⟩, h.inj, h.there, h.mus⟩
theorem Rel.drawn (h : Rel nt w S mu H env a) (n : Nat) : Rel nt { w with drawn := n } S mu H env a := h.mono (Ev.drawn n).turn (h.heap.drawn n)

/-- What keeps the heap's relation: blocks for which 'ch' holds may turn. -/
theorem turn_sound (ch : Nat → Prop) (h : RelH w S mu H) (hT : Turn w S mu H w' S' mu' H')
    (hsame : ∀ j, ¬ ch j → H'[j]? = H[j]? ∧ mu' j = mu j)
    (hold : ∀ j blk b, ¬ ch j → H[j]? = some blk → blk.live = true → mu j = some b → w'.heap[b]? = w.heap[b]? ∧ ∀ o, S' b o → S b o)
    (hch : ∀ j blk, ch j → H'[j]? = some blk → RelB w' S' mu' H' j blk)
    (hinj : ∀ i j bi bj b, ch i → i ≠ j → H'[i]? = some bi → H'[j]? = some bj → bi.live = true → bj.live = true → mu' i = some b → mu' j = some b → False)
    (hthere : ∀ b o, S' b o → ∃ v, w'.cell? ⟨b, o, none⟩ = some v) (hmus : ∀ i b, mu' i = some b → b < w'.heap.size) : RelH w' S' mu' H' := by
  refine ⟨fun j blk hj => ?_, fun i j bi bj b hi hj li lj mi mj => ?_, hthere, hmus⟩
  · by_cases hc : ch j
    · exact hch j blk hc hj
    · obtain ⟨e1, e2⟩ := hsame j hc
      rw [e1] at hj
      have hB := h.blk j blk hj
      cases blk with
      | resv => trivial
      | dead => trivial
      | var t v fz =>
        obtain ⟨b, cells, ty, h1, h2, h3, h4, h5, h6⟩ := hB
        obtain ⟨g1, g2⟩ := hold j _ b hc hj rfl h1
        exact ⟨b, cells, ty, by rw [e2, h1], by rw [g1, h2], h3, RelA.mono hT _ _ h4, h5, fun hf o hs => h6 hf o (g2 o hs)⟩
      | fix e xs fz =>
        obtain ⟨b, cells, ty, h1, h2, h3, h4, h5, h6⟩ := hB
        obtain ⟨g1, g2⟩ := hold j _ b hc hj rfl h1
        exact ⟨b, cells, ty, by rw [e2, h1], by rw [g1, h2], h3, h4, fun k x hk => RelD.mono hT.stab _ _ _ (h5 k x hk), fun hf o hs => h6 hf o (g2 o hs)⟩
      | ext e m =>
        obtain ⟨h0, h1⟩ := hB
        refine ⟨h0, ?_⟩
        rcases h1 with ⟨h1, h2⟩ | ⟨b, cells, ty, h1, h2, h3, h4⟩
        · exact .inl ⟨h1, by rw [e2, h2]⟩
        · obtain ⟨g1, g2⟩ := hold j _ b hc hj rfl h1
          exact .inr ⟨b, cells, ty, by rw [e2, h1], by rw [g1, h2], h3, fun o hs => h4 o (g2 o hs)⟩
      | grw e xs =>
        obtain ⟨h0, h1⟩ := hB
        refine ⟨h0, ?_⟩
        rcases h1 with ⟨h1, h2⟩ | ⟨b, cells, ty, h1, h2, h3, h4, h5⟩
        · exact .inl ⟨h1, by rw [e2, h2]⟩
        · obtain ⟨g1, g2⟩ := hold j _ b hc hj rfl h1
          exact .inr ⟨b, cells, ty, by rw [e2, h1], by rw [g1, h2], h3, fun k x hk => RelD.mono hT.stab _ _ _ (h4 k x hk), fun o hs => h5 o (g2 o hs)⟩
  · by_cases hij : i = j
    · exact hij
    · exfalso
      by_cases ci : ch i
      · exact hinj i j bi bj b ci hij hi hj li lj mi mj
      · by_cases cj : ch j
        · exact hinj j i bj bi b cj (fun e => hij e.symm) hj hi lj li mj mi
        · obtain ⟨e1, e2⟩ := hsame i ci
          obtain ⟨e3, e4⟩ := hsame j cj
          exact hij (h.inj i j bi bj b (by rw [← e1]; exact hi) (by rw [← e3]; exact hj) li lj (by rw [← e2]; exact mi) (by rw [← e4]; exact mj))

/-! ### A new block -/
def upd (mu : Mu) (id b : Nat) : Mu := fun j => if j = id then some b else mu j

theorem heap_push_old (w : World) (o : Obj) (k : Nat) (h : k < w.heap.size) : (w.alloc o).heap[k]? = w.heap[k]? := Go.RowKit.Below.heap_alloc w o k h
theorem heap_push_new (w : World) (o : Obj) : (w.alloc o).heap[w.heap.size]? = some o := by
  show (w.heap.push o)[w.heap.size]? = some o
  simp

theorem cell_of {b o : Nat} {cells : Array Value} {t : TypeId} {fr : Nat × Nat} (h : w.heap[b]? = some (.cells cells t fr)) : w.cell? ⟨b, o, none⟩ = cells[o]? := by
  simp [World.cell?, h]
theorem cell_same {b o : Nat} (h : w'.heap[b]? = w.heap[b]?) : w'.cell? ⟨b, o, none⟩ = w.cell? ⟨b, o, none⟩ := by
  simp [World.cell?, h]
theorem lt_of_heap {b : Nat} {o : Obj} (h : w.heap[b]? = some o) : b < w.heap.size := by
  rcases Nat.lt_or_ge b w.heap.size with h' | h'
  · exact h'
  · rw [Array.getElem?_eq_none h'] at h; cases h
theorem lt_of_cell {b o : Nat} {v : Value} (h : w.cell? ⟨b, o, none⟩ = some v) : b < w.heap.size := by
  unfold World.cell? at h
  split at h
  · rename_i hb; exact lt_of_heap hb
  · cases h

theorem set_get {H : Heap} {id j : Nat} {blk : Blk} (hid : id < H.length) : (H.set id blk)[j]? = if j = id then some blk else H[j]? := by
  rw [List.getElem?_set]
  by_cases h : id = j
  · subst h; simp [hid]
  · rw [if_neg h, if_neg (fun e => h e.symm)]

/-- A new block of the model's for a block of ours. -/
theorem new_row (h : Rel nt w S mu H env a) {id : Nat} {blk blk0 : Blk} {cells : Array Value} {ty : TypeId} (hid : H[id]? = some blk0) (hcom : Compat blk0 blk (mu id) (some w.heap.size)) (S1 : Nat → Prop)
    (hS1 : ∀ o, S1 o → o < cells.size)
    (hB : ∀ w' S' mu' H', w'.heap[w.heap.size]? = some (.cells cells ty (0, 0)) → Turn w S mu H w' S' mu' H' → mu' id = some w.heap.size → (∀ o, S' w.heap.size o ↔ S1 o) → RelB w' S' mu' H' id blk)
    {w' : World} (hw : ∃ n, w' = { w.alloc (.cells cells ty) with drawn := n }) :
    ∃ S' mu', Rel nt w' S' mu' (H.set id blk) env a ∧ Ev w S mu H w' S' mu' (H.set id blk) ∧ mu' id = some w.heap.size ∧ (∀ o, S1 o → S' w.heap.size o) := by
  obtain ⟨n, rfl⟩ := hw
  have hlen : id < H.length := by
    rcases Nat.lt_or_ge id H.length with h' | h'
    · exact h'
    · rw [List.getElem?_eq_none h'] at hid; cases hid
  let W : World := { w.alloc (.cells cells ty) with drawn := n }
  have hold : ∀ k, k < w.heap.size → W.heap[k]? = w.heap[k]? := fun k hk => heap_push_old w _ k hk
  have hnew : W.heap[w.heap.size]? = some (.cells cells ty (0, 0)) := heap_push_new w _
  have hSlt : ∀ b o, S b o → b < w.heap.size := fun b o hs => by obtain ⟨v, hv⟩ := h.heap.there b o hs; exact lt_of_cell hv
  let S' : SetS := fun b o => S b o ∨ (b = w.heap.size ∧ S1 o)
  let mu' : Mu := upd mu id w.heap.size
  have hT : Turn w S mu H W S' mu' (H.set id blk) := by
    refine ⟨⟨fun b o hs => cell_same (hold b (hSlt b o hs)), fun b o hs => .inl hs⟩, fun b c t fr hb => ⟨c, fr, by rw [hold b (lt_of_heap hb), hb], rfl⟩, fun j b hb => ?_⟩
    rw [set_get hlen]
    by_cases hj : j = id
    · subst hj
      rw [hid] at hb
      injection hb with hb
      subst hb
      exact ⟨blk, by simp, by simpa [mu', upd] using hcom⟩
    · exact ⟨b, by rw [if_neg hj, hb], by simp only [mu', upd, if_neg hj]; exact Compat.refl _ _⟩
  have hSnew : ∀ o, S' w.heap.size o ↔ S1 o := fun o => ⟨fun hs => by
    rcases hs with hs | ⟨_, hs⟩
    · exact absurd (hSlt _ _ hs) (Nat.lt_irrefl _)
    · exact hs, fun hs => .inr ⟨rfl, hs⟩⟩
  have hmuid : mu' id = some w.heap.size := by simp [mu', upd]
  refine ⟨S', mu', h.mono hT ?_, ⟨hT, by simp, rfl, rfl, rfl, fun b hb _ => hold b hb, fun b o hs => ?_, fun j b hj => ?_⟩, hmuid, fun o ho => (hSnew o).2 ho⟩
  · refine turn_sound (fun j => j = id) h.heap hT (fun j hj => ?_) (fun j bk b hj hb hl hm => ?_) (fun j bk hj hb => ?_) (fun i j bi bj b hi hij hbi hbj li lj mi mj => ?_) (fun b o hs => ?_) (fun i b hi => ?_)
    · rw [set_get hlen, if_neg hj]
      exact ⟨rfl, by simp only [mu', upd, if_neg hj]⟩
    · have hlt := h.heap.mus j b hm
      refine ⟨hold b hlt, fun o hs => ?_⟩
      rcases hs with hs | ⟨e, _⟩
      · exact hs
      · omega
    · subst hj
      rw [set_get hlen, if_pos rfl] at hb
      injection hb with hb
      subst hb
      exact hB W S' mu' (H.set j blk) hnew hT hmuid hSnew
    · subst hi
      rw [hmuid] at mi
      injection mi with mi
      subst mi
      have hji : ¬ j = i := fun e => hij e.symm
      simp only [mu', upd, if_neg hji] at mj
      have := h.heap.mus j _ mj
      omega
    · rcases hs with hs | ⟨rfl, hs⟩
      · obtain ⟨v, hv⟩ := h.heap.there b o hs
        exact ⟨v, by rw [cell_same (hold b (hSlt b o hs))]; exact hv⟩
      · rw [cell_of hnew]
        have := hS1 o hs
        exact ⟨cells[o], by simp [this]⟩
    · simp only [mu', upd] at hi
      split at hi
      · injection hi with hi; subst hi; simp
      · have := h.heap.mus i b hi; simp; omega
  · rcases hs with hs | ⟨rfl, _⟩
    · exact .inl hs
    · exact .inr (.inl (Nat.le_refl _))
  · simp only [mu', upd] at hj
    split at hj
    · injection hj with hj; left; omega
    · exact .inr ⟨j, hj⟩

/-- A new block of the model's for a block that was kept free. -/
theorem new_block (h : Rel nt w S mu H env a) {id : Nat} {blk : Blk} {cells : Array Value} {ty : TypeId} (hid : H[id]? = some .resv) (S1 : Nat → Prop)
    (hS1 : ∀ o, S1 o → o < cells.size)
    (hB : ∀ w' S' mu' H', w'.heap[w.heap.size]? = some (.cells cells ty (0, 0)) → Turn w S mu H w' S' mu' H' → mu' id = some w.heap.size → (∀ o, S' w.heap.size o ↔ S1 o) → RelB w' S' mu' H' id blk)
    {w' : World} (hw : ∃ n, w' = { w.alloc (.cells cells ty) with drawn := n }) :
    ∃ S' mu', Rel nt w' S' mu' (H.set id blk) env a ∧ Ev w S mu H w' S' mu' (H.set id blk) ∧ mu' id = some w.heap.size ∧ (∀ o, S1 o → S' w.heap.size o) :=
  new_row h hid trivial S1 hS1 hB hw

/-- A new block of the model's that is nobody's. -/
theorem new_junk (h : Rel nt w S mu H env a) {o : Obj} {w' : World} (hw : ∃ n, w' = { w.alloc o with drawn := n }) :
    Rel nt w' S mu H env a ∧ Ev w S mu H w' S mu H := by
  obtain ⟨n, rfl⟩ := hw
  let W : World := { w.alloc o with drawn := n }
  have hold : ∀ k, k < w.heap.size → W.heap[k]? = w.heap[k]? := fun k hk => heap_push_old w _ k hk
  have hSlt : ∀ b o, S b o → b < w.heap.size := fun b o hs => by obtain ⟨v, hv⟩ := h.heap.there b o hs; exact lt_of_cell hv
  have hT : Turn w S mu H W S mu H :=
    ⟨⟨fun b o hs => cell_same (hold b (hSlt b o hs)), fun b o hs => hs⟩, fun b c t fr hb => ⟨c, fr, by rw [hold b (lt_of_heap hb), hb], rfl⟩, fun j b hb => ⟨b, hb, Compat.refl _ _⟩⟩
  refine ⟨h.mono hT ?_, hT, by simp, rfl, rfl, rfl, fun b hb _ => hold b hb, fun b o hs => .inl hs, fun j b hj => .inr ⟨j, hj⟩⟩
  refine turn_sound (fun _ => False) h.heap hT (fun _ _ => ⟨rfl, rfl⟩) (fun j bk b _ _ _ hm => ⟨hold b (h.heap.mus j b hm), fun o hs => hs⟩) (fun _ _ h => h.elim) (fun i j bi bj b hi => hi.elim) (fun b o hs => ?_) (fun i b hi => ?_)
  · obtain ⟨v, hv⟩ := h.heap.there b o hs
    exact ⟨v, by rw [cell_same (hold b (hSlt b o hs))]; exact hv⟩
  · have := h.heap.mus i b hi
    simp
    omega

/-- A new block of the model's that is data from now on. -/
theorem new_data (h : Rel nt w S mu H env a) {cells : Array Value} {ty : TypeId} :
    ∃ S', Rel nt (w.alloc (.cells cells ty)) S' mu H env a ∧ Ev w S mu H (w.alloc (.cells cells ty)) S' mu H ∧ ∀ o, o < cells.size → S' w.heap.size o := by
  have hold : ∀ k, k < w.heap.size → (w.alloc (.cells cells ty)).heap[k]? = w.heap[k]? := fun k hk => heap_push_old w _ k hk
  have hnew : (w.alloc (.cells cells ty)).heap[w.heap.size]? = some (.cells cells ty (0, 0)) := heap_push_new w _
  have hSlt : ∀ b o, S b o → b < w.heap.size := fun b o hs => by obtain ⟨v, hv⟩ := h.heap.there b o hs; exact lt_of_cell hv
  let S' : SetS := fun b o => S b o ∨ (b = w.heap.size ∧ o < cells.size)
  have hT : Turn w S mu H (w.alloc (.cells cells ty)) S' mu H :=
    ⟨⟨fun b o hs => cell_same (hold b (hSlt b o hs)), fun b o hs => .inl hs⟩, fun b c t fr hb => ⟨c, fr, by rw [hold b (lt_of_heap hb), hb], rfl⟩, fun j b hb => ⟨b, hb, Compat.refl _ _⟩⟩
  refine ⟨S', h.mono hT ?_, ⟨hT, by simp, rfl, rfl, rfl, fun b hb _ => hold b hb, fun b o hs => ?_, fun j b hj => .inr ⟨j, hj⟩⟩, fun o ho => .inr ⟨rfl, ho⟩⟩
  · refine turn_sound (fun _ => False) h.heap hT (fun _ _ => ⟨rfl, rfl⟩) (fun j bk b _ _ _ hm => ?_) (fun _ _ h => h.elim) (fun i j bi bj b hi => hi.elim) (fun b o hs => ?_) (fun i b hi => ?_)
    · have hlt := h.heap.mus j b hm
      refine ⟨hold b hlt, fun o hs => ?_⟩
      rcases hs with hs | ⟨e, _⟩
      · exact hs
      · omega
    · rcases hs with hs | ⟨rfl, hs⟩
      · obtain ⟨v, hv⟩ := h.heap.there b o hs
        exact ⟨v, by rw [cell_same (hold b (hSlt b o hs))]; exact hv⟩
      · rw [cell_of hnew]
        exact ⟨cells[o], by simp [hs]⟩
    · have := h.heap.mus i b hi
      simp
      omega
  · rcases hs with hs | ⟨rfl, _⟩
    · exact .inl hs
    · exact .inr (.inl (Nat.le_refl _))

/-- A growing row of nothing. -/
theorem mk_turn (h : Rel nt w S mu H env a) {id : Nat} {e : Ty} (hid : H[id]? = some .resv) (he : 0 < e.size) :
    ∃ mu', Rel nt w S mu' (H.set id (.ext e 0)) env a ∧ Ev w S mu H w S mu' (H.set id (.ext e 0)) := by
  have hlen : id < H.length := by
    rcases Nat.lt_or_ge id H.length with h' | h'
    · exact h'
    · rw [List.getElem?_eq_none h'] at hid; cases hid
  let mu' : Mu := fun j => if j = id then none else mu j
  have hT : Turn w S mu H w S mu' (H.set id (.ext e 0)) := by
    refine ⟨Stab.refl _ _, fun b c t fr hb => ⟨c, fr, hb, rfl⟩, fun j b hb => ?_⟩
    rw [set_get hlen]
    by_cases hj : j = id
    · subst hj
      rw [hid] at hb
      injection hb with hb
      subst hb
      exact ⟨_, by rw [if_pos rfl], trivial⟩
    · exact ⟨b, by rw [if_neg hj, hb], by simp only [mu', if_neg hj]; exact Compat.refl _ _⟩
  refine ⟨mu', h.mono hT ?_, hT, Nat.le_refl _, rfl, rfl, rfl, fun _ _ _ => rfl, fun b o hs => .inl hs, fun j b hj => ?_⟩
  · refine turn_sound (fun j => j = id) h.heap hT (fun j hj => ?_) (fun j bk b hj hb hl hm => ⟨rfl, fun o hs => hs⟩) (fun j bk hj hb => ?_) (fun i j bi bj b hi hij hbi hbj li lj mi mj => ?_) h.heap.there (fun i b hi => ?_)
    · rw [set_get hlen, if_neg hj]
      exact ⟨rfl, by simp only [mu', if_neg hj]⟩
    · subst hj
      rw [set_get hlen, if_pos rfl] at hb
      injection hb with hb
      subst hb
      exact ⟨he, .inl ⟨rfl, by simp [mu']⟩⟩
    · subst hi
      simp [mu'] at mi
    · simp only [mu'] at hi
      split at hi
      · cases hi
      · exact h.heap.mus i b hi
  · simp only [mu'] at hj
    split at hj
    · cases hj
    · exact .inr ⟨j, hj⟩
theorem mkg_turn (h : Rel nt w S mu H env a) {id : Nat} {e : Ty} (hid : H[id]? = some .resv) (he : 0 < e.size) :
    ∃ mu', Rel nt w S mu' (H.set id (.grw e [])) env a ∧ Ev w S mu H w S mu' (H.set id (.grw e [])) := by
  have hlen : id < H.length := by
    rcases Nat.lt_or_ge id H.length with h' | h'
    · exact h'
    · rw [List.getElem?_eq_none h'] at hid; cases hid
  let mu' : Mu := fun j => if j = id then none else mu j
  have hT : Turn w S mu H w S mu' (H.set id (.grw e [])) := by
    refine ⟨Stab.refl _ _, fun b c t fr hb => ⟨c, fr, hb, rfl⟩, fun j b hb => ?_⟩
    rw [set_get hlen]
    by_cases hj : j = id
    · subst hj
      rw [hid] at hb
      injection hb with hb
      subst hb
      exact ⟨_, by rw [if_pos rfl], trivial⟩
    · exact ⟨b, by rw [if_neg hj, hb], by simp only [mu', if_neg hj]; exact Compat.refl _ _⟩
  refine ⟨mu', h.mono hT ?_, hT, Nat.le_refl _, rfl, rfl, rfl, fun _ _ _ => rfl, fun b o hs => .inl hs, fun j b hj => ?_⟩
  · refine turn_sound (fun j => j = id) h.heap hT (fun j hj => ?_) (fun j bk b hj hb hl hm => ⟨rfl, fun o hs => hs⟩) (fun j bk hj hb => ?_) (fun i j bi bj b hi hij hbi hbj li lj mi mj => ?_) h.heap.there (fun i b hi => ?_)
    · rw [set_get hlen, if_neg hj]
      exact ⟨rfl, by simp only [mu', if_neg hj]⟩
    · subst hj
      rw [set_get hlen, if_pos rfl] at hb
      injection hb with hb
      subst hb
      exact ⟨he, .inl ⟨rfl, by simp [mu']⟩⟩
    · subst hi
      simp [mu'] at mi
    · simp only [mu'] at hi
      split at hi
      · cases hi
      · exact h.heap.mus i b hi
  · simp only [mu'] at hj
    split at hj
    · cases hj
    · exact .inr ⟨j, hj⟩
/-- A row that grew becomes one of fixed length, under another name. -/
theorem thaw_turn (h : Rel nt w S mu H env a) {id i2 b : Nat} {e : Ty} {xs : List D} (hid : H[id]? = some (.grw e xs)) (hi2 : H[i2]? = some .resv) (hmu : mu id = some b) :
    ∃ mu', Rel nt w S mu' ((H.set id .dead).set i2 (.fix e xs false)) env a ∧ Ev w S mu H w S mu' ((H.set id .dead).set i2 (.fix e xs false)) ∧ mu' i2 = some b := by
  have hl1 : id < H.length := by
    rcases Nat.lt_or_ge id H.length with h' | h'
    · exact h'
    · rw [List.getElem?_eq_none h'] at hid; cases hid
  have hl2 : i2 < H.length := by
    rcases Nat.lt_or_ge i2 H.length with h' | h'
    · exact h'
    · rw [List.getElem?_eq_none h'] at hi2; cases hi2
  have hne : i2 ≠ id := fun hh => by subst hh; rw [hid] at hi2; cases hi2
  have hget : ∀ j, ((H.set id .dead).set i2 (.fix e xs false))[j]? = if j = i2 then some (.fix e xs false) else if j = id then some .dead else H[j]? := fun j => by
    rw [set_get (by simpa using hl2)]
    split
    · rfl
    · rw [set_get hl1]
  let mu' : Mu := upd mu i2 b
  have hT : Turn w S mu H w S mu' ((H.set id .dead).set i2 (.fix e xs false)) := by
    refine ⟨Stab.refl _ _, fun b c t fr hb => ⟨c, fr, hb, rfl⟩, fun j bk hb => ?_⟩
    rw [hget]
    by_cases hj : j = i2
    · subst hj
      rw [hi2] at hb
      injection hb with hb
      subst hb
      exact ⟨_, by rw [if_pos rfl], trivial⟩
    · by_cases hj2 : j = id
      · subst hj2
        rw [hid] at hb
        injection hb with hb
        subst hb
        exact ⟨.dead, by rw [if_neg hj, if_pos rfl], .inl rfl⟩
      · exact ⟨bk, by rw [if_neg hj, if_neg hj2, hb], by simp only [mu', upd, if_neg hj]; exact Compat.refl _ _⟩
  have hB := h.heap.blk id _ hid
  obtain ⟨h0, h1⟩ := hB
  refine ⟨mu', h.mono hT ?_, ⟨hT, Nat.le_refl _, rfl, rfl, rfl, fun _ _ _ => rfl, fun b o hs => .inl hs, fun j c hj => ?_⟩, by simp [mu', upd]⟩
  · refine turn_sound (fun j => j = i2 ∨ j = id) h.heap hT (fun j hj => ?_) (fun j bk b hj hb hl hm => ⟨rfl, fun o hs => hs⟩) (fun j bk hj hb => ?_) (fun i j bi bj c hi hij hbi hbj li lj mi mj => ?_) h.heap.there (fun i c hi => ?_)
    · have n1 : ¬ j = i2 := fun e => hj (.inl e)
      have n2 : ¬ j = id := fun e => hj (.inr e)
      exact ⟨by rw [hget, if_neg n1, if_neg n2], by simp only [mu', upd, if_neg n1]⟩
    · rw [hget] at hb
      by_cases hj1 : j = i2
      · subst hj1
        rw [if_pos rfl] at hb
        injection hb with hb
        subst hb
        rcases h1 with ⟨_, h2⟩ | ⟨b', cells, ty, g1, g2, g3, g4, g5⟩
        · rw [hmu] at h2; cases h2
        · rw [hmu] at g1
          injection g1 with g1
          subst g1
          exact ⟨b, cells, ty, by simp [mu', upd], g2, h0, g3, g4, fun _ => g5⟩
      · have hj2 : j = id := hj.resolve_left hj1
        rw [if_neg hj1, if_pos hj2] at hb
        injection hb with hb
        subst hb
        trivial
    · rw [hget] at hbi hbj
      rcases hi with rfl | rfl
      · have hji : ¬ j = i := fun e => hij e.symm
        rw [if_neg hji] at hbj
        by_cases hj2 : j = id
        · rw [if_pos hj2] at hbj
          injection hbj with hbj
          subst hbj
          simp [Blk.live] at lj
        · rw [if_neg hj2] at hbj
          simp only [mu', upd, ↓reduceIte] at mi
          injection mi with mi
          simp only [mu', upd, if_neg hji] at mj
          exact hj2 (h.heap.inj j id bj _ c hbj hid lj rfl mj (by rw [hmu, mi]))
      · rw [if_neg hne.symm, if_pos rfl] at hbi
        injection hbi with hbi
        subst hbi
        simp [Blk.live] at li
    · simp only [mu', upd] at hi
      split at hi
      · injection hi with hi
        subst hi
        exact h.heap.mus id b hmu
      · exact h.heap.mus i c hi
  · simp only [mu', upd] at hj
    split at hj
    · injection hj with hj
      subst hj
      exact .inr ⟨id, hmu⟩
    · exact .inr ⟨j, hj⟩
end
end Go.Vc
/- Operations on memory: the check, and that they come to what 'awpOp' says. Part G: loads and new blocks. -/
set_option linter.unusedVariables false
set_option linter.unusedSimpArgs false
namespace Go.Vc

def dOK (nt : Nat) (x : Option Tmp) (d : Nat) : Bool := match x with
  | some t => Nat.beq t d && Nat.blt d nt
  | none => false
def dOKo (nt : Nat) (x : Option Tmp) (d : Option Nat) : Bool := match x, d with
  | some t, some d => Nat.beq t d && Nat.blt d nt
  | none, none => true
  | _, _ => false
def bytesOK (P : Program) (t : TypeId) (bs : Nat) : Bool := match P.info? t with
  | some i => Nat.beq i.bytes bs
  | none => false
/-- A slice type's elements. -/
def elOK (P : Program) (t : TypeId) (e : Ty) : Bool := match P.underlying t with
  | some (.slice te) => tyOK P te e && zeroOK P te e && zok e && Nat.blt 0 e.size
  | _ => false
def elBytes (P : Program) (t : TypeId) (bs : Nat) : Bool := match P.underlying t with
  | some (.slice te) => bytesOK P te bs
  | _ => false
def plainFn (P : Program) (f : FuncId) : Bool := match P.funcs[f]? with
  | some fn => !(fn.name == "runtime.NumGoroutine") && fn.body.isSome
  | none => false

def OpPost (nt : Nat) (w : World) (S : SetS) (mu : Mu) (H : Heap) (K : Env → Heap → Prop) (a' : Act) (w' : World) : Prop :=
  ∃ env' H' S' mu', Rel nt w' S' mu' H' env' a' ∧ Ev w S mu H w' S' mu' H' ∧ K env' H'

section
variable {P : Program} {w : World} {S : SetS} {mu : Mu} {H : Heap} {env : Env} {a : Act} {nt : Nat} {K : Env → Heap → Prop}

theorem dOK_some {x : Option Tmp} {d : Nat} (h : dOK nt x d = true) : x = some d ∧ d < nt := by
  unfold dOK at h
  split at h
  · simp at h; exact ⟨by rw [h.1], h.2⟩
  · cases h

/-- An operation that gives a value and turns nothing. -/
theorem wp_gives {o : Oper} {d : Nat} {av : AV} (hR : Rel nt w S mu H env a) (hd : dOK nt o.dst d = true) (hg : Gives P w S mu H o a av) (hK : K (put env d av) H) (Q : Exit → Act → World → Prop) :
    o.wp P a w (OpPost nt w S mu H K) Q := by
  obtain ⟨e1, e2⟩ := dOK_some hd
  obtain ⟨v, h1, h2⟩ := hg
  unfold Oper.wp
  rw [h1]
  simp only [Oper.upon, e1]
  exact ⟨_, _, S, mu, hR.put e2 h2, Ev.refl _ _ _ _, hK⟩

/-- An operation that gives a value, in another world. -/
theorem wp_value {o : Oper} {d : Nat} {av : AV} {v : Value} {w' : World} {S' : SetS} {mu' : Mu} {H' : Heap} (hd : dOK nt o.dst d = true) (hrun : (execOp a.eval o).run P w = .ok (.value v) w')
    (hR : Rel nt w' S' mu' H' env a) (hE : Ev w S mu H w' S' mu' H') (hv : RelV w' S' mu' H' av v) (hK : K (put env d av) H') (Q : Exit → Act → World → Prop) : o.wp P a w (OpPost nt w S mu H K) Q := by
  obtain ⟨e1, e2⟩ := dOK_some hd
  unfold Oper.wp
  rw [hrun]
  simp only [Oper.upon, e1]
  exact ⟨_, _, S', mu', hR.put e2 hv, hE, hK⟩

theorem getD_blk {id : Nat} {b : Blk} (h : H.getD id .dead = b) (hb : b ≠ .dead) : H[id]? = some b := by
  rw [List.getD_eq_getElem?_getD] at h
  cases hh : H[id]? with
  | none => rw [hh] at h; exact absurd h.symm hb
  | some b' => rw [hh] at h; simpa using h

/-! ### Loads -/
theorem getD'_rel : ∀ {T : Ty} {p : List PStep} {d : D} {cs : List Value} {o : Nat}, RelD w S T cs d → offP T p = some o →
    ∃ pre c post, cs = pre ++ (c ++ post) ∧ pre.length = o ∧ RelA w S mu H (getD' T p d) c ∧ fits (getD' T p d) (endP T p) = true
  | T, [], d, cs, o, h, ho => by
    simp only [offP, Option.some.injEq] at ho
    subst ho
    refine ⟨[], cs, [], by simp, rfl, ?_, ?_⟩
    · simp only [getD']; exact ofD_rel T cs d h
    · simp only [getD', endP]; exact ofD_fits T d cs h
  | .st ts, .fld i :: p, d, cs, o, h, ho => by
    simp only [offP] at ho
    split at ho
    · rename_i hi
      simp only [Option.map_eq_some_iff] at ho
      obtain ⟨o', h1, rfl⟩ := ho
      simp only [RelD] at h
      obtain ⟨pre, c, post, rfl, q1, q2⟩ := RelDs_get h hi
      rw [Nat.zero_add] at q2
      obtain ⟨pre2, c2, post2, rfl, q3, q4, q5⟩ := getD'_rel q2 h1
      refine ⟨pre ++ pre2, c2, post2 ++ post, by simp, by simp [q1, q3], ?_, ?_⟩
      · simpa only [getD'] using q4
      · simpa only [getD', endP] using q5
    · cases ho
  | .arr n e, .idx k :: p, d, cs, o, h, ho => by
    simp only [offP] at ho
    split at ho
    · rename_i hi
      simp only [Option.map_eq_some_iff] at ho
      obtain ⟨o', h1, rfl⟩ := ho
      simp only [RelD] at h
      obtain ⟨pre, c, post, rfl, q1, _, q2⟩ := RelL_get h.2 (getD_of (show k < d.fs.length by omega))
      obtain ⟨pre2, c2, post2, rfl, q3, q4, q5⟩ := getD'_rel q2 h1
      refine ⟨pre ++ pre2, c2, post2 ++ post, by simp, by simp [q1, q3], ?_, ?_⟩
      · simpa only [getD'] using q4
      · simpa only [getD', endP] using q5
    · cases ho
  | .int _, .fld _ :: _, _, _, _, _, h | .int _, .idx _ :: _, _, _, _, _, h | .bool, .fld _ :: _, _, _, _, _, h | .bool, .idx _ :: _, _, _, _, _, h
  | .str, .fld _ :: _, _, _, _, _, h | .str, .idx _ :: _, _, _, _, _, h | .sl _, .fld _ :: _, _, _, _, _, h | .sl _, .idx _ :: _, _, _, _, _, h
  | .st _, .idx _ :: _, _, _, _, _, h | .arr _ _, .fld _ :: _, _, _, _, _, h | .ptr, .fld _ :: _, _, _, _, _, h | .ptr, .idx _ :: _, _, _, _, _, h
  | .fn, .fld _ :: _, _, _, _, _, h | .fn, .idx _ :: _, _, _, _, _, h | .op, .fld _ :: _, _, _, _, _, h | .op, .idx _ :: _, _, _, _, _, h => by simp [offP] at h

theorem getA_rel : ∀ {T : Ty} {p : List PStep} {v : AV} {cs : List Value} {o : Nat}, fitsV v T = true → RelA w S mu H v cs → offP T p = some o →
    ∃ pre c post, cs = pre ++ (c ++ post) ∧ pre.length = o ∧ RelA w S mu H (getA p v) c ∧ fitsV (getA p v) (endP T p) = true
  | T, [], v, cs, o, hf, h, ho => by
    simp only [offP, Option.some.injEq] at ho
    subst ho
    exact ⟨[], cs, [], by simp, rfl, by simpa only [getA] using h, by simpa only [getA, endP] using hf⟩
  | .st ts, .fld i :: p, v, cs, o, hf, h, ho => by
    simp only [offP] at ho
    split at ho
    · rename_i hi
      simp only [Option.map_eq_some_iff] at ho
      obtain ⟨o', h1, rfl⟩ := ho
      cases v <;> simp [fitsV] at hf
      rename_i vs
      simp only [RelA] at h
      obtain ⟨pre, c, post, rfl, q1, q2, q3⟩ := RelAs_get hf h hi
      obtain ⟨pre2, c2, post2, rfl, q4, q5, q6⟩ := getA_rel q3 q2 h1
      refine ⟨pre ++ pre2, c2, post2 ++ post, by simp, by simp [q1, q4], ?_, ?_⟩
      · simpa only [getA] using q5
      · simpa only [getA, endP] using q6
    · cases ho
  | .arr n e, .idx k :: p, v, cs, o, hf, h, ho => by
    simp only [offP] at ho
    split at ho
    · rename_i hi
      simp only [Option.map_eq_some_iff] at ho
      obtain ⟨o', h1, rfl⟩ := ho
      cases v <;> simp [fitsV] at hf
      rename_i m f xs
      obtain ⟨rfl, hs⟩ := hf
      have := Ty.same_eq _ _ hs
      subst this
      simp only [RelA] at h
      obtain ⟨pre, c, post, rfl, q1, _, q2⟩ := RelL_get h.2 (getD_of (show k < xs.length by omega))
      obtain ⟨pre2, c2, post2, rfl, q3, q4, q5⟩ := getD'_rel (mu := mu) (H := H) q2 h1
      refine ⟨pre ++ pre2, c2, post2 ++ post, by simp, by simp [q1, q3], ?_, ?_⟩
      · simpa only [getA] using q4
      · simpa only [getA, endP] using fitsV_of_fits _ _ q5
    · cases ho
  | .int _, .fld _ :: _, _, _, _, _, _, h | .int _, .idx _ :: _, _, _, _, _, _, h | .bool, .fld _ :: _, _, _, _, _, _, h | .bool, .idx _ :: _, _, _, _, _, _, h
  | .str, .fld _ :: _, _, _, _, _, _, h | .str, .idx _ :: _, _, _, _, _, _, h | .sl _, .fld _ :: _, _, _, _, _, _, h | .sl _, .idx _ :: _, _, _, _, _, _, h
  | .st _, .idx _ :: _, _, _, _, _, _, h | .arr _ _, .fld _ :: _, _, _, _, _, _, h | .ptr, .fld _ :: _, _, _, _, _, _, h | .ptr, .idx _ :: _, _, _, _, _, _, h
  | .fn, .fld _ :: _, _, _, _, _, _, h | .fn, .idx _ :: _, _, _, _, _, _, h | .op, .fld _ :: _, _, _, _, _, _, h | .op, .idx _ :: _, _, _, _, _, _, h => by simp [offP] at h

theorem cells_mid {b : Nat} {cells : Array Value} {t : TypeId} {fr : Nat × Nat} (h : w.heap[b]? = some (.cells cells t fr)) {pre c post : List Value} (hc : cells.toList = pre ++ (c ++ post)) :
    ∀ (k : Nat) (v : Value), c[k]? = some v → w.cell? ⟨b, pre.length + k, none⟩ = some v := by
  intro k v hk
  rw [cell_of h, ← Array.getElem?_toList, hc, List.getElem?_append_right (by omega), show pre.length + k - pre.length = k by omega]
  have hlt : k < c.length := by
    rcases Nat.lt_or_ge k c.length with h | h
    · exact h
    · rw [List.getElem?_eq_none h] at hk; cases hk
  rw [List.getElem?_append_left hlt]
  exact hk

/-- Where a pointer into a block points, and what lies there. -/
theorem place_rel (hH : RelH w S mu H) {id : Nat} {blk : Blk} (hb : H[id]? = some blk) {b o : Nat} {p : List PStep} (hmu : mu id = some b) (hpl : blk.place p = some o) :
    (∀ t v fz, blk = .var t v fz → ∃ c, (∀ (k : Nat) (u : Value), c[k]? = some u → w.cell? ⟨b, o + k, none⟩ = some u) ∧ RelA w S mu H (getA p v) c ∧ fitsV (getA p v) (endP t p) = true) ∧
    (∀ e xs fz n q, blk = .fix e xs fz → p = .idx n :: q → ∃ c, (∀ (k : Nat) (u : Value), c[k]? = some u → w.cell? ⟨b, o + k, none⟩ = some u) ∧ RelA w S mu H (getD' e q (xs.getD n (.i 0))) c ∧ fits (getD' e q (xs.getD n (.i 0))) (endP e q) = true) := by
  have hB := hH.blk id blk hb
  refine ⟨?_, ?_⟩
  · rintro t v fz rfl
    obtain ⟨b', cells, ty, h1, h2, h3, h4, h5, h6⟩ := hB
    rw [hmu] at h1
    injection h1 with h1
    subst h1
    obtain ⟨pre, c, post, q1, q2, q3, q4⟩ := getA_rel h5 h4 hpl
    exact ⟨c, by rw [← q2]; exact cells_mid h2 q1, q3, q4⟩
  · rintro e xs fz n q rfl rfl
    obtain ⟨b', cells, ty, h1, h2, h3, h4, h5, h6⟩ := hB
    rw [hmu] at h1
    injection h1 with h1
    subst h1
    simp only [Blk.place] at hpl
    split at hpl
    · rename_i hn
      simp only [Option.map_eq_some_iff] at hpl
      obtain ⟨o', g1, rfl⟩ := hpl
      have hx := h5 n _ (getD_of hn)
      obtain ⟨pre, c, post, q1, q2, q3, q4⟩ := getD'_rel (mu := mu) (H := H) hx g1
      refine ⟨c, ?_, q3, q4⟩
      have hle : n * e.size + e.size ≤ cells.toList.length := by
        have : (n + 1) * e.size ≤ xs.length * e.size := Nat.mul_le_mul_right _ hn
        rw [Nat.add_mul] at this
        simp at this ⊢
        omega
      have hc : cells.toList = cells.toList.take (n * e.size) ++ ((cells.toList.drop (n * e.size)).take e.size ++ (cells.toList.drop (n * e.size)).drop e.size) := by
        rw [List.take_append_drop, List.take_append_drop]
      rw [q1] at hc
      have := cells_mid h2 (pre := cells.toList.take (n * e.size) ++ pre) (c := c) (post := post ++ (cells.toList.drop (n * e.size)).drop e.size) (hc.trans (by simp only [List.append_assoc]))
      simp only [List.length_append, List.length_take, q2, Nat.min_eq_left (show n * e.size ≤ cells.toList.length by omega)] at this
      exact this
    · cases hpl
theorem op_load (hR : Rel nt w S mu H env a) {o : Oper} {d : Nat} {t : Ty} {x : Ar} {ty : TypeId} {X : Operand} (ho : o.op = .load ty X) (hd : dOK nt o.dst d = true) (ht : tyOK P ty t = true) (hx : arOK X x = true)
    (orc : Orc) (base : Nat) (hK : awpOp orc base (.load d t x) env H K) (Q : Exit → Act → World → Prop) : o.wp P a w (OpPost nt w S mu H K) Q := by
  have r1 := arOK_rel hR.env hx
  simp only [awpOp] at hK
  cases hv : x.ev env <;> simp only [hv] at hK
  · -- a pointer
    rename_i id p u
    rw [hv] at r1
    obtain ⟨b, o', e1, blk, hb, hu, hpl⟩ := r1.ptr
    cases hs : Ty.same u t with
    | false => simp [hs] at hK
    | true =>
      have := Ty.same_eq _ _ hs
      subst this
      simp only [hs, cond_true] at hK
      cases hbk : H.getD id .dead with
      | var T v fz =>
        simp only [hbk] at hK
        have hb' := getD_blk hbk (by simp)
        rw [hb] at hb'
        injection hb' with hb'
        subst hb'
        obtain ⟨g1, g2, g3⟩ := hpl (.inl ⟨_, _, _, rfl⟩)
        obtain ⟨c, k1, k2, k3⟩ := (place_rel hR.heap hb g1 g2).1 T v fz rfl
        simp only [Blk.ty] at g3
        rw [g3] at k3
        obtain ⟨val, q1, q2⟩ := run_loadVar (w := w) ht k1 (RelA.length _ _ _ k3 k2)
        exact wp_gives hR hd (gives_mk (v := val) (by simp [execOp, ho, e1, Instr.loadAt, Instr.sureAddr, q1]) (Val.rel k3 k2 q2)) hK Q
      | fix e xs fz =>
        simp only [hbk] at hK
        have hb' := getD_blk hbk (by simp)
        rw [hb] at hb'
        injection hb' with hb'
        subst hb'
        obtain ⟨g1, g2, g3⟩ := hpl (.inr ⟨_, _, _, rfl⟩)
        cases p with
        | nil => simp at hK
        | cons s q =>
          cases s with
          | fld j => simp at hK
          | idx n =>
            simp only at hK
            obtain ⟨c, k1, k2, k3⟩ := (place_rel hR.heap hb g1 g2).2 e xs fz n q rfl rfl
            simp only [Blk.ty] at g3
            rw [g3] at k3
            have k3' := fitsV_of_fits _ _ k3
            obtain ⟨val, q1, q2⟩ := run_loadVar (w := w) ht k1 (RelA.length _ _ _ k3' k2)
            exact wp_gives hR hd (gives_mk (v := val) (by simp [execOp, ho, e1, Instr.loadAt, Instr.sureAddr, q1]) (Val.rel k3' k2 q2)) hK Q
      | resv => simp only [hbk] at hK
      | dead => simp only [hbk] at hK
      | ext e n => simp only [hbk] at hK
      | grw e n => simp only [hbk] at hK
  · -- a pointer into data
    rename_i u c
    rw [hv] at r1
    cases hs : Ty.same u t with
    | false => simp [hs] at hK
    | true =>
      have := Ty.same_eq _ _ hs
      subst this
      simp only [hs, cond_true] at hK
      obtain ⟨b, o', e1, cells, hl, hr⟩ := r1.cptr
      obtain ⟨v, k1, k2⟩ := run_loadVar (w := w) ht (fun k v hk => (hl k v hk).1) hr.length
      exact wp_gives hR hd (gives_mk (v := v) (by simp [execOp, ho, e1, Instr.loadAt, Instr.sureAddr, k1]) (Val.rel (fitsV_of_fits _ _ (ofD_fits u c cells hr)) (ofD_rel u cells c hr) k2)) hK Q

/-! ### New blocks -/
theorem run_newVar (t : TypeId) (v : Value) : (newVar t v).run P w = .ok ⟨w.heap.size, 0, none⟩ (w.alloc (.cells v.cells t)) := rfl

theorem op_var (hR : Rel nt w S mu H env a) {o : Oper} {d id : Nat} {t : Ty} {ty : TypeId} {v : Value} {av : AV} (hd : dOK nt o.dst d = true) (hid : H[id]? = some .resv)
    (hrun : (execOp a.eval o).run P w = .ok (.value (.pointer (some ⟨w.heap.size, 0, none⟩))) (w.alloc (.cells v.cells ty))) (hf : fitsV av t = true) (hr : RelA w S mu H av v.cells.toList)
    (hK : K (put env d (.ptr id [] t)) (H.set id (.var t av false))) (Q : Exit → Act → World → Prop) : o.wp P a w (OpPost nt w S mu H K) Q := by
  obtain ⟨S', mu', h1, h2, h3, h4⟩ := new_block (blk := .var t av false) (cells := v.cells) (ty := ty) hR hid (fun _ => False) (fun _ h => h.elim)
    (fun w' S' mu' H' hc hT hm hs => ⟨w.heap.size, v.cells, ty, hm, hc, by have := RelA.length _ _ _ hf hr; simpa using this, RelA.mono hT _ _ hr, hf, fun _ o ho => (hs o).1 ho⟩) ⟨w.drawn, rfl⟩
  refine wp_value hd hrun h1 h2 ?_ hK Q
  simp only [RelV, RelA]
  have hlen : id < H.length := by
    rcases Nat.lt_or_ge id H.length with h' | h'
    · exact h'
    · rw [List.getElem?_eq_none h'] at hid; cases hid
  exact ⟨w.heap.size, 0, rfl, .var t av false, by rw [set_get hlen, if_pos rfl], rfl, fun _ => ⟨h3, rfl, rfl⟩⟩

theorem op_alloc (hR : Rel nt w S mu H env a) {o : Oper} {d off : Nat} {t : Ty} {ty : TypeId} (ho : o.op = .alloc ty) (hd : dOK nt o.dst d = true) (ht : tyOK P ty t = true) (hz : zeroOK P ty t = true) (hzo : zokA t = true)
    (orc : Orc) (base : Nat) (hK : awpOp orc base (.alloc d off t) env H K) (Q : Exit → Act → World → Prop) : o.wp P a w (OpPost nt w S mu H K) Q := by
  simp only [awpOp] at hK
  cases hb : H.getD (base + off) .dead <;> simp only [hb] at hK
  obtain ⟨z, k1, k2, _⟩ := zeroOK_run hz w
  refine op_var (v := z) (ty := ty) hR hd (getD_blk hb (by simp)) ?_ (zeroA_fits t _ hzo) (by rw [k2]; exact zeroA_rel t hzo) hK Q
  simp only [execOp, ho, Sem.run_bind, Instr.alloc, k1, Result.andThen_ok, run_newVar, Sem.run_pure]

theorem op_box (hR : Rel nt w S mu H env a) {o : Oper} {d off : Nat} {t : Ty} {ty : TypeId} {x : Ar} {X : Operand} (ho : o.op = .box ty X) (hd : dOK nt o.dst d = true) (hx : arOK X x = true)
    (orc : Orc) (base : Nat) (hK : awpOp orc base (.box d off t x) env H K) (Q : Exit → Act → World → Prop) : o.wp P a w (OpPost nt w S mu H K) Q := by
  have r1 := arOK_rel hR.env hx
  simp only [awpOp] at hK
  cases hb : H.getD (base + off) .dead <;> simp only [hb] at hK
  cases hf : fitsV (x.ev env) t with
  | false => simp [hf] at hK
  | true =>
    simp only [hf, cond_true] at hK
    refine op_var (v := a.eval X) (ty := ty) hR hd (getD_blk hb (by simp)) ?_ hf (r1.val hf).2 hK Q
    simp only [execOp, ho, Sem.run_bind, Instr.box, Result.andThen_ok, run_newVar, Sem.run_pure]

/-- The elements of a row, as data. -/
theorem RelL_elems {sz : Nat} {R : List Value → D → Prop} {cells : List Value} {xs : List D} (h : RelL sz R cells xs) {j : Nat} {x : D} (hj : xs[j]? = some x) : R ((cells.drop (j * sz)).take sz) x := by
  obtain ⟨pre, c, post, rfl, q1, q2, q3⟩ := RelL_get h hj
  rw [← q1, List.drop_left, ← q2, List.take_left]
  exact q3

/-- A new row, of fixed length. -/
theorem op_fix (hR : Rel nt w S mu H env a) {o : Oper} {d id : Nat} {e : Ty} {ty : TypeId} {xs : List D} {c : Nat} {cells : Array Value} (hd : dOK nt o.dst d = true) (hid : H[id]? = some .resv) (he : 0 < e.size)
    {w' : World} (hw : ∃ n, w' = { w.alloc (.cells cells ty) with drawn := n })
    (hrun : (execOp a.eval o).run P w = .ok (.value (.slice (some ⟨w.heap.size, 0, none⟩) xs.length c)) w') {post : List Value} (hrel : ∃ front, cells.toList = front ++ post ∧ RelL e.size (RelD w S e) front xs) (hc : xs.length ≤ c) (hcm : c ≤ maxLen) (hcs : c * e.size ≤ cells.size)
    (hK : K (put env d (.rsl id e 0 xs.length)) (H.set id (.fix e xs false))) (Q : Exit → Act → World → Prop) : o.wp P a w (OpPost nt w S mu H K) Q := by
  obtain ⟨front, hf, hrl⟩ := hrel
  have hfl := hrl.length
  obtain ⟨S', mu', h1, h2, h3, h4⟩ := new_block (blk := .fix e xs false) (cells := cells) (ty := ty) hR hid (fun _ => False) (fun _ h => h.elim)
    (fun w' S' mu' H' hc2 hT hm hs => ⟨w.heap.size, cells, ty, hm, hc2, he, by rw [← Array.length_toList, hf]; simp [hfl], fun j x hj => by
      have hx := RelL_elems hrl hj
      have hjl : j < xs.length := by
        rcases Nat.lt_or_ge j xs.length with h | h
        · exact h
        · rw [List.getElem?_eq_none h] at hj; cases hj
      have hb : j * e.size + e.size ≤ front.length := by
        have : (j + 1) * e.size ≤ xs.length * e.size := Nat.mul_le_mul_right _ hjl
        rw [Nat.add_mul] at this
        omega
      rw [hf, List.drop_append_of_le_length (by omega), List.take_append_of_le_length (by simp; omega)]
      exact RelD.mono hT.stab _ _ _ hx, fun _ o ho => (hs o).1 ho⟩) hw
  refine wp_value hd hrun h1 h2 ?_ hK Q
  have hlen : id < H.length := by
    rcases Nat.lt_or_ge id H.length with h' | h'
    · exact h'
    · rw [List.getElem?_eq_none h'] at hid; cases hid
  simp only [RelV, RelA]
  refine ⟨_, c, rfl, hc, hcm, fun _ => ⟨_, _, rfl⟩, .fix e xs false, by rw [set_get hlen, if_pos rfl], rfl, ?_, fun _ _ hh => by cases hh⟩
  intro e' xs' fz' hh
  injection hh with g1 g2 g3
  subst g1; subst g2
  have hnew : w'.heap[w.heap.size]? = some (.cells cells ty (0, 0)) := by
    obtain ⟨n, rfl⟩ := hw
    exact heap_push_new w _
  exact ⟨rfl, by omega, w.heap.size, h3, .inr (by simp), cells, ty, _, hnew, by simpa using hcs⟩

/-- A new row, that may grow. -/
theorem op_grow' (hR : Rel nt w S mu H env a) {o : Oper} {d id : Nat} {e : Ty} {blk0 : Blk} {ty : TypeId} {xs : List D} {c : Nat} {cells : Array Value} (hd : dOK nt o.dst d = true) (hid : H[id]? = some blk0) (hcom : Compat blk0 (.ext e xs.length) (mu id) (some w.heap.size)) (he : 0 < e.size)
    {w' : World} (hw : ∃ n, w' = { w.alloc (.cells cells ty) with drawn := n })
    (hrun : (execOp a.eval o).run P w = .ok (.value (.slice (some ⟨w.heap.size, 0, none⟩) xs.length c)) w') {post : List Value} (hrel : ∃ front, cells.toList = front ++ post ∧ RelL e.size (RelD w S e) front xs) (hc : xs.length ≤ c) (hcm : c ≤ maxLen) (hcs : c * e.size ≤ cells.size)
    (hK : K (put env d (.sl e xs (.own id))) (H.set id (.ext e xs.length))) (Q : Exit → Act → World → Prop) : o.wp P a w (OpPost nt w S mu H K) Q := by
  obtain ⟨front, hf, hrl⟩ := hrel
  have hfl := hrl.length
  have hnew : w'.heap[w.heap.size]? = some (.cells cells ty (0, 0)) := by
    obtain ⟨n, rfl⟩ := hw
    exact heap_push_new w _
  have hsz : xs.length * e.size ≤ cells.size := by rw [← Array.length_toList, hf]; simp [hfl]
  obtain ⟨S', mu', h1, h2, h3, h4⟩ := new_row (blk := .ext e xs.length) (cells := cells) (ty := ty) hR hid hcom (fun o => o < xs.length * e.size) (fun o ho => by omega)
    (fun w' S' mu' H' hc2 hT hm hs => ⟨he, .inr ⟨w.heap.size, cells, ty, hm, hc2, hsz, fun o ho => (hs o).1 ho⟩⟩) hw
  refine wp_value hd hrun h1 h2 ?_ hK Q
  have hlen : id < H.length := by
    rcases Nat.lt_or_ge id H.length with h' | h'
    · exact h'
    · rw [List.getElem?_eq_none h'] at hid; cases hid
  simp only [RelV, RelA]
  refine ⟨_, _, c, rfl, ⟨rfl, hc, hcm, fun j x hj => ?_⟩, ?_⟩
  · obtain ⟨pre, cc, post', q0, q1, q2, q3⟩ := RelL_get hrl hj
    refine ⟨w.heap.size, 0, cc, rfl, ?_, q2, RelD.mono h2.turn.stab _ _ _ q3⟩
    intro k v hk
    have hkl : k < cc.length := by
      rcases Nat.lt_or_ge k cc.length with h | h
      · exact h
      · rw [List.getElem?_eq_none h] at hk; cases hk
    have hcell := cells_mid (w := w') hnew (pre := pre) (c := cc) (post := post' ++ post) (by rw [hf, q0]; simp) k v hk
    rw [Nat.zero_add, ← q1]
    refine ⟨hcell, h4 _ ?_⟩
    have : front.length = pre.length + (cc.length + post'.length) := by rw [q0]; simp
    omega
  · simp only [RelT]
    refine ⟨.ext e xs.length, by rw [set_get hlen, if_pos rfl], rfl, ?_⟩
    intro e' m hh
    injection hh with g1 g2
    subst g1; subst g2
    exact ⟨rfl, Nat.le_refl _, fun _ => .inr ⟨w.heap.size, h3, rfl, cells, ty, _, hnew, hcs⟩⟩

theorem op_grow (hR : Rel nt w S mu H env a) {o : Oper} {d id : Nat} {e : Ty} {ty : TypeId} {xs : List D} {c : Nat} {cells : Array Value} (hd : dOK nt o.dst d = true) (hid : H[id]? = some .resv) (he : 0 < e.size)
    {w' : World} (hw : ∃ n, w' = { w.alloc (.cells cells ty) with drawn := n })
    (hrun : (execOp a.eval o).run P w = .ok (.value (.slice (some ⟨w.heap.size, 0, none⟩) xs.length c)) w') {post : List Value} (hrel : ∃ front, cells.toList = front ++ post ∧ RelL e.size (RelD w S e) front xs) (hc : xs.length ≤ c) (hcm : c ≤ maxLen) (hcs : c * e.size ≤ cells.size)
    (hK : K (put env d (.sl e xs (.own id))) (H.set id (.ext e xs.length))) (Q : Exit → Act → World → Prop) : o.wp P a w (OpPost nt w S mu H K) Q :=
  op_grow' hR hd hid trivial he hw hrun hrel hc hcm hcs hK Q
end
end Go.Vc
/- Operations on memory, part H: stores, and what changes a block in place. -/
set_option linter.unusedVariables false
set_option linter.unusedSimpArgs false
namespace Go.Vc

section
variable {P : Program} {w : World} {S : SetS} {mu : Mu} {H : Heap} {env : Env} {a : Act} {nt : Nat} {K : Env → Heap → Prop}

/-! ### Cells are of one cell each -/
theorem cells1_L {sz : Nat} {R : List Value → D → Prop} (hR : ∀ cs d, R cs d → ∀ u ∈ cs, u.oneCell' = true) : ∀ (cs : List Value) (xs : List D), RelL sz R cs xs → ∀ u ∈ cs, u.oneCell' = true
  | cs, [], h => by simp [RelL] at h; subst h; simp
  | cs, x :: xs, h => by
    obtain ⟨c1, c2, rfl, _, h2, h3⟩ := h
    intro u hu
    rcases List.mem_append.1 hu with hu | hu
    · exact hR _ _ h2 u hu
    · exact cells1_L hR _ _ h3 u hu
mutual
theorem cells1_D : ∀ (t : Ty) (cs : List Value) (d : D), RelD w S t cs d → ∀ u ∈ cs, u.oneCell' = true
  | .int k, cs, d, h => by simp only [RelD] at h; rw [h.1]; simp [Value.oneCell']
  | .bool, cs, d, h => by simp only [RelD] at h; rw [h]; simp [Value.oneCell']
  | .str, cs, d, h => by simp only [RelD] at h; rw [h.1]; simp [Value.oneCell']
  | .sl e, cs, d, h => by simp only [RelD] at h; obtain ⟨a, n, c, rfl, _⟩ := h; simp [Value.oneCell']
  | .st ts, cs, d, h => by simp only [RelD] at h; exact cells1_Ds ts 0 cs d h
  | .arr n e, cs, d, h => by simp only [RelD] at h; exact cells1_L (fun cs d hd => cells1_D e cs d hd) _ _ h.2
  | .ptr, _, _, h => by simp [RelD] at h
  | .fn, _, _, h => by simp [RelD] at h
  | .op, _, _, h => by simp [RelD] at h
theorem cells1_Ds : ∀ (ts : List Ty) (i : Nat) (cs : List Value) (d : D), RelDs w S ts i cs d → ∀ u ∈ cs, u.oneCell' = true
  | [], _, cs, d, h => by simp only [RelDs] at h; subst h; simp
  | t :: ts, i, cs, d, h => by
    simp only [RelDs] at h
    obtain ⟨c1, c2, rfl, h1, h2⟩ := h
    intro u hu
    rcases List.mem_append.1 hu with hu | hu
    · exact cells1_D t c1 _ h1 u hu
    · exact cells1_Ds ts (i + 1) c2 d h2 u hu
end
mutual
theorem cells1_A : ∀ (v : AV) (cs : List Value), RelA w S mu H v cs → ∀ u ∈ cs, u.oneCell' = true
  | .undef, _, h => by simp [RelA] at h
  | .int k n, cs, h => by simp only [RelA] at h; rw [h.1]; simp [Value.oneCell']
  | .bool b, cs, h => by simp only [RelA] at h; rw [h]; simp [Value.oneCell']
  | .str s, cs, h => by simp only [RelA] at h; rw [h.1]; simp [Value.oneCell']
  | .sl e xs t, cs, h => by simp only [RelA] at h; obtain ⟨_, _, _, rfl, _⟩ := h; simp [Value.oneCell']
  | .rsl id e1 off len, cs, h => by simp only [RelA] at h; obtain ⟨_, _, rfl, _⟩ := h; simp [Value.oneCell']
  | .st vs, cs, h => by simp only [RelA] at h; exact cells1_As vs cs h
  | .arr n e xs, cs, h => by simp only [RelA] at h; exact cells1_L (fun cs d hd => cells1_D e cs d hd) _ _ h.2
  | .ptr id p ty, cs, h => by simp only [RelA] at h; obtain ⟨_, _, rfl, _⟩ := h; simp [Value.oneCell']
  | .cptr t d, cs, h => by simp only [RelA] at h; obtain ⟨_, _, rfl, _⟩ := h; simp [Value.oneCell']
  | .nilp, cs, h => by simp only [RelA] at h; rw [h]; simp [Value.oneCell']
  | .fn f caps, cs, h => by simp only [RelA] at h; obtain ⟨_, rfl, _⟩ := h; simp [Value.oneCell']
  | .nilfn, cs, h => by simp only [RelA] at h; rw [h]; simp [Value.oneCell']
  | .tup _, _, h => by simp [RelA] at h
theorem cells1_As : ∀ (vs : List AV) (cs : List Value), RelAs w S mu H vs cs → ∀ u ∈ cs, u.oneCell' = true
  | [], cs, h => by simp only [RelAs] at h; subst h; simp
  | v :: vs, cs, h => by
    simp only [RelAs] at h
    obtain ⟨c1, c2, rfl, h1, h2⟩ := h
    intro u hu
    rcases List.mem_append.1 hu with hu | hu
    · exact cells1_A v c1 h1 u hu
    · exact cells1_As vs c2 h2 u hu
end

/-! ### Data, changed at a place -/
theorem over_nest {pre c post c' : List Value} {o' : Nat} (h : o' + c'.length ≤ c.length) : over (pre ++ (c ++ post)) (pre.length + o') c' = pre ++ (over c o' c' ++ post) := by
  unfold over
  rw [List.take_length_add_append, List.take_append_of_le_length (by omega), show pre.length + o' + c'.length = pre.length + (o' + c'.length) by omega, List.drop_length_add_append, List.drop_append_of_le_length h]
  simp only [List.append_assoc]

theorem RelDs_congr : ∀ {ts : List Ty} {i0 : Nat} {cs : List Value} {d d' : D}, (∀ j, i0 ≤ j → d'.fld j = d.fld j) → RelDs w S ts i0 cs d → RelDs w S ts i0 cs d'
  | [], _, cs, d, d', _, h => by simpa only [RelDs] using h
  | t :: ts, i0, cs, d, d', he, h => by
    simp only [RelDs] at h ⊢
    obtain ⟨c1, c2, rfl, h1, h2⟩ := h
    exact ⟨c1, c2, rfl, by rw [he i0 (Nat.le_refl _)]; exact h1, RelDs_congr (fun j hj => he j (by omega)) h2⟩

theorem RelDs_over : ∀ {ts : List Ty} {i0 i : Nat} {cs : List Value} {d d' : D} {c : List Value} {x : D}, RelDs w S ts i0 cs d → i < ts.length → RelD w S (ts.getD i .op) c x →
    d'.fld (i0 + i) = x → (∀ j, j ≠ i0 + i → d'.fld j = d.fld j) → RelDs w S ts i0 (over cs (Ty.sizes (ts.take i)) c) d' ∧ Ty.sizes (ts.take i) + c.length ≤ cs.length
  | [], _, _, _, _, _, _, _, _, h, _, _, _ => by simp at h
  | t :: ts, i0, 0, cs, d, d', c, x, h, _, hr, he, ho => by
    simp only [RelDs] at h ⊢
    obtain ⟨c1, c2, rfl, h1, h2⟩ := h
    simp only [List.getD_cons_zero, Nat.add_zero] at hr he
    have hl : c.length = c1.length := by rw [hr.length, h1.length]
    have := over_mid (pre := []) (c := c1) (c' := c) (post := c2) hl
    simp only [List.nil_append, List.length_nil] at this
    simp only [List.take_zero, Ty.sizes]
    rw [this]
    exact ⟨⟨c, c2, rfl, by rw [he]; exact hr, RelDs_congr (fun j hj => ho j (by omega)) h2⟩, by simp; omega⟩
  | t :: ts, i0, i + 1, cs, d, d', c, x, h, hi, hr, he, ho => by
    simp only [RelDs] at h ⊢
    obtain ⟨c1, c2, rfl, h1, h2⟩ := h
    obtain ⟨g1, g2⟩ := RelDs_over (i := i) (c := c) (x := x) (d' := d') h2 (by simpa using hi) (by simpa using hr) (by rw [← he]; congr 1; omega) (fun j hj => ho j (by omega))
    have hlen := h1.length
    simp only [List.take_succ_cons, Ty.sizes]
    have := over_nest (pre := c1) (c := c2) (post := []) (c' := c) (o' := Ty.sizes (ts.take i)) (by omega)
    simp only [List.append_nil] at this
    rw [← hlen, this]
    exact ⟨⟨c1, _, rfl, by rw [ho i0 (by omega)]; exact h1, g1⟩, by simp; omega⟩

theorem padSet_get : ∀ (l : List D) (i : Nat) (x : D) (j : Nat), (padSet l i x).getD j (.i 0) = if j = i then x else l.getD j (.i 0)
  | [], 0, x, 0 => by simp [padSet]
  | [], 0, x, j + 1 => by simp [padSet]
  | [], i + 1, x, 0 => by simp [padSet]
  | [], i + 1, x, j + 1 => by
    have := padSet_get [] i x j
    simp [padSet] at this ⊢
    rw [this]
  | y :: r, 0, x, 0 => by simp [padSet]
  | y :: r, 0, x, j + 1 => by simp [padSet]
  | y :: r, i + 1, x, 0 => by simp [padSet]
  | y :: r, i + 1, x, j + 1 => by
    have := padSet_get r i x j
    simp [padSet] at this ⊢
    rw [this]

theorem setD'_rel : ∀ {T : Ty} {p : List PStep} {d : D} {cs : List Value} {o : Nat} {y : AV} {c : List Value}, RelD w S T cs d → offP T p = some o → fits y (endP T p) = true → RelA w S mu H y c →
    RelD w S T (over cs o c) (setD' T p d y) ∧ o + c.length ≤ cs.length
  | T, [], d, cs, o, y, c, h, ho, hf, hr => by
    simp only [offP, Option.some.injEq] at ho
    subst ho
    simp only [endP] at hf
    have h1 := toD_rel y T c hf hr
    have hl : c.length = cs.length := by rw [h1.length, h.length]
    have := over_mid (pre := []) (c := cs) (c' := c) (post := []) hl
    simp only [List.nil_append, List.length_nil, List.append_nil] at this
    simp only [setD']
    rw [this]
    exact ⟨h1, by omega⟩
  | .st ts, .fld i :: p, d, cs, o, y, c, h, ho, hf, hr => by
    simp only [offP] at ho
    split at ho
    · rename_i hi
      simp only [Option.map_eq_some_iff] at ho
      obtain ⟨o', h1, rfl⟩ := ho
      simp only [RelD] at h
      obtain ⟨pre, c0, post, rfl, q1, q2⟩ := RelDs_get h hi
      rw [Nat.zero_add] at q2
      obtain ⟨g1, g2⟩ := setD'_rel q2 h1 (by simpa only [endP] using hf) hr
      obtain ⟨k1, k2⟩ := RelDs_over (d' := setD' (.st ts) (.fld i :: p) d y) h hi g1 (by
        rw [Nat.zero_add]
        show (padSet d.fs i _).getD i (.i 0) = _
        rw [padSet_get, if_pos rfl]) (fun j hj => by
        rw [Nat.zero_add] at hj
        show (padSet d.fs i _).getD j (.i 0) = _
        rw [padSet_get, if_neg hj]
        rfl)
      rw [← q1] at k1 ⊢
      rw [over_mid (by rw [over_length g2])] at k1
      rw [over_nest g2]
      exact ⟨by simpa only [RelD] using k1, by simp; omega⟩
    · cases ho
  | .arr n e, .idx k :: p, d, cs, o, y, c, h, ho, hf, hr => by
    simp only [offP] at ho
    split at ho
    · rename_i hi
      simp only [Option.map_eq_some_iff] at ho
      obtain ⟨o', h1, rfl⟩ := ho
      simp only [RelD] at h
      obtain ⟨hn, h⟩ := h
      obtain ⟨pre, c0, post, rfl, q1, q3, q2⟩ := RelL_get h (getD_of (show k < d.fs.length by omega))
      obtain ⟨g1, g2⟩ := setD'_rel q2 h1 (by simpa only [endP] using hf) hr
      obtain ⟨k1, k2⟩ := RelL_over h (show k < d.fs.length by omega) (by rw [over_length g2]; exact q3) g1
      rw [← q1] at k1 ⊢
      rw [over_mid (by rw [over_length g2])] at k1
      rw [over_nest g2]
      refine ⟨?_, by simp; omega⟩
      simp only [RelD, setD']
      exact ⟨by show (d.fs.set k _).length = n; rw [List.length_set]; exact hn, k1⟩
    · cases ho
  | .int _, .fld _ :: _, _, _, _, _, _, _, h, _, _ | .int _, .idx _ :: _, _, _, _, _, _, _, h, _, _ | .bool, .fld _ :: _, _, _, _, _, _, _, h, _, _ | .bool, .idx _ :: _, _, _, _, _, _, _, h, _, _
  | .str, .fld _ :: _, _, _, _, _, _, _, h, _, _ | .str, .idx _ :: _, _, _, _, _, _, _, h, _, _ | .sl _, .fld _ :: _, _, _, _, _, _, _, h, _, _ | .sl _, .idx _ :: _, _, _, _, _, _, _, h, _, _
  | .st _, .idx _ :: _, _, _, _, _, _, _, h, _, _ | .arr _ _, .fld _ :: _, _, _, _, _, _, _, h, _, _ | .ptr, .fld _ :: _, _, _, _, _, _, _, h, _, _ | .ptr, .idx _ :: _, _, _, _, _, _, _, h, _, _
  | .fn, .fld _ :: _, _, _, _, _, _, _, h, _, _ | .fn, .idx _ :: _, _, _, _, _, _, _, h, _, _ | .op, .fld _ :: _, _, _, _, _, _, _, h, _, _ | .op, .idx _ :: _, _, _, _, _, _, _, h, _, _ => by simp [offP] at h

theorem setA_rel : ∀ {T : Ty} {p : List PStep} {v : AV} {cs : List Value} {o : Nat} {y : AV} {c : List Value}, fitsV v T = true → RelA w S mu H v cs → offP T p = some o → fitsV y (endP T p) = true → (flds p = true ∨ fits y (endP T p) = true) → RelA w S mu H y c →
    fitsV (setA p v y) T = true ∧ RelA w S mu H (setA p v y) (over cs o c) ∧ o + c.length ≤ cs.length
  | T, [], v, cs, o, y, c, hv, h, ho, hf, _, hr => by
    simp only [offP, Option.some.injEq] at ho
    subst ho
    simp only [endP] at hf
    have hl : c.length = cs.length := by rw [RelA.length _ _ _ hf hr, RelA.length _ _ _ hv h]
    have := over_mid (pre := []) (c := cs) (c' := c) (post := []) hl
    simp only [List.nil_append, List.length_nil, List.append_nil] at this
    simp only [setA]
    rw [this]
    exact ⟨hf, hr, by omega⟩
  | .st ts, .fld i :: p, v, cs, o, y, c, hv, h, ho, hf, hd, hr => by
    simp only [offP] at ho
    split at ho
    · rename_i hi
      simp only [Option.map_eq_some_iff] at ho
      obtain ⟨o', h1, rfl⟩ := ho
      cases v <;> simp [fitsV] at hv
      rename_i vs
      simp only [RelA] at h
      obtain ⟨pre, c0, post, rfl, q1, q2, q3⟩ := RelAs_get hv h hi
      obtain ⟨g0, g1, g2⟩ := setA_rel q3 q2 h1 (by simpa only [endP] using hf) (by simpa only [endP, flds] using hd) hr
      have k0 := fitsVs_set hv g0 hi
      obtain ⟨k1, k2⟩ := RelAs_over hv h hi g0 g1
      rw [← q1] at k1 ⊢
      rw [over_mid (by rw [over_length g2])] at k1
      rw [over_nest g2]
      simp only [setA, fitsV, RelA]
      exact ⟨k0, k1, by simp; omega⟩
    · cases ho
  | .arr n e, .idx k :: p, v, cs, o, y, c, hv, h, ho, hf, hd, hr => by
    simp only [offP] at ho
    split at ho
    · rename_i hi
      simp only [Option.map_eq_some_iff] at ho
      obtain ⟨o', h1, rfl⟩ := ho
      cases v <;> simp [fitsV] at hv
      rename_i m f xs
      obtain ⟨rfl, hs⟩ := hv
      have := Ty.same_eq _ _ hs
      subst this
      simp only [RelA] at h
      obtain ⟨hn, h⟩ := h
      have hfd : fits y (endP f p) = true := by
        rcases hd with hd | hd
        · simp [flds] at hd
        · simpa only [endP] using hd
      obtain ⟨pre, c0, post, rfl, q1, q3, q2⟩ := RelL_get h (getD_of (show k < xs.length by omega))
      obtain ⟨g1, g2⟩ := setD'_rel q2 h1 hfd hr
      obtain ⟨k1, k2⟩ := RelL_over h (show k < xs.length by omega) (by rw [over_length g2]; exact q3) g1
      rw [← q1] at k1 ⊢
      rw [over_mid (by rw [over_length g2])] at k1
      rw [over_nest g2]
      simp only [setA, fitsV, RelA]
      exact ⟨by simp [same_refl], ⟨by simpa using hn, k1⟩, by simp; omega⟩
    · cases ho
  | .int _, .fld _ :: _, _, _, _, _, _, _, _, h, _, _, _ | .int _, .idx _ :: _, _, _, _, _, _, _, _, h, _, _, _ | .bool, .fld _ :: _, _, _, _, _, _, _, _, h, _, _, _ | .bool, .idx _ :: _, _, _, _, _, _, _, _, h, _, _, _
  | .str, .fld _ :: _, _, _, _, _, _, _, _, h, _, _, _ | .str, .idx _ :: _, _, _, _, _, _, _, _, h, _, _, _ | .sl _, .fld _ :: _, _, _, _, _, _, _, _, h, _, _, _ | .sl _, .idx _ :: _, _, _, _, _, _, _, _, h, _, _, _
  | .st _, .idx _ :: _, _, _, _, _, _, _, _, h, _, _, _ | .arr _ _, .fld _ :: _, _, _, _, _, _, _, _, h, _, _, _ | .ptr, .fld _ :: _, _, _, _, _, _, _, _, h, _, _, _ | .ptr, .idx _ :: _, _, _, _, _, _, _, _, h, _, _, _
  | .fn, .fld _ :: _, _, _, _, _, _, _, _, h, _, _, _ | .fn, .idx _ :: _, _, _, _, _, _, _, _, h, _, _, _ | .op, .fld _ :: _, _, _, _, _, _, _, _, h, _, _, _ | .op, .idx _ :: _, _, _, _, _, _, _, _, h, _, _, _ => by simp [offP] at h

/-! ### A block's row turns in place -/
theorem row_turn (h : Rel nt w S mu H env a) {id b : Nat} {blk blk' : Blk} {cur cur' : Array Value} {ty : TypeId} (hid : H[id]? = some blk) (hl : blk.live = true) (hmu : mu id = some b)
    (hb : w.heap[b]? = some (.cells cur ty (0, 0))) (hsz : cur'.size = cur.size) (hS : ∀ o, S b o → cur'[o]? = cur[o]?) (S1 : Nat → Prop) (hS1 : ∀ o, S1 o → o < cur'.size) (hc : Compat blk blk' (some b) (some b))
    (hB : ∀ w' S' H', w'.heap[b]? = some (.cells cur' ty (0, 0)) → Turn w S mu H w' S' mu H' → (∀ o, S' b o ↔ S b o ∨ S1 o) → RelB w' S' mu H' id blk') :
    ∃ S', Rel nt (w.setRow b cur') S' mu (H.set id blk') env a ∧ Ev w S mu H (w.setRow b cur') S' mu (H.set id blk') ∧ (∀ o, S' b o ↔ S b o ∨ S1 o) := by
  have hlen : id < H.length := by
    rcases Nat.lt_or_ge id H.length with h' | h'
    · exact h'
    · rw [List.getElem?_eq_none h'] at hid; cases hid
  have hnew : (w.setRow b cur').heap[b]? = some (.cells cur' ty (0, 0)) := setRow_heap w b cur cur' ty (0, 0) hb
  have hold : ∀ k, k ≠ b → (w.setRow b cur').heap[k]? = w.heap[k]? := fun k hk => setRow_other w b k cur' hk
  let S' : SetS := fun c o => S c o ∨ (c = b ∧ S1 o)
  have hSb : ∀ o, S' b o ↔ S b o ∨ S1 o := fun o => ⟨fun hs => hs.elim .inl (fun hs => .inr hs.2), fun hs => hs.elim .inl (fun hs => .inr ⟨rfl, hs⟩)⟩
  have hT : Turn w S mu H (w.setRow b cur') S' mu (H.set id blk') := by
    refine ⟨⟨fun c o hs => ?_, fun c o hs => .inl hs⟩, fun c cs t fr hc' => ?_, fun j bk hj => ?_⟩
    · by_cases hcb : c = b
      · subst hcb
        rw [cell_of hnew, cell_of hb]
        exact hS o hs
      · exact cell_same (hold c hcb)
    · by_cases hcb : c = b
      · subst hcb
        rw [hb] at hc'
        injection hc' with hc'
        injection hc' with e1 e2 e3
        subst e1; subst e2; subst e3
        exact ⟨cur', _, hnew, hsz⟩
      · exact ⟨cs, fr, by rw [hold c hcb, hc'], rfl⟩
    · rw [set_get hlen]
      by_cases hj' : j = id
      · subst hj'
        rw [hid] at hj
        injection hj with hj
        subst hj
        exact ⟨blk', by simp, by rw [hmu]; exact hc⟩
      · exact ⟨bk, by rw [if_neg hj', hj], Compat.refl _ _⟩
  refine ⟨S', h.mono hT ?_, ⟨hT, by simp, rfl, rfl, rfl, fun c hc' hm => hold c (fun e => hm id (by rw [hmu, e])), fun c o hs => ?_, fun j c hj => .inr ⟨j, hj⟩⟩, hSb⟩
  · refine turn_sound (fun j => j = id) h.heap hT (fun j hj => ?_) (fun j bk c hj hbj hlv hm => ?_) (fun j bk hj hbj => ?_) (fun i j bi bj c hi hij hbi hbj li lj mi mj => ?_) (fun c o hs => ?_) (fun i c hi => ?_)
    · rw [set_get hlen, if_neg hj]
      exact ⟨rfl, rfl⟩
    · have hcb : c ≠ b := fun e => hj (h.heap.inj j id bk blk c hbj hid hlv hl hm (by rw [hmu, e]))
      refine ⟨hold c hcb, fun o hs => ?_⟩
      rcases hs with hs | ⟨e, _⟩
      · exact hs
      · exact absurd e hcb
    · subst hj
      rw [set_get hlen, if_pos rfl] at hbj
      injection hbj with hbj
      subst hbj
      exact hB (w.setRow b cur') S' (H.set j blk') hnew hT hSb
    · subst hi
      have hji : ¬ j = i := fun e => hij e.symm
      rw [set_get hlen, if_neg hji] at hbj
      exact hij (h.heap.inj i j blk bj c hid hbj hl lj mi mj)
    · by_cases hcb : c = b
      · subst hcb
        rw [cell_of hnew]
        have ho : o < cur'.size := by
          rcases hs with hs | ⟨_, hs⟩
          · obtain ⟨v, hv⟩ := h.heap.there c o hs
            rw [cell_of hb] at hv
            rw [hsz]
            rcases Nat.lt_or_ge o cur.size with hh | hh
            · exact hh
            · rw [Array.getElem?_eq_none hh] at hv; cases hv
          · exact hS1 o hs
        exact ⟨cur'[o], by simp [ho]⟩
      · rcases hs with hs | ⟨e, _⟩
        · obtain ⟨v, hv⟩ := h.heap.there c o hs
          exact ⟨v, by rw [cell_same (hold c hcb)]; exact hv⟩
        · exact absurd e hcb
    · have := h.heap.mus i c hi
      simpa using this
  · rcases hs with hs | ⟨rfl, _⟩
    · exact .inl hs
    · exact .inr (.inr ⟨id, hmu⟩)

/-- Nothing turns but how a block is seen. -/
theorem ghost_turn (h : Rel nt w S mu H env a) {id b : Nat} {blk blk' : Blk} {cur : Array Value} {ty : TypeId} (hid : H[id]? = some blk) (hl : blk.live = true) (hmu : mu id = some b)
    (hb : w.heap[b]? = some (.cells cur ty (0, 0))) (S1 : Nat → Prop) (hS1 : ∀ o, S1 o → o < cur.size) (hc : Compat blk blk' (some b) (some b))
    (hB : ∀ w' S' H', w'.heap[b]? = some (.cells cur ty (0, 0)) → Turn w S mu H w' S' mu H' → (∀ o, S' b o ↔ S b o ∨ S1 o) → RelB w' S' mu H' id blk') :
    ∃ S', Rel nt w S' mu (H.set id blk') env a ∧ Ev w S mu H w S' mu (H.set id blk') ∧ (∀ o, S' b o ↔ S b o ∨ S1 o) := by
  have := row_turn h hid hl hmu hb rfl (fun _ _ => rfl) S1 hS1 hc hB
  rwa [setRow_self w b cur ty (0, 0) hb] at this

theorem run_storeVar {t : TypeId} {T : Ty} (ht : tyOK P t T = true) {b o : Nat} {cur : Array Value} {ty : TypeId} {v : Value} (hb : w.heap[b]? = some (.cells cur ty (0, 0))) (hc : v.cells.size = T.size) (hfit : o + v.cells.toList.length ≤ cur.size) (h1 : ∀ u ∈ v.cells.toList, u.oneCell' = true) :
    (storeVar t ⟨b, o, none⟩ v).run P w = .ok () (w.setRow b (over cur.toList o v.cells.toList).toArray) := by
  unfold storeVar
  have := run_storeCells_at P b o ty v.cells.toList 0 cur w hb (by simpa using hfit) h1
  simp only [Nat.add_zero] at this
  simp only [Sem.run_bind, tyOK_size ht w, Result.andThen_ok, hc, ne_eq, not_true_eq_false, if_false, Sem.run_pure, this, over, List.append_assoc]

theorem op_store (hR : Rel nt w S mu H env a) {o : Oper} {t : Ty} {x y : Ar} {ty : TypeId} {X Y : Operand} (ho : o.op = .store ty X Y) (hd : o.dst = none) (ht : tyOK P ty t = true) (hx : arOK X x = true) (hy : arOK Y y = true)
    (orc : Orc) (base : Nat) (hK : awpOp orc base (.store t x y) env H K) (Q : Exit → Act → World → Prop) : o.wp P a w (OpPost nt w S mu H K) Q := by
  have r1 := arOK_rel hR.env hx
  have r2 := arOK_rel hR.env hy
  simp only [awpOp] at hK
  cases hv : x.ev env <;> simp only [hv] at hK
  rename_i id p u
  rw [hv] at r1
  obtain ⟨b, o', e1, blk, hb, hu, hpl⟩ := r1.ptr
  cases hs : (Ty.same u t && fitsV (y.ev env) t) with
  | false => simp [hs] at hK
  | true =>
    simp only [hs, cond_true, nrm_eq] at hK
    simp only [Bool.and_eq_true] at hs
    obtain ⟨hs, hf⟩ := hs
    have := Ty.same_eq _ _ hs
    subst this
    obtain ⟨hval, hrel⟩ := r2.val hf
    have hclen : (a.eval Y).cells.toList.length = u.size := RelA.length _ _ _ hf hrel
    have h1 := cells1_A _ _ hrel
    have hfin : ∀ {blk' : Blk} {cur : Array Value} {ty' : TypeId}, blk.live = true → mu id = some b → w.heap[b]? = some (.cells cur ty' (0, 0)) → (∀ o, ¬ S b o) → o' + (a.eval Y).cells.toList.length ≤ cur.size → Compat blk blk' (some b) (some b) →
        (∀ w' S' H', w'.heap[b]? = some (.cells (over cur.toList o' (a.eval Y).cells.toList).toArray ty' (0, 0)) → Turn w S mu H w' S' mu H' → (∀ o, S' b o ↔ S b o ∨ False) → RelB w' S' mu H' id blk') →
        K env (H.set id blk') → o.wp P a w (OpPost nt w S mu H K) Q := by
      intro blk' cur ty' hl hmu hc hS hfit hcom hB hK
      have hol := over_length (cs := cur.toList) (off := o') (c := (a.eval Y).cells.toList) (by simpa using hfit)
      obtain ⟨S', g1, g2, g3⟩ := row_turn hR hb hl hmu hc (by simpa using hol) (fun o hs => absurd hs (hS o)) (fun _ => False) (fun _ h => h.elim) hcom hB
      unfold Oper.wp
      simp only [execOp, ho, e1, Instr.storeAt, Instr.sureAddr, Sem.run_bind, Sem.run_pure, Result.andThen_ok, run_storeVar ht hc (by simpa using hclen) hfit h1, Oper.upon, hd]
      exact ⟨env, _, S', mu, g1, g2, hK⟩
    cases hbk : H.getD id .dead with
    | var T v fz =>
      cases fz with
      | true => simp only [hbk] at hK
      | false =>
      simp only [hbk] at hK
      have hb' := getD_blk hbk (by simp)
      rw [hb] at hb'
      injection hb' with hb'
      subst hb'
      obtain ⟨g1, g2, g3⟩ := hpl (.inl ⟨_, _, _, rfl⟩)
      simp only [Blk.place] at g2
      simp only [Blk.ty] at g3
      cases hfl : (flds p || fits (y.ev env) u) with
      | false => simp [hfl] at hK
      | true =>
        simp only [hfl, cond_true] at hK
        have hB := hR.heap.blk id _ hb
        obtain ⟨b', cells, ty', k1, k2, k3, k4, k5, k6⟩ := hB
        rw [g1] at k1
        injection k1 with k1
        subst k1
        obtain ⟨q1, q2, q3⟩ := setA_rel k5 k4 g2 (by rw [g3]; exact hf) (by rw [g3]; simpa using hfl) hrel
        have hol := over_length q3
        refine hfin rfl g1 k2 (k6 rfl) (by simpa using q3) (.inr ⟨_, _, rfl, rfl, fun h => h⟩) (fun w' S' H' hc hT hS => ⟨b, _, ty', g1, hc, by simpa [k3] using hol, RelA.mono hT _ _ q2, q1, fun _ o hs => ?_⟩) hK
        rcases (hS o).1 hs with hs | hs
        · exact k6 rfl o hs
        · exact hs
    | fix e xs fz =>
      cases fz with
      | true => simp only [hbk] at hK
      | false =>
      simp only [hbk] at hK
      have hb' := getD_blk hbk (by simp)
      rw [hb] at hb'
      injection hb' with hb'
      subst hb'
      obtain ⟨g1, g2, g3⟩ := hpl (.inr ⟨_, _, _, rfl⟩)
      cases p with
      | nil => simp at hK
      | cons s q =>
        cases s with
        | fld j => simp at hK
        | idx n =>
          simp only [Blk.place] at g2
          simp only [Blk.ty] at g3
          cases hfl : fits (y.ev env) u with
          | false => simp [hfl] at hK
          | true =>
            simp only [hfl, cond_true] at hK
            split at g2
            · rename_i hn
              simp only [Option.map_eq_some_iff] at g2
              obtain ⟨o'', g2, rfl⟩ := g2
              have hB := hR.heap.blk id _ hb
              obtain ⟨b', cells, ty', k1, k2, k3, k4, k5, k6⟩ := hB
              rw [g1] at k1
              injection k1 with k1
              subst k1
              have hx := k5 n _ (getD_of hn)
              obtain ⟨q1, q2⟩ := setD'_rel hx g2 (by rw [g3]; exact hfl) hrel
              have hle : n * e.size + e.size ≤ cells.toList.length := by
                have : (n + 1) * e.size ≤ xs.length * e.size := Nat.mul_le_mul_right _ hn
                rw [Nat.add_mul] at this
                simp at this ⊢
                omega
              have hsl : ((cells.toList.drop (n * e.size)).take e.size).length = e.size := by simp at hle ⊢; omega
              have hfit : n * e.size + o'' + (a.eval Y).cells.toList.length ≤ cells.toList.length := by rw [hsl] at q2; omega
              have hpre : (cells.toList.take (n * e.size)).length = n * e.size := by simp at hle ⊢; omega
              have hov : over cells.toList (n * e.size + o'') (a.eval Y).cells.toList = cells.toList.take (n * e.size) ++ (over ((cells.toList.drop (n * e.size)).take e.size) o'' (a.eval Y).cells.toList ++ (cells.toList.drop (n * e.size)).drop e.size) := by
                have := over_nest (pre := cells.toList.take (n * e.size)) (c := (cells.toList.drop (n * e.size)).take e.size) (post := (cells.toList.drop (n * e.size)).drop e.size) q2
                rw [List.take_append_drop, List.take_append_drop, hpre] at this
                exact this
              have hol := over_length hfit
              refine hfin rfl g1 k2 (k6 rfl) (by simpa using hfit) (.inr (.inl ⟨_, _, rfl, by simp, rfl⟩)) (fun w' S' H' hc hT hS => ⟨b, _, ty', g1, hc, k3, by simpa [hol] using k4, fun j y' hj => ?_, fun _ o hs => ?_⟩) hK
              · rw [List.getElem?_set] at hj
                by_cases hjn : n = j
                · subst hjn
                  simp only [if_true, hn] at hj
                  injection hj with hj
                  subst hj
                  have : (List.drop (n * e.size) (over cells.toList (n * e.size + o'') (a.eval Y).cells.toList)) = over ((cells.toList.drop (n * e.size)).take e.size) o'' (a.eval Y).cells.toList ++ (cells.toList.drop (n * e.size)).drop e.size := by
                    rw [hov]
                    have := List.drop_left (l₁ := cells.toList.take (n * e.size)) (l₂ := over ((cells.toList.drop (n * e.size)).take e.size) o'' (a.eval Y).cells.toList ++ (cells.toList.drop (n * e.size)).drop e.size)
                    rwa [hpre] at this
                  simp only [List.toList_toArray]
                  rw [this]
                  have hol2 := over_length q2
                  rw [hsl] at hol2
                  have := List.take_left (l₁ := over ((cells.toList.drop (n * e.size)).take e.size) o'' (a.eval Y).cells.toList) (l₂ := (cells.toList.drop (n * e.size)).drop e.size)
                  rw [hol2] at this
                  rw [this]
                  exact RelD.mono hT.stab _ _ _ q1
                · rw [if_neg hjn] at hj
                  have hjl : j < xs.length := by
                    rcases Nat.lt_or_ge j xs.length with h | h
                    · exact h
                    · rw [List.getElem?_eq_none h] at hj; cases hj
                  have hy := k5 j _ hj
                  have : (List.drop (j * e.size) (over cells.toList (n * e.size + o'') (a.eval Y).cells.toList)).take e.size = (cells.toList.drop (j * e.size)).take e.size := by
                    apply List.ext_getElem?
                    intro k
                    by_cases hk : k < e.size
                    · rw [List.getElem?_take_of_lt hk, List.getElem?_take_of_lt hk, List.getElem?_drop, List.getElem?_drop, over_get _ _ _ hfit, if_neg]
                      rw [hsl] at q2
                      rintro ⟨m1, m2⟩
                      rcases Nat.lt_or_ge j n with hh | hh
                      · have : (j + 1) * e.size ≤ n * e.size := Nat.mul_le_mul_right _ hh
                        rw [Nat.add_mul] at this
                        omega
                      · have : (n + 1) * e.size ≤ j * e.size := Nat.mul_le_mul_right _ (by omega)
                        rw [Nat.add_mul] at this
                        omega
                    · rw [List.getElem?_eq_none (by simp; omega), List.getElem?_eq_none (by simp; omega)]
                  simp only [List.toList_toArray]
                  rw [this]
                  exact RelD.mono hT.stab _ _ _ hy
              · rcases (hS o).1 hs with hs | hs
                · exact k6 rfl o hs
                · exact hs
            · cases g2
    | resv => simp only [hbk] at hK
    | dead => simp only [hbk] at hK
    | ext e n => simp only [hbk] at hK
    | grw e n => simp only [hbk] at hK
end
end Go.Vc
/- Operations on memory, part I: literals, made slices, and turns of how a row is seen. -/
set_option linter.unusedVariables false
set_option linter.unusedSimpArgs false
namespace Go.Vc

section
variable {P : Program} {w : World} {S : SetS} {mu : Mu} {H : Heap} {env : Env} {a : Act} {nt : Nat} {K : Env → Heap → Prop}

theorem info_size {t : TypeId} {e : Ty} (he : tyOK P t e = true) : ∃ i, P.info? t = some i ∧ i.size = e.size := by
  obtain ⟨d, hd, _⟩ := tyOK_und he
  obtain ⟨i, hi⟩ := info_of_underlying hd
  refine ⟨i, hi, ?_⟩
  have hs := tyOK_size he (default : World)
  rw [run_sizeOf _ hi] at hs
  injection hs with hs
  rw [← hs]
  simp [Program.cellsOf, hi]

theorem lt_of_get {H : Heap} {id : Nat} {b : Blk} (h : H[id]? = some b) : id < H.length := by
  rcases Nat.lt_or_ge id H.length with h' | h'
  · exact h'
  · rw [List.getElem?_eq_none h'] at h; cases h

/-! ### Zeros -/
theorem zlist (z : Array Value) (hz : 0 < z.size) (n : Nat) : ((List.range ((n + 1) * z.size)).map fun j => z[j % z.size]!) = z.toList ++ (List.range (n * z.size)).map (fun j => z[j % z.size]!) := by
  apply List.ext_getElem?
  intro j
  have hm : (n + 1) * z.size = z.size + n * z.size := by rw [Nat.add_mul]; omega
  rw [List.getElem?_map]
  by_cases hj : j < z.size
  · rw [List.getElem?_append_left (by simpa using hj), List.getElem?_range (by omega)]
    simp [Nat.mod_eq_of_lt hj, hj]
  · rw [List.getElem?_append_right (by simp; omega), List.getElem?_map]
    have hmod : j % z.size = (j - z.size) % z.size := by
      exact Nat.mod_eq_sub_mod (by omega)
    by_cases hk : j < (n + 1) * z.size
    · rw [List.getElem?_range hk, List.getElem?_range (by simp; omega)]
      simp [hmod]
    · rw [List.getElem?_eq_none (by simp; omega), List.getElem?_eq_none (by simp; omega)]

theorem zeros_rel {T : Ty} (hzo : zok T = true) {z : Array Value} (hz : z.toList = zcells T) (hpos : 0 < T.size) : ∀ n, RelL T.size (RelD w S T) ((List.range (n * z.size)).map fun j => z[j % z.size]!) (List.replicate n (zeroD T))
  | 0 => by simp [RelL]
  | n + 1 => by
    have hr := zeroD_rel (w := w) (S := S) T hzo
    have hl : z.size = T.size := by
      have := hr.length
      rw [← hz] at this
      simpa using this
    rw [zlist z (by omega) n, List.replicate_succ]
    exact ⟨z.toList, _, rfl, by simpa using hl, by rw [hz]; exact hr, zeros_rel hzo hz hpos n⟩
theorem zsize {T : Ty} (hzo : zok T = true) {z : Array Value} (hz : z.toList = zcells T) : z.size = T.size := by
  have hr := zeroD_rel (w := (default : World)) (S := fun _ _ => False) T hzo
  have := hr.length
  rw [← hz] at this
  simpa using this

theorem elOK_und {t : TypeId} {e : Ty} (h : elOK P t e = true) : ∃ te, P.underlying t = some (.slice te) ∧ tyOK P te e = true ∧ zeroOK P te e = true ∧ zok e = true ∧ 0 < e.size := by
  unfold elOK at h
  split at h
  · rename_i te hu
    simp only [Bool.and_eq_true] at h
    exact ⟨te, hu, h.1.1.1, h.1.1.2, h.1.2, by simpa using h.2⟩
  · cases h

theorem RelL_nilpost {R : List Value → D → Prop} {sz : Nat} {cs : List Value} {xs : List D} (h : RelL sz R cs xs) : ∃ front, cs = front ++ [] ∧ RelL sz R front xs := ⟨cs, by simp, h⟩

/-! ### Slice literals -/
theorem setPartsD_length : ∀ (ps : List (Nat × AV)) (xs : List D), (setPartsD xs ps).length = xs.length
  | [], xs => rfl
  | p :: ps, xs => by simp [setPartsD, setPartsD_length ps]

theorem op_lit (hR : Rel nt w S mu H env a) {o : Oper} {d off n : Nat} {e : Ty} {qs : List (Nat × Ar)} {fx : Bool} {t : TypeId} {parts : Array (Nat × Operand)} (ho : o.op = .buildSlice t n parts) (hd : dOK nt o.dst d = true) (he : elOK P t e = true)
    (hp : partsOK parts.toList qs = true) (hn : Nat.ble (n * e.size) 16777216 = true) (hnm : Nat.ble n maxLen = true)
    (orc : Orc) (base : Nat) (hK : awpOp orc base (.lit d off e n qs fx) env H K) (Q : Exit → Act → World → Prop) : o.wp P a w (OpPost nt w S mu H K) Q := by
  simp only [awpOp] at hK
  cases hb : H.getD (base + off) .dead <;> simp only [hb] at hK
  cases hf : fitPartsD e n (evps qs env) with
  | false => simp [hf] at hK
  | true =>
    simp only [hf, cond_true, nrmPs_eq] at hK
    have hb' := getD_blk hb (by simp)
    obtain ⟨te, hu, hte, hz, hzo, hpos⟩ := elOK_und he
    obtain ⟨ie, z, hie, hiz, hzc⟩ := zero_info hz
    obtain ⟨ie', hie', hs⟩ := info_size hte
    rw [hie] at hie'
    injection hie' with hie'
    subst hie'
    have hzs := zsize hzo hzc
    simp at hn hnm
    have hrange : ((Array.range (n * ie.size)).map (z.cells[· % z.cells.size]!)).toList = (List.range (n * z.cells.size)).map fun j => z.cells[j % z.cells.size]! := by
      rw [Array.toList_map, Array.toList_range, hs, hzs]
    obtain ⟨cells', k1, k2, k3⟩ := fill_ar (cells := (Array.range (n * ie.size)).map (z.cells[· % z.cells.size]!)) (e := e) (n := n) hR.env hp hf (List.length_replicate ..) (by rw [hrange]; exact zeros_rel hzo hzc hpos n)
    have hparts : (parts.map fun (i, x) => (i, a.eval x)).toList = parts.toList.map fun p => (p.1, a.eval p.2) := by rw [Array.toList_map]
    have hrun : (Instr.buildSlice t n (parts.map fun (i, x) => (i, a.eval x))).run P w = .ok (.slice (some ⟨w.heap.size, 0, none⟩) n n) (w.alloc (.cells cells' te)) := by
      rcases Nat.eq_zero_or_pos n with h0 | h0
      · subst h0
        simp only [Nat.zero_mul] at k1
        have k1' : Instr.fill (fun i => some (i * ie.size, ie.size)) #[] (parts.toList.map fun p => (p.1, a.eval p.2)) = some cells' := by
          rw [← hs] at k1
          simpa [Array.range_zero'] using k1
        simp only [Instr.buildSlice, Sem.run_bind, run_underlying hu, Result.andThen_ok, tyOK_size hte w, Nat.zero_mul, hparts, Array.range_zero', Array.map_empty]
        rw [← hs, k1']
        simp [newRow]
      · exact run_buildSlice w t te n _ cells' ie z hu hie hiz (by rw [hs]; omega) (by rw [hs]; exact Nat.pos_iff_ne_zero.1 (Nat.mul_pos h0 hpos)) (by rw [hparts, hs]; rw [hs] at k1; exact k1)
    have hexec : (execOp a.eval o).run P w = .ok (.value (.slice (some ⟨w.heap.size, 0, none⟩) n n)) (w.alloc (.cells cells' te)) := by
      simp only [execOp, ho, Sem.run_bind]
      exact (congrArg (fun r => Result.andThen r fun a w' => (pure (Next.value a) : Sem Next).run P w') hrun)
    have hcs : n * e.size ≤ cells'.size := by
      have := k2.length
      rw [k3] at this
      simp at this
      omega
    cases fx with
    | true =>
      simp only [cond_true] at hK
      cases h0 : Nat.beq n 0 with
      | true =>
        simp only [h0, cond_true] at hK
        have hn0 : n = 0 := by simpa using h0
        subst hn0
        obtain ⟨g1, g2⟩ := new_junk hR (o := .cells cells' te) (w' := w.alloc (.cells cells' te)) ⟨w.drawn, rfl⟩
        refine wp_value hd hexec g1 g2 ?_ hK Q
        simp only [RelV, RelA]
        exact ⟨_, _, _, rfl, ⟨rfl, Nat.le_refl _, by omega, fun j x hj => by simp at hj⟩, rfl⟩
      | false =>
        simp only [h0, cond_false] at hK
        generalize hxs : setPartsD (List.replicate n (zeroD e)) (evps qs env) = xs at hK k2 k3
        subst k3
        exact op_fix hR hd hb' hpos ⟨w.drawn, rfl⟩ hexec (post := []) (RelL_nilpost k2) (Nat.le_refl _) hnm hcs hK Q
    | false =>
      simp only [cond_false] at hK
      generalize hxs : setPartsD (List.replicate n (zeroD e)) (evps qs env) = xs at hK k2 k3
      subst k3
      exact op_grow hR hd hb' hpos ⟨w.drawn, rfl⟩ hexec (post := []) (RelL_nilpost k2) (Nat.le_refl _) hnm hcs hK Q

/-! ### Made slices -/
theorem op_make0 (hR : Rel nt w S mu H env a) {o : Oper} {d off bs : Nat} {e : Ty} {l : Ar} {t : TypeId} {L C : Operand} (ho : o.op = .makeSlice t L C) (hd : dOK nt o.dst d = true) (he : elOK P t e = true) (hbs : elBytes P t bs = true) (hbp : Nat.blt 0 bs = true)
    (hl : arOK L l = true) (hc : arOK C l = true)
    (base : Nat) (hK : match H.getD (base + off) .dead, l.ev env with
      | .resv, .int _ n => Nd (0 ≤ n ∧ n * bs ≤ 281474976710656) <| K (put env d (.rsl (base + off) e 0 n.toNat)) (H.set (base + off) (.fix e (List.replicate n.toNat (zeroD e)) false))
      | _, _ => False) (Q : Exit → Act → World → Prop) : o.wp P a w (OpPost nt w S mu H K) Q := by
  have r1 := arOK_rel hR.env hl
  have r2 := arOK_rel hR.env hc
  cases hb : H.getD (base + off) .dead <;> cases hv : l.ev env <;> simp only [hb, hv] at hK
  rename_i k n
  obtain ⟨⟨h0, h1⟩, hK⟩ := hK
  rw [hv] at r1 r2
  have hb' := getD_blk hb (by simp)
  obtain ⟨te, hu, hte, hz, hzo, hpos⟩ := elOK_und he
  obtain ⟨ie, z, hie, hiz, hzc⟩ := zero_info hz
  obtain ⟨ie', hie', hs⟩ := info_size hte
  rw [hie] at hie'
  injection hie' with hie'
  subst hie'
  have hzs := zsize hzo hzc
  have hby : ie.bytes = bs := by
    unfold elBytes at hbs
    rw [hu] at hbs
    simp only [bytesOK, hie] at hbs
    simpa using hbs
  have hbp0 : 0 < bs := by simpa using hbp
  have hbp' : 1 ≤ bs := hbp0
  obtain ⟨m, rfl⟩ : ∃ m : Nat, n = m := ⟨n.toNat, by omega⟩
  simp only [Int.toNat_natCast] at hK
  have h1' : m * bs ≤ 281474976710656 := by
    have : ((m * bs : Nat) : Int) ≤ 281474976710656 := by rw [Int.natCast_mul]; exact h1
    omega
  have hmle : m ≤ 281474976710656 := by
    have : m * 1 ≤ m * bs := Nat.mul_le_mul_left _ hbp'
    omega
  have hrun := run_make (P := P) w t te ie z hu hie hiz k k m m (by omega) (by omega) (by rw [hby, Int.mul_comm]; exact h1) (by omega)
  simp only [Int.toNat_natCast] at hrun
  have hml : (madeCells z.cells (m * ie.size)).toList = (List.range (m * z.cells.size)).map fun j => z.cells[j % z.cells.size]! := by
    rw [madeCells, Array.toList_map, Array.toList_range, hs, hzs]
  have hrel : RelL e.size (RelD w S e) (madeCells z.cells (m * ie.size)).toList (List.replicate m (zeroD e)) := by rw [hml]; exact zeros_rel hzo hzc hpos m
  have hexec : (execOp a.eval o).run P w = .ok (.value (.slice (some ⟨w.heap.size, 0, none⟩) (List.replicate m (zeroD e)).length m)) (w.alloc (.cells (madeCells z.cells (m * ie.size)) te)) := by
    simp only [execOp, ho, r1.int.1, r2.int.1, Sem.run_bind, List.length_replicate]
    exact (congrArg (fun r => Result.andThen r fun a w' => (pure (Next.value a) : Sem Next).run P w') hrun)
  exact op_fix hR hd hb' hpos ⟨w.drawn, rfl⟩ hexec (post := []) (RelL_nilpost hrel) (by simp) (by simp [maxLen]; omega) (by rw [size_madeCells, hs]; omega) (by simpa using hK) Q

/-! ### Turns of how a row is seen -/
def isNilSl : Operand → Bool
  | .const (.slice none 0 0) => true
  | _ => false

theorem op_mk (hR : Rel nt w S mu H env a) {o : Oper} {d off : Nat} {e : Ty} {x : Ar} {X : Operand} (ho : o.op = .assign X ∨ o.op = .move X) (hX : arOK X x = true) (he : Nat.blt 0 e.size = true) (hd : dOK nt o.dst d = true)
    (orc : Orc) (base : Nat) (hK : awpOp orc base (.mk d off e x) env H K) (Q : Exit → Act → World → Prop) : o.wp P a w (OpPost nt w S mu H K) Q := by
  have r1 := arOK_rel hR.env hX
  simp only [awpOp] at hK
  have hex : (execOp a.eval o).run P w = .ok (.value (a.eval X)) w := by rcases ho with ho | ho <;> simp [execOp, ho]
  cases hv : x.ev env <;> simp only [hv] at hK
  case sl u xs tk =>
   cases tk <;> simp only at hK
   case full =>
    cases xs with
    | cons _ _ => simp only at hK
    | nil =>
    simp only at hK
    rw [hv] at r1
    cases hu : Ty.same u e <;> rw [hu] at hK
    · cases hK
    · have hu := Ty.same_eq _ _ hu
      subst hu
      simp only [cond_true] at hK
      cases hoff : Nat.ble 500 off with
      | true =>
        rw [hoff] at hK
        simp only [cond_true] at hK
        cases hb : H.getD (base + (off - 500)) .dead <;> simp only [hb] at hK
        have hb' := getD_blk hb (by simp)
        obtain ⟨mu', g1, g2⟩ := mkg_turn hR hb' (e := u) (by simpa using he)
        simp only [RelV, RelA] at r1
        obtain ⟨ad, n, c, e1, ⟨h1, h2, h3, _⟩, h4⟩ := r1
        injection e1 with e1
        simp only [RelT] at h4
        simp at h1
        subst h1; subst h4
        refine wp_value hd (v := .slice ad 0 0) (by rw [hex, e1]) g1 g2 ?_ hK Q
        simp only [RelV, RelA]
        refine ⟨ad, 0, rfl, Nat.le_refl _, by simp [maxLen], fun hh => by omega, .grw u [], by rw [set_get (lt_of_get hb'), if_pos rfl], rfl, (fun _ _ _ hh => by cases hh), fun e' xs' hh => by
          injection hh with q1 q2
          subst q1; subst q2
          exact ⟨rfl, fun _ => ⟨Nat.le_refl _, fun _ => .inl rfl⟩⟩⟩
      | false =>
      rw [hoff] at hK
      simp only [cond_false] at hK
      cases hb : H.getD (base + off) .dead <;> simp only [hb] at hK
      have hb' := getD_blk hb (by simp)
      obtain ⟨mu', g1, g2⟩ := mk_turn hR hb' (e := u) (by simpa using he)
      simp only [RelV, RelA] at r1
      obtain ⟨ad, n, c, e1, ⟨h1, h2, h3, _⟩, h4⟩ := r1
      injection e1 with e1
      simp only [RelT] at h4
      simp at h1
      subst h1; subst h4
      refine wp_value hd (v := .slice ad 0 0) (by rw [hex, e1]) g1 g2 ?_ hK Q
      simp only [RelV, RelA]
      refine ⟨ad, 0, 0, rfl, ⟨rfl, Nat.le_refl _, by simp [maxLen], fun j x hj => by simp at hj⟩, .ext u 0, by rw [set_get (lt_of_get hb'), if_pos rfl], rfl, ?_⟩
      intro e' m hh
      injection hh with q1 q2
      subst q1; subst q2
      exact ⟨rfl, Nat.le_refl _, fun _ => .inl rfl⟩
   case own id =>
    rw [hv] at r1
    exact wp_value hd hex hR (Ev.refl _ _ _ _) r1 hK Q
  case rsl id u o2 len =>
    rw [hv] at r1
    cases hb : H.getD id .dead <;> simp only [hb] at hK
    rename_i f xs
    have hb' := getD_blk hb (by simp)
    cases hu : (Ty.same f e && Nat.beq o2 0) <;> rw [hu] at hK
    · cases hK
    · rw [Bool.and_eq_true] at hu
      have ho2 := Nat.eq_of_beq_eq_true hu.2
      have hu := Ty.same_eq _ _ hu.1
      subst hu
      subst ho2
      simp only [cond_true] at hK
      cases hb2 : H.getD (base + off) .dead <;> simp only [hb2] at hK
      have hb2' := getD_blk hb2 (by simp)
      obtain ⟨⟨hlen, hpos⟩, hK⟩ := hK
      obtain ⟨ad, c, e1, hra⟩ := r1.rsl
      simp only [RelA] at hra
      obtain ⟨ad', c', q0, q1, q2, q3, blk, q4, _, q6⟩ := hra
      injection q0 with q0
      injection q0 with q00 q01 q02
      subst q00; subst q02
      rw [hb'] at q4
      injection q4 with q4
      subst q4
      obtain ⟨hfu, q7⟩ := q6.2 _ _ rfl
      subst hfu
      rcases (q7 trivial).2 hlen with hc0 | ⟨b, p1, p2, cells, ty, fr, p3, p4⟩
      · omega
      · obtain ⟨mu', g1, g2, g3⟩ := thaw_turn hR hb' hb2' p1
        refine wp_value hd (v := .slice ad len c) (by rw [hex, e1]) g1 g2 ?_ hK Q
        simp only [RelV, RelA]
        refine ⟨ad, c, rfl, q1, q2, q3, .fix f xs false, by rw [set_get (by simpa using lt_of_get hb2'), if_pos rfl], rfl, ?_, fun _ _ hh => by cases hh⟩
        intro e' xs' fz' hh
        injection hh with k1 k2 k3
        subst k1; subst k2
        exact ⟨rfl, by omega, b, g3, .inr (by rw [p2]; simp), cells, ty, fr, p3, by simpa using p4⟩

/-- From a row of fixed length to a growing one. -/
theorem fix_ext (hR : Rel nt w S mu H env a) {id : Nat} {e : Ty} {xs : List D} (hid : H[id]? = some (.fix e xs false)) (k : Nat) (hk : k ≤ xs.length) :
    ∃ S' b cells ty, mu id = some b ∧ w.heap[b]? = some (.cells cells ty (0, 0)) ∧ Rel nt w S' mu (H.set id (.ext e k)) env a ∧ Ev w S mu H w S' mu (H.set id (.ext e k)) ∧ (∀ o, S' b o ↔ o < k * e.size) ∧
      ∀ (j : Nat) (x : D), xs[j]? = some x → RelD w S e ((cells.toList.drop (j * e.size)).take e.size) x ∧ j * e.size + e.size ≤ cells.size := by
  obtain ⟨b, cells, ty, h1, h2, h3, h4, h5, h6⟩ := hR.heap.blk id _ hid
  have hks : k * e.size ≤ cells.size := Nat.le_trans (Nat.mul_le_mul_right _ hk) h4
  obtain ⟨S', g1, g2, g3⟩ := ghost_turn hR (blk' := .ext e k) hid rfl h1 h2 (fun o => o < k * e.size) (fun o ho => by omega) (.inr (.inr ⟨_, _, rfl⟩))
    (fun w' S' H' hc hT hS => ⟨h3, .inr ⟨b, cells, ty, h1, hc, hks, fun o hs => ((hS o).1 hs).elim (fun hs => absurd hs (h6 rfl o)) (fun hs => hs)⟩⟩)
  refine ⟨S', b, cells, ty, h1, h2, g1, g2, fun o => ⟨fun hs => ((g3 o).1 hs).elim (fun hs => absurd hs (h6 rfl o)) (fun hs => hs), fun hs => (g3 o).2 (.inr hs)⟩, fun j x hj => ⟨h5 j x hj, ?_⟩⟩
  have hjl : j < xs.length := by
    rcases Nat.lt_or_ge j xs.length with h | h
    · exact h
    · rw [List.getElem?_eq_none h] at hj; cases hj
  have : (j + 1) * e.size ≤ xs.length * e.size := Nat.mul_le_mul_right _ hjl
  rw [Nat.add_mul] at this
  omega

theorem close_row (hR : Rel nt w S mu H env a) {val : Value} {id : Nat} {u : Ty} {xs : List D} {len : Nat} (r1 : RelV w S mu H (.rsl id u 0 len) val) (hb' : H[id]? = some (.fix u xs false)) (hlen : len = xs.length) :
    ∃ S', Rel nt w S' mu (H.set id (.ext u xs.length)) env a ∧ Ev w S mu H w S' mu (H.set id (.ext u xs.length)) ∧ RelV w S' mu (H.set id (.ext u xs.length)) (.sl u xs (.own id)) val := by
  obtain ⟨ad, c, e1, hra⟩ := r1.rsl
  simp only [RelA] at hra
  obtain ⟨ad', c', q0, q1, q2, q3, blk, q4, q5, q6⟩ := hra
  injection q0 with q0
  injection q0 with q00 q01 q02
  subst q00; subst q02
  rw [hb'] at q4
  injection q4 with q4
  subst q4
  obtain ⟨_, _, b, p1, p2, cells, ty, fr, p3, p4⟩ := q6.1 _ _ _ rfl
  obtain ⟨S', b', cells', ty', g0, g1, g2, g3, g4, g5⟩ := fix_ext hR hb' xs.length (Nat.le_refl _)
  rw [p1] at g0
  injection g0 with g0
  subst g0
  rw [p3] at g1
  injection g1 with g1
  injection g1 with g11 g12 g13
  subst g11
  refine ⟨S', g2, g3, ?_⟩
  rw [e1]
  simp only [Nat.zero_mul, Nat.zero_add] at p2 p4
  simp only [RelV, RelA]
  refine ⟨ad, len, c, rfl, ⟨hlen.symm, q1, q2, fun j y hj => ?_⟩, .ext u xs.length, by rw [set_get (lt_of_get hb'), if_pos rfl], rfl, ?_⟩
  · obtain ⟨k1, k2⟩ := g5 j y hj
    have hjl : j < xs.length := by
      rcases Nat.lt_or_ge j xs.length with h | h
      · exact h
      · rw [List.getElem?_eq_none h] at hj; cases hj
    have hne : ¬ c = 0 := by omega
    have had : ad = some ⟨b, 0, none⟩ := p2.resolve_left hne
    have hle : j * u.size + u.size ≤ xs.length * u.size := by
      have : (j + 1) * u.size ≤ xs.length * u.size := Nat.mul_le_mul_right _ hjl
      rw [Nat.add_mul] at this
      omega
    refine ⟨b, 0, _, had, fun k v hk => ?_, by simp; omega, RelD.mono g3.turn.stab _ _ _ k1⟩
    have hkl : k < u.size := by
      rcases Nat.lt_or_ge k u.size with h | h
      · exact h
      · rw [List.getElem?_eq_none (by simp; omega)] at hk; cases hk
    rw [List.getElem?_take_of_lt hkl, List.getElem?_drop] at hk
    refine ⟨?_, (g4 _).2 (by omega)⟩
    rw [cell_of p3, ← Array.getElem?_toList, ← hk]
    congr 1
    omega
  · intro e' m hh
    injection hh with q1' q2'
    subst q1'; subst q2'
    refine ⟨rfl, by omega, fun _ => ?_⟩
    rcases p2 with p2 | p2
    · exact .inl p2
    · exact .inr ⟨b, p1, p2, cells, ty, fr, p3, by simpa using p4⟩
theorem get_put0 (e : Env) (d t : Nat) (v : AV) : get (put e d v) t = if d = t then v else get e t := by
  simp only [put, get]
  cases h : Nat.beq d t with
  | true => rw [if_pos (Nat.eq_of_beq_eq_true h)]; rfl
  | false =>
    have : ¬ d = t := fun e => by subst e; simp at h
    rw [if_neg this]
    rfl
theorem op_make (hR : Rel nt w S mu H env a) {o : Oper} {d off bs : Nat} {e : Ty} {l : Ar} {t : TypeId} {L C : Operand} (ho : o.op = .makeSlice t L C) (hd : dOK nt o.dst d = true) (he : elOK P t e = true) (hbs : elBytes P t bs = true) (hbp : Nat.blt 0 bs = true)
    (hl : arOK L l = true) (hc : arOK C l = true)
    (orc : Orc) (base : Nat) (hK : awpOp orc base (.make d off e bs l) env H K) (Q : Exit → Act → World → Prop) : o.wp P a w (OpPost nt w S mu H K) Q := by
  simp only [awpOp] at hK
  cases hoff : Nat.ble 500 off with
  | false =>
    rw [hoff] at hK
    exact op_make0 hR ho hd he hbs hbp hl hc base hK Q
  | true =>
    rw [hoff, cond_true] at hK
    refine Oper.wp_mono (fun a' w' hp => ?_) (op_make0 hR (off := off - 500) ho hd he hbs hbp hl hc base (K := fun e1 h1 => ∃ n : Nat, e1 = put env d (.rsl (base + (off - 500)) e 0 n) ∧ h1 = H.set (base + (off - 500)) (.fix e (List.replicate n (zeroD e)) false) ∧ base + (off - 500) < H.length ∧
      K (put env d (.sl e (List.replicate n (zeroD e)) (.own (base + (off - 500))))) (H.set (base + (off - 500)) (.ext e n))) ?_ Q)
    · obtain ⟨env', H', S', mu', hR', hE', n, rfl, rfl, hlt, hk⟩ := hp
      have hv := hR'.env d
      rw [get_put0, if_pos rfl] at hv
      obtain ⟨S'', g1, g2, g3⟩ := close_row hR' hv (xs := List.replicate n (zeroD e)) (by rw [List.getElem?_set_self hlt]) (by simp)
      rw [List.set_set, List.length_replicate] at g1 g2 g3
      refine ⟨_, _, S'', mu', ⟨fun t => ?_, g1.heap, g1.tmps, g1.defers⟩, hE'.trans g2, hk⟩
      rw [get_put0]
      split
      · rename_i h
        subst h
        exact g3
      · rename_i h
        have := g1.env t
        rw [get_put0, if_neg h] at this
        exact this
    · cases hb : H.getD (base + (off - 500)) .dead <;> cases hv : l.ev env <;> simp only [hb, hv] at hK ⊢
      obtain ⟨h0, hK⟩ := hK
      exact ⟨h0, _, rfl, rfl, lt_of_get (getD_blk hb (by simp)), hK⟩

theorem op_close (hR : Rel nt w S mu H env a) {o : Oper} {d : Nat} {x : Ar} {X : Operand} (ho : o.op = .assign X ∨ o.op = .move X) (hx : arOK X x = true) (hd : dOK nt o.dst d = true)
    (orc : Orc) (base : Nat) (hK : awpOp orc base (.close d x) env H K) (Q : Exit → Act → World → Prop) : o.wp P a w (OpPost nt w S mu H K) Q := by
  have r1 := arOK_rel hR.env hx
  simp only [awpOp] at hK
  cases hv : x.ev env <;> simp only [hv] at hK
  rename_i id u off len
  cases off with
  | succ off => simp only at hK
  | zero =>
    simp only at hK
    cases hbk : H.getD id .dead with
    | fix e xs fz =>
      cases fz with
      | true => simp only [hbk] at hK
      | false =>
        simp only [hbk] at hK
        cases hs : Ty.same u e with
        | false => simp [hs] at hK
        | true =>
          have := Ty.same_eq _ _ hs
          subst this
          simp only [hs, cond_true] at hK
          obtain ⟨hlen, hK⟩ := hK
          have hb' := getD_blk hbk (by simp)
          rw [hv] at r1
          obtain ⟨ad, c, e1, hra⟩ := r1.rsl
          simp only [RelA] at hra
          obtain ⟨ad', c', q0, q1, q2, q3, blk, q4, q5, q6⟩ := hra
          injection q0 with q0
          injection q0 with q00 q01 q02
          subst q00; subst q02
          rw [hb'] at q4
          injection q4 with q4
          subst q4
          obtain ⟨_, _, b, p1, p2, cells, ty, fr, p3, p4⟩ := q6.1 _ _ _ rfl
          obtain ⟨S', b', cells', ty', g0, g1, g2, g3, g4, g5⟩ := fix_ext hR hb' xs.length (Nat.le_refl _)
          rw [p1] at g0
          injection g0 with g0
          subst g0
          rw [p3] at g1
          injection g1 with g1
          injection g1 with g11 g12 g13
          subst g11
          refine wp_value hd (v := .slice ad len c) ?_ g2 g3 ?_ hK Q
          · rcases ho with ho | ho <;> simp [execOp, ho, e1]
          · simp only [Nat.zero_mul, Nat.zero_add] at p2 p4
            simp only [RelV, RelA]
            refine ⟨ad, len, c, rfl, ⟨hlen.symm, q1, q2, fun j y hj => ?_⟩, .ext u xs.length, by rw [set_get (lt_of_get hb'), if_pos rfl], rfl, ?_⟩
            · obtain ⟨k1, k2⟩ := g5 j y hj
              have hjl : j < xs.length := by
                rcases Nat.lt_or_ge j xs.length with h | h
                · exact h
                · rw [List.getElem?_eq_none h] at hj; cases hj
              have hne : ¬ c = 0 := by omega
              have had : ad = some ⟨b, 0, none⟩ := p2.resolve_left hne
              have hle : j * u.size + u.size ≤ xs.length * u.size := by
                have : (j + 1) * u.size ≤ xs.length * u.size := Nat.mul_le_mul_right _ hjl
                rw [Nat.add_mul] at this
                omega
              refine ⟨b, 0, _, had, fun k v hk => ?_, by simp; omega, RelD.mono g3.turn.stab _ _ _ k1⟩
              have hkl : k < u.size := by
                rcases Nat.lt_or_ge k u.size with h | h
                · exact h
                · rw [List.getElem?_eq_none (by simp; omega)] at hk; cases hk
              rw [List.getElem?_take_of_lt hkl, List.getElem?_drop] at hk
              refine ⟨?_, (g4 _).2 (by omega)⟩
              rw [cell_of p3, ← Array.getElem?_toList, ← hk]
              congr 1
              omega
            · intro e' m hh
              injection hh with q1' q2'
              subst q1'; subst q2'
              refine ⟨rfl, by omega, fun _ => ?_⟩
              rcases p2 with p2 | p2
              · exact .inl p2
              · exact .inr ⟨b, p1, p2, cells, ty, fr, p3, by simpa using p4⟩
    | var t v fz => simp only [hbk] at hK
    | resv => simp only [hbk] at hK
    | dead => simp only [hbk] at hK
    | ext e n => simp only [hbk] at hK
    | grw e n => simp only [hbk] at hK

theorem op_trim (hR : Rel nt w S mu H env a) {o : Oper} {d : Nat} {x hi : Ar} {t te : TypeId} {ti : TypeInfo} {X Hi : Operand} (ho : o.op = .slice t X none (some Hi) none) (hx : arOK X x = true) (hh : arOK Hi hi = true) (hu : P.underlying t = some (.slice te)) (hti : P.info? te = some ti) (hd : dOK nt o.dst d = true)
    (orc : Orc) (base : Nat) (hK : awpOp orc base (.trim d x hi) env H K) (Q : Exit → Act → World → Prop) : o.wp P a w (OpPost nt w S mu H K) Q := by
  have r1 := arOK_rel hR.env hx
  have r2 := arOK_rel hR.env hh
  simp only [awpOp] at hK
  cases hv : x.ev env <;> simp only [hv] at hK
  rename_i id u off len
  cases off with
  | succ off => simp only at hK
  | zero =>
    cases hh' : hi.ev env <;> simp only [hh'] at hK
    rename_i k n
    cases hbk : H.getD id .dead with
    | fix e' xs fz =>
      cases fz with
      | true => simp only [hbk] at hK
      | false =>
        simp only [hbk] at hK
        cases hs : Ty.same u e' with
        | false => simp [hs] at hK
        | true =>
          have := Ty.same_eq _ _ hs
          subst this
          simp only [hs, cond_true] at hK
          obtain ⟨⟨hlen, hn0⟩, hK⟩ := hK
          subst hn0
          have hb' := getD_blk hbk (by simp)
          rw [hv] at r1
          obtain ⟨ad, c, e1, hra⟩ := r1.rsl
          simp only [RelA] at hra
          obtain ⟨ad', c', q0, q1, q2, q3, blk, q4, q5, q6⟩ := hra
          injection q0 with q0
          injection q0 with q00 q01 q02
          subst q00; subst q02
          rw [hb'] at q4
          injection q4 with q4
          subst q4
          obtain ⟨_, _, b, p1, p2, cells, ty, fr, p3, p4⟩ := q6.1 _ _ _ rfl
          obtain ⟨S', b', cells', ty', g0, g1, g2, g3, g4, g5⟩ := fix_ext hR hb' 0 (Nat.zero_le _)
          rw [p1] at g0
          injection g0 with g0
          subst g0
          rw [hh'] at r2
          have hbd := run_bounds2 (P := P) (w := w) true len c (lo := none) (hi := some (a.eval Hi)) (l := 0) (h := 0) rfl ⟨k, r2.int.1⟩ (by omega) (by omega) (by omega)
          simp only [Int.toNat_zero] at hbd
          refine wp_value hd (v := .slice (if c = 0 then ad else ad.map (·.add (0 * ti.size))) (0 - 0) (c - 0)) ?_ g2 g3 ?_ hK Q
          · have hrun : (Instr.sliceAt t (.slice ad len c) none (some (a.eval Hi)) none).run P w = .ok (.slice (if c = 0 then ad else ad.map (·.add (0 * ti.size))) (0 - 0) (c - 0)) w := by
              simp [Instr.sliceAt, run_underlying hu, Instr.slice, hbd, sizeOf, typeInfo, hti]
            simp [execOp, ho, e1, hrun]
          · simp only [Nat.zero_mul, Nat.zero_add] at p2 p4
            simp only [RelV, RelA]
            refine ⟨_, _, _, rfl, ⟨rfl, by omega, by omega, fun j y hj => by simp at hj⟩, .ext u 0, by rw [set_get (lt_of_get hb'), if_pos rfl], rfl, ?_⟩
            intro e'' m hh
            injection hh with q1' q2'
            subst q1'; subst q2'
            refine ⟨rfl, by omega, fun _ => ?_⟩
            rcases p2 with p2 | p2
            · exact .inl (by omega)
            · refine .inr ⟨b, p1, ?_, cells, ty, fr, p3, by simpa using p4⟩
              subst p2
              split
              · rfl
              · simp [addr_add]
    | var t v fz => simp only [hbk] at hK
    | resv => simp only [hbk] at hK
    | dead => simp only [hbk] at hK
    | ext e n => simp only [hbk] at hK
    | grw e n => simp only [hbk] at hK

/-- The array that a variable holds, cut: it stays as it is from now on. -/
theorem op_acut (hR : Rel nt w S mu H env a) {o : Oper} {d n : Nat} {e : Ty} {x : Ar} {lo hi : Option Ar} {t : TypeId} {X : Operand} {Lo Hi : Option Operand} (ho : o.op = .slice t X Lo Hi none) (hx : arOK X x = true) (hl : optOK Lo lo = true) (hh : optOK Hi hi = true)
    (ht : tyOK P t (.arr n e) = true) (hnm : Nat.ble n maxLen = true) (hd : dOK nt o.dst d = true)
    (orc : Orc) (base : Nat) (hK : awpOp orc base (.acut d n e x lo hi) env H K) (Q : Exit → Act → World → Prop) : o.wp P a w (OpPost nt w S mu H K) Q := by
  have r1 := arOK_rel hR.env hx
  simp only [awpOp] at hK
  cases hv : x.ev env <;> simp only [hv] at hK
  rename_i id p u
  cases hs : Ty.same u (.arr n e) with
  | false => simp [hs] at hK
  | true =>
    have := Ty.same_eq _ _ hs
    subst this
    simp only [hs, cond_true] at hK
    cases hbk : H.getD id .dead with
    | var T v fz =>
      simp only [hbk] at hK
      have hb' := getD_blk hbk (by simp)
      rw [hv] at r1
      obtain ⟨b, o', e1, blk, hb, hu, hpl⟩ := r1.ptr
      rw [hb'] at hb
      injection hb with hb
      subst hb
      obtain ⟨g1, g2, g3⟩ := hpl (.inl ⟨_, _, _, rfl⟩)
      simp only [Blk.place] at g2
      simp only [Blk.ty] at g3
      cases hga : getA p v <;> simp only [hga] at hK
      rename_i m f xs
      cases hlo : optI lo env 0 with
      | none => simp only [hlo] at hK
      | some l =>
      cases hhi : optI hi env n with
      | none => simp only [hlo, hhi] at hK
      | some h =>
      simp only [hlo, hhi] at hK
      obtain ⟨⟨c0, c1, c2⟩, hK⟩ := hK
      have il := optI_rel hR.env hl hlo
      have ih := optI_rel hR.env hh hhi
      obtain ⟨b', cells, ty, k1, k2, k3, k4, k5, k6⟩ := hR.heap.blk id _ hb'
      rw [g1] at k1
      injection k1 with k1
      subst k1
      obtain ⟨pre, c, post, q1, q2, q3, q4⟩ := getA_rel k5 k4 g2
      rw [hga, g3] at q4
      simp [fitsV] at q4
      obtain ⟨rfl, hfe⟩ := q4
      have := Ty.same_eq _ _ hfe
      subst this
      rw [hga] at q3
      simp only [RelA] at q3
      obtain ⟨hlen, hrl⟩ := q3
      obtain ⟨S', s1, s2, s3⟩ := ghost_turn hR (blk' := .var T v true) hb' rfl g1 k2 (fun o => o < cells.size) (fun o ho => ho) (.inr ⟨_, _, rfl, rfl, fun _ => rfl⟩)
        (fun w' S' H' hc hT hS => ⟨b, cells, ty, g1, hc, k3, RelA.mono hT _ _ k4, k5, fun hf => by cases hf⟩)
      obtain ⟨dd, hdd, te, rfl, hte⟩ := tyOK_und ht
      have hbd := run_bounds2 (P := P) (w := w) false m m il ih c0 c1 (by omega)
      have hlies : Lies w S' b o' c := fun k v hk => by
        have hkl : k < c.length := by
          rcases Nat.lt_or_ge k c.length with h | h
          · exact h
          · rw [List.getElem?_eq_none h] at hk; cases hk
        refine ⟨by rw [← q2]; exact cells_mid k2 q1 k v hk, (s3 _).2 (.inr ?_)⟩
        have : cells.size = pre.length + (c.length + post.length) := by
          rw [← Array.length_toList, q1]; simp
        omega
      have hnm' : m ≤ maxLen := by simpa using hnm
      have hS := RelL_slice hlies (hrl.mono fun cs x hx => RelD.mono s2.turn.stab _ _ _ hx) (by rw [hlen]; exact hnm')
      have hc := RelS_cut hS (l := l.toNat) (k := h.toNat) (m := m) (by omega) (by omega) (by omega) (by omega)
      refine wp_value hd (v := .slice (some (if m = l.toNat then ⟨b, o', none⟩ else (⟨b, o', none⟩ : Addr).add (l.toNat * f.size))) (h.toNat - l.toNat) (m - l.toNat)) (by simp [execOp, ho, e1, run_slice_ar hdd hte hbd]) s1 s2 ?_ hK Q
      simp only [RelV, RelA]
      refine ⟨_, _, _, rfl, ?_, trivial⟩
      have hsome : (some (if m = l.toNat then (⟨b, o', none⟩ : Addr) else (⟨b, o', none⟩ : Addr).add (l.toNat * f.size))) = (if m = l.toNat then some (⟨b, o', none⟩ : Addr) else (some (⟨b, o', none⟩ : Addr)).map (·.add (l.toNat * f.size))) := by
        split <;> rfl
      rw [hsome]
      exact hc
    | fix e xs fz => simp only [hbk] at hK
    | resv => simp only [hbk] at hK
    | dead => simp only [hbk] at hK
    | ext e n => simp only [hbk] at hK
    | grw e n => simp only [hbk] at hK
end
end Go.Vc
