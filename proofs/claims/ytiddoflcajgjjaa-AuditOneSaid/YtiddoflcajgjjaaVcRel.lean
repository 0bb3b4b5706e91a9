/- The relation between the abstract machine's values and the model's, and what keeps it. -/
import Derived.Test.YtiddoflcajgjjaaVcDef
import GoSem.ClaimData
import Derived.Laws.World
import Derived.Calls
set_option linter.unusedVariables false
set_option linter.unusedSimpArgs false
namespace Go.Vc

def Lies (w : World) (S : Nat → Nat → Prop) (b o : Nat) (cs : List Value) : Prop :=
  ∀ (k : Nat) (v : Value), cs[k]? = some v → w.cell? ⟨b, o + k, none⟩ = some v ∧ S b (o + k)

def RelS (w : World) (S : Nat → Nat → Prop) (sz : Nat) (R : List Value → D → Prop) (a : Option Addr) (n c : Nat) (xs : List D) : Prop :=
  xs.length = n ∧ n ≤ c ∧ c ≤ maxLen ∧
  ∀ (j : Nat) (x : D), xs[j]? = some x → ∃ b o cs, a = some ⟨b, o, none⟩ ∧ Lies w S b (o + j * sz) cs ∧ cs.length = sz ∧ R cs x

def RelL (sz : Nat) (R : List Value → D → Prop) : List Value → List D → Prop
  | cs, [] => cs = []
  | cs, x :: xs => ∃ c1 c2, cs = c1 ++ c2 ∧ c1.length = sz ∧ R c1 x ∧ RelL sz R c2 xs

mutual
def RelD (w : World) (S : Nat → Nat → Prop) : Ty → List Value → D → Prop
  | .int k, cs, d => cs = [.int k d.int] ∧ k.has d.int ∧ d = .i d.int
  | .bool, cs, d => cs = [.bool d.bool]
  | .str, cs, d => cs = [.string d.str] ∧ d.str.size ≤ maxLen
  | .sl e, cs, d => ∃ a n c, cs = [.slice a n c] ∧ RelS w S e.size (RelD w S e) a n c d.list
  | .st ts, cs, d => RelDs w S ts 0 cs d
  | .arr n e, cs, d => d.fs.length = n ∧ RelL e.size (RelD w S e) cs d.fs
  | _, _, _ => False
def RelDs (w : World) (S : Nat → Nat → Prop) : List Ty → Nat → List Value → D → Prop
  | [], _, cs, _ => cs = []
  | t :: ts, i, cs, d => ∃ c1 c2, cs = c1 ++ c2 ∧ RelD w S t c1 (d.fld i) ∧ RelDs w S ts (i + 1) c2 d
end

/-! ### Lengths -/
theorem RelL.length {sz : Nat} {R : List Value → D → Prop} : ∀ {cs : List Value} {xs : List D}, RelL sz R cs xs → cs.length = xs.length * sz
  | cs, [], h => by simp [RelL] at h; simp [h]
  | cs, x :: xs, h => by
    obtain ⟨c1, c2, rfl, h1, _, h2⟩ := h
    simp [h1, RelL.length h2, Nat.add_mul]
    omega

mutual
theorem RelD.length {w : World} {S : Nat → Nat → Prop} : ∀ {t : Ty} {cs : List Value} {d : D}, RelD w S t cs d → cs.length = t.size
  | .int k, cs, d, h => by simp [RelD] at h; simp [h.1, Ty.size]
  | .bool, cs, d, h => by simp [RelD] at h; simp [h, Ty.size]
  | .str, cs, d, h => by simp [RelD] at h; simp [h.1, Ty.size]
  | .sl e, cs, d, h => by simp only [RelD] at h; obtain ⟨a, n, c, rfl, _⟩ := h; simp [Ty.size]
  | .st ts, cs, d, h => by simp only [RelD] at h; simp only [Ty.size]; exact RelDs.length h
  | .arr n e, cs, d, h => by simp only [RelD] at h; simp only [Ty.size]; rw [h.2.length, h.1]
  | .ptr, _, _, h => by simp [RelD] at h
  | .fn, _, _, h => by simp [RelD] at h
  | .op, _, _, h => by simp [RelD] at h
theorem RelDs.length {w : World} {S : Nat → Nat → Prop} : ∀ {ts : List Ty} {i : Nat} {cs : List Value} {d : D}, RelDs w S ts i cs d → cs.length = Ty.sizes ts
  | [], _, cs, d, h => by simp [RelDs] at h; simp [h, Ty.sizes]
  | t :: ts, i, cs, d, h => by
    simp only [RelDs] at h
    obtain ⟨c1, c2, rfl, h1, h2⟩ := h
    simp [Ty.sizes, RelD.length h1, RelDs.length h2]
end

/-! ### What keeps data -/
structure Stab (w : World) (S : Nat → Nat → Prop) (w' : World) (S' : Nat → Nat → Prop) : Prop where
  cell : ∀ b o, S b o → w'.cell? ⟨b, o, none⟩ = w.cell? ⟨b, o, none⟩
  more : ∀ b o, S b o → S' b o

theorem Stab.refl (w : World) (S : Nat → Nat → Prop) : Stab w S w S := ⟨fun _ _ _ => rfl, fun _ _ h => h⟩
theorem Stab.trans {w w1 w2 : World} {S S1 S2 : Nat → Nat → Prop} (h : Stab w S w1 S1) (k : Stab w1 S1 w2 S2) : Stab w S w2 S2 :=
  ⟨fun b o hs => (k.cell b o (h.more b o hs)).trans (h.cell b o hs), fun b o hs => k.more b o (h.more b o hs)⟩

theorem Lies.mono {w w' : World} {S S' : Nat → Nat → Prop} (hs : Stab w S w' S') {b o : Nat} {cs : List Value} (h : Lies w S b o cs) : Lies w' S' b o cs :=
  fun k v hk => ⟨by rw [hs.cell _ _ (h k v hk).2]; exact (h k v hk).1, hs.more _ _ (h k v hk).2⟩

theorem RelS.mono {w w' : World} {S S' : Nat → Nat → Prop} (hs : Stab w S w' S') {sz : Nat} {R R' : List Value → D → Prop} (hR : ∀ cs x, R cs x → R' cs x)
    {a : Option Addr} {n c : Nat} {xs : List D} (h : RelS w S sz R a n c xs) : RelS w' S' sz R' a n c xs :=
  ⟨h.1, h.2.1, h.2.2.1, fun j x hj => by
    obtain ⟨b, o, cs, ha, hl, hn, hr⟩ := h.2.2.2 j x hj
    exact ⟨b, o, cs, ha, hl.mono hs, hn, hR _ _ hr⟩⟩

theorem RelL.mono {sz : Nat} {R R' : List Value → D → Prop} (hR : ∀ cs x, R cs x → R' cs x) : ∀ {cs : List Value} {xs : List D}, RelL sz R cs xs → RelL sz R' cs xs
  | _, [], h => h
  | _, _ :: _, h => by
    obtain ⟨c1, c2, h0, h1, h2, h3⟩ := h
    exact ⟨c1, c2, h0, h1, hR _ _ h2, RelL.mono hR h3⟩

mutual
theorem RelD.mono {w w' : World} {S S' : Nat → Nat → Prop} (hs : Stab w S w' S') : ∀ (t : Ty) (cs : List Value) (d : D), RelD w S t cs d → RelD w' S' t cs d
  | .int k, cs, d, h => by simpa only [RelD] using h
  | .bool, cs, d, h => by simpa only [RelD] using h
  | .str, cs, d, h => by simpa only [RelD] using h
  | .sl e, cs, d, h => by
    simp only [RelD] at h ⊢
    obtain ⟨a, n, c, h0, h1⟩ := h
    exact ⟨a, n, c, h0, h1.mono hs (fun cs x hx => RelD.mono hs e cs x hx)⟩
  | .st ts, cs, d, h => by simp only [RelD] at h ⊢; exact RelDs.mono hs ts 0 cs d h
  | .arr n e, cs, d, h => by simp only [RelD] at h ⊢; exact ⟨h.1, h.2.mono (fun cs x hx => RelD.mono hs e cs x hx)⟩
  | .ptr, _, _, h => by simp [RelD] at h
  | .fn, _, _, h => by simp [RelD] at h
  | .op, _, _, h => by simp [RelD] at h
theorem RelDs.mono {w w' : World} {S S' : Nat → Nat → Prop} (hs : Stab w S w' S') : ∀ (ts : List Ty) (i : Nat) (cs : List Value) (d : D), RelDs w S ts i cs d → RelDs w' S' ts i cs d
  | [], _, cs, d, h => by simpa only [RelDs] using h
  | t :: ts, i, cs, d, h => by
    simp only [RelDs] at h ⊢
    obtain ⟨c1, c2, h0, h1, h2⟩ := h
    exact ⟨c1, c2, h0, RelD.mono hs t c1 _ h1, RelDs.mono hs ts (i + 1) c2 d h2⟩
end

/-! ### Places in a variable -/
def offP : Ty → List PStep → Option Nat
  | _, [] => some 0
  | .st ts, .fld i :: p => if i < ts.length then (offP (ts.getD i .op) p).map (Ty.sizes (ts.take i) + ·) else none
  | .arr n e, .idx k :: p => if k < n then (offP e p).map (k * e.size + ·) else none
  | _, _ => none
def Blk.place : Blk → List PStep → Option Nat
  | .var t _ _, p => offP t p
  | .fix e xs _, .idx k :: p => if k < xs.length then (offP e p).map (k * e.size + ·) else none
  | _, _ => none
def Blk.ty : Blk → List PStep → Ty
  | .var t _ _, p => endP t p
  | .fix e _ _, .idx _ :: p => endP e p
  | _, _ => .op
def Blk.live : Blk → Bool
  | .var .. => true | .fix .. => true | .ext .. => true | .grw .. => true | _ => false
def Blk.grows : Blk → Bool
  | .dead => true | .ext .. => true | _ => false
def Blk.row : Blk → Bool
  | .dead => true | .fix .. => true | .ext .. => true | .grw .. => true | _ => false
def Blk.used : Blk → Bool
  | .resv => false | _ => true

abbrev Mu := Nat → Option Nat

def RelT (w : World) (mu : Mu) (H : Heap) (e : Ty) (a : Option Addr) (n c : Nat) : Tok → Prop
  | .no => True
  | .full => c = n
  | .own id => ∃ blk, H[id]? = some blk ∧ blk.grows = true ∧ ∀ e' m, blk = .ext e' m → e' = e ∧ n ≤ m ∧
      (n = m → c = 0 ∨ ∃ b, mu id = some b ∧ a = some ⟨b, 0, none⟩ ∧ ∃ cells t fr, w.heap[b]? = some (Obj.cells cells t fr) ∧ c * e.size ≤ cells.size)

mutual
def RelA (w : World) (S : Nat → Nat → Prop) (mu : Mu) (H : Heap) : AV → List Value → Prop
  | .undef, _ => False
  | .int k n, cs => cs = [.int k n] ∧ k.has n
  | .bool b, cs => cs = [.bool b]
  | .str s, cs => cs = [.string s] ∧ s.size ≤ maxLen
  | .sl e xs t, cs => ∃ a n c, cs = [.slice a n c] ∧ RelS w S e.size (RelD w S e) a n c xs ∧ RelT w mu H e a n c t
  | .rsl id e0 off len, cs => ∃ a c, cs = [.slice a len c] ∧ len ≤ c ∧ c ≤ maxLen ∧ (0 < len → ∃ b o, a = some ⟨b, o, none⟩) ∧ ∃ blk, H[id]? = some blk ∧ blk.row = true ∧ (∀ e xs fz, blk = .fix e xs fz →
      e = e0 ∧ off + len ≤ xs.length ∧ ∃ b, mu id = some b ∧ (c = 0 ∨ a = some ⟨b, off * e.size, none⟩) ∧ ∃ cells t fr, w.heap[b]? = some (Obj.cells cells t fr) ∧ (off + c) * e.size ≤ cells.size) ∧
      ∀ e xs, blk = .grw e xs → e = e0 ∧ (off = 0 → len ≤ xs.length ∧ (len = xs.length → c = 0 ∨ ∃ b, mu id = some b ∧ a = some ⟨b, 0, none⟩ ∧ ∃ cells t fr, w.heap[b]? = some (Obj.cells cells t fr) ∧ c * e.size ≤ cells.size))
  | .st vs, cs => RelAs w S mu H vs cs
  | .arr n e xs, cs => xs.length = n ∧ RelL e.size (RelD w S e) cs xs
  | .ptr id p ty, cs => ∃ b o, cs = [.pointer (some ⟨b, o, none⟩)] ∧ ∃ blk, H[id]? = some blk ∧ blk.used = true ∧
      ((∃ t v fz, blk = .var t v fz) ∨ (∃ e xs fz, blk = .fix e xs fz) → mu id = some b ∧ blk.place p = some o ∧ blk.ty p = ty)
  | .cptr t d, cs => ∃ b o, cs = [.pointer (some ⟨b, o, none⟩)] ∧ ∃ cells, Lies w S b o cells ∧ RelD w S t cells d
  | .nilp, cs => cs = [.pointer none]
  | .fn f caps, cs => ∃ vs, cs = [.func (.func f) #[] vs] ∧ RelC w S mu H caps vs.toList
  | .nilfn, cs => cs = [.nilFunc]
  | .tup _, _ => False
def RelAs (w : World) (S : Nat → Nat → Prop) (mu : Mu) (H : Heap) : List AV → List Value → Prop
  | [], cs => cs = []
  | v :: vs, cs => ∃ c1 c2, cs = c1 ++ c2 ∧ RelA w S mu H v c1 ∧ RelAs w S mu H vs c2
/-- One cell each. -/
def RelC (w : World) (S : Nat → Nat → Prop) (mu : Mu) (H : Heap) : List AV → List Value → Prop
  | [], cs => cs = []
  | v :: vs, cs => ∃ c cs', cs = c :: cs' ∧ RelA w S mu H v [c] ∧ RelC w S mu H vs cs'
end

mutual
/-- A slot's value. -/
def RelV (w : World) (S : Nat → Nat → Prop) (mu : Mu) (H : Heap) : AV → Value → Prop
  | .undef, _ => True
  | .tup vs, v => ∃ us, v = .tuple us ∧ RelVs w S mu H vs us.toList
  | .st vs, v => ∃ cs, v = .agg cs ∧ RelA w S mu H (.st vs) cs.toList
  | .arr n e xs, v => ∃ cs, v = .agg cs ∧ RelA w S mu H (.arr n e xs) cs.toList
  | a, v => RelA w S mu H a [v]
def RelVs (w : World) (S : Nat → Nat → Prop) (mu : Mu) (H : Heap) : List AV → List Value → Prop
  | [], us => us = []
  | v :: vs, us => ∃ u us', us = u :: us' ∧ RelV w S mu H v u ∧ RelVs w S mu H vs us'
end

def RelB (w : World) (S : Nat → Nat → Prop) (mu : Mu) (H : Heap) (id : Nat) : Blk → Prop
  | .resv => True
  | .dead => True
  | .var t v fz => ∃ b cells ty, mu id = some b ∧ w.heap[b]? = some (.cells cells ty (0, 0)) ∧ cells.size = t.size ∧ RelA w S mu H v cells.toList ∧ fitsV v t = true ∧ (fz = false → ∀ o, ¬ S b o)
  | .fix e xs fz => ∃ b cells ty, mu id = some b ∧ w.heap[b]? = some (.cells cells ty (0, 0)) ∧ 0 < e.size ∧ xs.length * e.size ≤ cells.size ∧
      (∀ (j : Nat) (x : D), xs[j]? = some x → RelD w S e ((cells.toList.drop (j * e.size)).take e.size) x) ∧ (fz = false → ∀ o, ¬ S b o)
  | .ext e m => 0 < e.size ∧ ((m = 0 ∧ mu id = none) ∨ ∃ b cells ty, mu id = some b ∧ w.heap[b]? = some (.cells cells ty (0, 0)) ∧ m * e.size ≤ cells.size ∧ ∀ o, S b o → o < m * e.size)
  | .grw e xs => 0 < e.size ∧ ((xs = [] ∧ mu id = none) ∨ ∃ b cells ty, mu id = some b ∧ w.heap[b]? = some (.cells cells ty (0, 0)) ∧ xs.length * e.size ≤ cells.size ∧
      (∀ (j : Nat) (x : D), xs[j]? = some x → RelD w S e ((cells.toList.drop (j * e.size)).take e.size) x) ∧ ∀ o, ¬ S b o)

structure RelH (w : World) (S : Nat → Nat → Prop) (mu : Mu) (H : Heap) : Prop where
  blk : ∀ id b, H[id]? = some b → RelB w S mu H id b
  inj : ∀ i j bi bj b, H[i]? = some bi → H[j]? = some bj → bi.live = true → bj.live = true → mu i = some b → mu j = some b → i = j
  there : ∀ b o, S b o → ∃ v, w.cell? ⟨b, o, none⟩ = some v
  mus : ∀ i b, mu i = some b → b < w.heap.size

/-- How a block may turn. -/
def Compat (b b' : Blk) (m m' : Option Nat) : Prop :=
  match b with
  | .resv => True
  | .dead => b' = .dead
  | .var t _ fz => b' = .dead ∨ ∃ v fz', b' = .var t v fz' ∧ m' = m ∧ (fz = true → fz' = true)
  | .fix e xs _ => b' = .dead ∨ (∃ xs' fz', b' = .fix e xs' fz' ∧ xs'.length = xs.length ∧ m' = m) ∨ ∃ e' n, b' = .ext e' n
  | .ext e n => b' = .dead ∨ ∃ n', b' = .ext e n' ∧ ((n' = n ∧ m' = m) ∨ n < n')
  | .grw e xs => b' = .dead ∨ ∃ xs', b' = .grw e xs' ∧ ((xs'.length = xs.length ∧ m' = m) ∨ xs.length < xs'.length)

structure Turn (w : World) (S : Nat → Nat → Prop) (mu : Mu) (H : Heap) (w' : World) (S' : Nat → Nat → Prop) (mu' : Mu) (H' : Heap) : Prop where
  stab : Stab w S w' S'
  wide : ∀ (b : Nat) (cells : Array Value) (t : TypeId) (fr : Nat × Nat), w.heap[b]? = some (Obj.cells cells t fr) → ∃ (cells' : Array Value) (fr' : Nat × Nat), w'.heap[b]? = some (Obj.cells cells' t fr') ∧ cells'.size = cells.size
  compat : ∀ id b, H[id]? = some b → ∃ b', H'[id]? = some b' ∧ Compat b b' (mu id) (mu' id)

theorem Compat.refl (b : Blk) (m : Option Nat) : Compat b b m m := by
  cases b <;> simp only [Compat]
  · exact .inr ⟨_, _, rfl, trivial, id⟩
  · exact .inr (.inl ⟨_, _, rfl, rfl, trivial⟩)
  · exact .inr ⟨_, rfl, .inl ⟨rfl, trivial⟩⟩
  · exact .inr ⟨_, rfl, .inl ⟨rfl, trivial⟩⟩
theorem Compat.used {b b' : Blk} {m m' : Option Nat} (h : Compat b b' m m') (hu : b.used = true) : b'.used = true := by
  cases b <;> simp [Blk.used] at hu <;> simp only [Compat] at h
  · rw [h]; rfl
  · rcases h with rfl | ⟨_, _, rfl, _⟩ <;> rfl
  · rcases h with rfl | ⟨_, _, rfl, _⟩ | ⟨_, _, rfl⟩ <;> rfl
  · rcases h with rfl | ⟨_, rfl, _⟩ <;> rfl
  · rcases h with rfl | ⟨_, rfl, _⟩ <;> rfl
theorem Compat.row {b b' : Blk} {m m' : Option Nat} (h : Compat b b' m m') (hu : b.row = true) : b'.row = true := by
  cases b <;> simp [Blk.row] at hu <;> simp only [Compat] at h
  · rw [h]; rfl
  · rcases h with rfl | ⟨_, _, rfl, _⟩ | ⟨_, _, rfl⟩ <;> rfl
  · rcases h with rfl | ⟨_, rfl, _⟩ <;> rfl
  · rcases h with rfl | ⟨_, rfl, _⟩ <;> rfl
theorem Compat.trans {b b1 b2 : Blk} {m m1 m2 : Option Nat} (h : Compat b b1 m m1) (k : Compat b1 b2 m1 m2) : Compat b b2 m m2 := by
  cases b with
  | resv => trivial
  | dead => simp only [Compat] at h; subst h; simpa only [Compat] using k
  | var t v fz =>
    simp only [Compat] at h ⊢
    rcases h with rfl | ⟨v1, fz1, rfl, rfl, hf⟩
    · exact .inl (by simpa only [Compat] using k)
    · simp only [Compat] at k
      rcases k with rfl | ⟨v2, fz2, rfl, rfl, hf2⟩
      · exact .inl rfl
      · exact .inr ⟨v2, fz2, rfl, rfl, fun hh => hf2 (hf hh)⟩
  | fix e xs fz =>
    simp only [Compat] at h ⊢
    rcases h with rfl | ⟨xs1, fz1, rfl, hl, rfl⟩ | ⟨e1, n1, rfl⟩
    · exact .inl (by simpa only [Compat] using k)
    · simp only [Compat] at k
      rcases k with rfl | ⟨xs2, fz2, rfl, hl2, rfl⟩ | ⟨e2, n2, rfl⟩
      · exact .inl rfl
      · exact .inr (.inl ⟨xs2, fz2, rfl, hl2.trans hl, rfl⟩)
      · exact .inr (.inr ⟨e2, n2, rfl⟩)
    · simp only [Compat] at k
      rcases k with rfl | ⟨n2, rfl, _⟩
      · exact .inl rfl
      · exact .inr (.inr ⟨e1, n2, rfl⟩)
  | ext e n =>
    simp only [Compat] at h ⊢
    rcases h with rfl | ⟨n1, rfl, h1⟩
    · exact .inl (by simpa only [Compat] using k)
    · simp only [Compat] at k
      rcases k with rfl | ⟨n2, rfl, h2⟩
      · exact .inl rfl
      · refine .inr ⟨n2, rfl, ?_⟩
        rcases h1 with ⟨rfl, rfl⟩ | h1 <;> rcases h2 with ⟨rfl, rfl⟩ | h2
        · exact .inl ⟨rfl, rfl⟩
        · exact .inr h2
        · exact .inr h1
        · exact .inr (Nat.lt_trans h1 h2)
  | grw e xs =>
    simp only [Compat] at h ⊢
    rcases h with rfl | ⟨xs1, rfl, h1⟩
    · exact .inl (by simpa only [Compat] using k)
    · simp only [Compat] at k
      rcases k with rfl | ⟨xs2, rfl, h2⟩
      · exact .inl rfl
      · refine .inr ⟨xs2, rfl, ?_⟩
        rcases h1 with ⟨h1, rfl⟩ | h1 <;> rcases h2 with ⟨h2, rfl⟩ | h2
        · exact .inl ⟨h2.trans h1, rfl⟩
        · exact .inr (by omega)
        · exact .inr (by omega)
        · exact .inr (Nat.lt_trans h1 h2)

theorem Turn.refl (w : World) (S : Nat → Nat → Prop) (mu : Mu) (H : Heap) : Turn w S mu H w S mu H :=
  ⟨Stab.refl w S, fun _ c _ fr h => ⟨c, fr, h, rfl⟩, fun id b h => ⟨b, h, Compat.refl b _⟩⟩
theorem Turn.trans {w w1 w2 : World} {S S1 S2 : Nat → Nat → Prop} {mu mu1 mu2 : Mu} {H H1 H2 : Heap} (h : Turn w S mu H w1 S1 mu1 H1) (k : Turn w1 S1 mu1 H1 w2 S2 mu2 H2) :
    Turn w S mu H w2 S2 mu2 H2 :=
  ⟨h.stab.trans k.stab, fun b c t fr hb => by
    obtain ⟨c1, fr1, h1, e1⟩ := h.wide b c t fr hb
    obtain ⟨c2, fr2, h2, e2⟩ := k.wide b c1 t fr1 h1
    exact ⟨c2, fr2, h2, e2.trans e1⟩, fun id b hb => by
    obtain ⟨b1, h1, e1⟩ := h.compat id b hb
    obtain ⟨b2, h2, e2⟩ := k.compat id b1 h1
    exact ⟨b2, h2, e1.trans e2⟩⟩

section
variable {w w' : World} {S S' : Nat → Nat → Prop} {mu mu' : Mu} {H H' : Heap}

theorem Compat.place {b b' : Blk} {m m' : Option Nat} (h : Compat b b' m m') (hb : (∃ t v fz, b' = .var t v fz) ∨ (∃ e xs fz, b' = .fix e xs fz)) (hu : b.used = true) (p : List PStep) :
    ((∃ t v fz, b = .var t v fz) ∨ (∃ e xs fz, b = .fix e xs fz)) ∧ m' = m ∧ b'.place p = b.place p ∧ b'.ty p = b.ty p := by
  cases b with
  | resv => simp [Blk.used] at hu
  | dead => simp only [Compat] at h; subst h; simp at hb
  | var t v fz =>
    simp only [Compat] at h
    rcases h with rfl | ⟨v1, fz1, rfl, rfl, _⟩
    · simp at hb
    · exact ⟨.inl ⟨_, _, _, rfl⟩, rfl, rfl, rfl⟩
  | fix e xs fz =>
    simp only [Compat] at h
    rcases h with rfl | ⟨xs1, fz1, rfl, hl, rfl⟩ | ⟨_, _, rfl⟩
    · simp at hb
    · refine ⟨.inr ⟨_, _, _, rfl⟩, rfl, ?_, ?_⟩
      · cases p with
        | nil => rfl
        | cons s p => cases s <;> simp [Blk.place, hl]
      · cases p with
        | nil => rfl
        | cons s p => cases s <;> rfl
    · simp at hb
  | ext e n =>
    simp only [Compat] at h
    rcases h with rfl | ⟨_, rfl, _⟩ <;> simp at hb
  | grw e xs =>
    simp only [Compat] at h
    rcases h with rfl | ⟨_, rfl, _⟩ <;> simp at hb

theorem RelT.mono (h : Turn w S mu H w' S' mu' H') {e : Ty} {a : Option Addr} {n c : Nat} {t : Tok} (hr : RelT w mu H e a n c t) : RelT w' mu' H' e a n c t := by
  cases t with
  | no => trivial
  | full => exact hr
  | own id =>
    obtain ⟨blk, hb, hu, hx⟩ := hr
    obtain ⟨blk', hb', hc⟩ := h.compat id blk hb
    have hg : blk'.grows = true := by
      cases blk <;> simp [Blk.grows] at hu <;> simp only [Compat] at hc
      · rw [hc]; rfl
      · rcases hc with rfl | ⟨_, rfl, _⟩ <;> rfl
    refine ⟨blk', hb', hg, ?_⟩
    rintro e' m rfl
    cases blk with
    | resv => simp [Blk.grows] at hu
    | dead => simp [Compat] at hc
    | var t v fz => simp [Blk.grows] at hu
    | fix e0 xs fz => simp [Blk.grows] at hu
    | grw e0 xs => simp [Blk.grows] at hu
    | ext e0 n0 =>
      obtain ⟨he, hn, hx⟩ := hx e0 n0 rfl
      subst he
      simp only [Compat] at hc
      rcases hc with hc | ⟨n', hc, hm⟩
      · cases hc
      · injection hc with h1 h2
        subst h1; subst h2
        refine ⟨rfl, by omega, fun hnm => ?_⟩
        rcases hm with ⟨rfl, hmu⟩ | hlt
        · rcases hx hnm with hx | ⟨b, h1, h2, cells, ty, fr, h3, h4⟩
          · exact .inl hx
          · obtain ⟨c1, fr1, h5, h6⟩ := h.wide b cells ty fr h3
            exact .inr ⟨b, by rw [hmu, h1], h2, c1, ty, fr1, h5, by omega⟩
        · omega

mutual
theorem RelA.mono (h : Turn w S mu H w' S' mu' H') : ∀ (v : AV) (cs : List Value), RelA w S mu H v cs → RelA w' S' mu' H' v cs
  | .undef, _, hr => by simp [RelA] at hr
  | .int k n, cs, hr => by simpa only [RelA] using hr
  | .bool b, cs, hr => by simpa only [RelA] using hr
  | .str s, cs, hr => by simpa only [RelA] using hr
  | .sl e xs t, cs, hr => by
    simp only [RelA] at hr ⊢
    obtain ⟨a, n, c, h0, h1, h2⟩ := hr
    exact ⟨a, n, c, h0, h1.mono h.stab (fun cs x hx => RelD.mono h.stab e cs x hx), h2.mono h⟩
  | .rsl id e1 off len, cs, hr => by
    simp only [RelA] at hr ⊢
    obtain ⟨a, c, h0, h1, h2, h3, blk, hb, hu, hx⟩ := hr
    obtain ⟨blk', hb', hc⟩ := h.compat id blk hb
    refine ⟨a, c, h0, h1, h2, h3, blk', hb', hc.row hu, ?_, ?_⟩
    · rintro e xs fz rfl
      cases blk with
      | resv => simp [Blk.row] at hu
      | dead => simp [Compat] at hc
      | var t v fz => simp [Blk.row] at hu
      | ext e0 n0 => simp [Compat] at hc
      | grw e0 xs0 => simp [Compat] at hc
      | fix e0 xs0 fz0 =>
        obtain ⟨g0, g1, b, g2, g3, cells, ty, fr, g4, g5⟩ := hx.1 e0 xs0 fz0 rfl
        simp only [Compat] at hc
        rcases hc with hc | ⟨xs1, fz1, hc, hl, hm⟩ | ⟨_, _, hc⟩
        · cases hc
        · injection hc with k1 k2 k3
          subst k1; subst k2
          obtain ⟨c1, fr1, k4, k5⟩ := h.wide b cells ty fr g4
          exact ⟨g0, by omega, b, by rw [hm, g2], g3, c1, ty, fr1, k4, by omega⟩
        · cases hc
    · rintro e xs rfl
      cases blk with
      | resv => simp [Blk.row] at hu
      | dead => simp [Compat] at hc
      | var t v fz => simp [Blk.row] at hu
      | ext e0 n0 => simp [Compat] at hc
      | fix e0 xs0 fz0 => simp [Compat] at hc
      | grw e0 xs0 =>
        obtain ⟨g0, g1⟩ := hx.2 e0 xs0 rfl
        simp only [Compat] at hc
        rcases hc with hc | ⟨xs1, hc, hm⟩
        · cases hc
        · injection hc with k1 k2
          subst k1; subst k2
          refine ⟨g0, fun hoff => ?_⟩
          obtain ⟨g2, g3⟩ := g1 hoff
          refine ⟨by omega, fun hl => ?_⟩
          rcases hm with ⟨hl2, hmu⟩ | hlt
          · rcases g3 (by omega) with hx | ⟨b, h1, h2, cells, ty, fr, h3, h4⟩
            · exact .inl hx
            · obtain ⟨c1, fr1, h5, h6⟩ := h.wide b cells ty fr h3
              exact .inr ⟨b, by rw [hmu, h1], h2, c1, ty, fr1, h5, by omega⟩
          · omega
  | .st vs, cs, hr => by simp only [RelA] at hr ⊢; exact RelAs.mono h vs cs hr
  | .arr n e xs, cs, hr => by simp only [RelA] at hr ⊢; exact ⟨hr.1, hr.2.mono (fun cs x hx => RelD.mono h.stab e cs x hx)⟩
  | .ptr id p ty, cs, hr => by
    simp only [RelA] at hr ⊢
    obtain ⟨b, o, h0, blk, hb, hu, hx⟩ := hr
    obtain ⟨blk', hb', hc⟩ := h.compat id blk hb
    refine ⟨b, o, h0, blk', hb', hc.used hu, fun hk => ?_⟩
    obtain ⟨k1, k2, k3, k4⟩ := hc.place hk hu p
    rw [k2, k3, k4]
    exact hx k1
  | .cptr t d, cs, hr => by
    simp only [RelA] at hr ⊢
    obtain ⟨b, o, h0, cells, h1, h2⟩ := hr
    exact ⟨b, o, h0, cells, h1.mono h.stab, RelD.mono h.stab t cells d h2⟩
  | .nilp, cs, hr => by simpa only [RelA] using hr
  | .fn f caps, cs, hr => by
    simp only [RelA] at hr ⊢
    obtain ⟨vs, h0, h1⟩ := hr
    exact ⟨vs, h0, RelC.mono h caps _ h1⟩
  | .nilfn, cs, hr => by simpa only [RelA] using hr
  | .tup _, _, hr => by simp [RelA] at hr
theorem RelAs.mono (h : Turn w S mu H w' S' mu' H') : ∀ (vs : List AV) (cs : List Value), RelAs w S mu H vs cs → RelAs w' S' mu' H' vs cs
  | [], cs, hr => by simpa only [RelAs] using hr
  | v :: vs, cs, hr => by
    simp only [RelAs] at hr ⊢
    obtain ⟨c1, c2, h0, h1, h2⟩ := hr
    exact ⟨c1, c2, h0, RelA.mono h v c1 h1, RelAs.mono h vs c2 h2⟩
theorem RelC.mono (h : Turn w S mu H w' S' mu' H') : ∀ (vs : List AV) (cs : List Value), RelC w S mu H vs cs → RelC w' S' mu' H' vs cs
  | [], cs, hr => by simpa only [RelC] using hr
  | v :: vs, cs, hr => by
    simp only [RelC] at hr ⊢
    obtain ⟨c, cs', h0, h1, h2⟩ := hr
    exact ⟨c, cs', h0, RelA.mono h v [c] h1, RelC.mono h vs cs' h2⟩
end

mutual
theorem RelV.mono (h : Turn w S mu H w' S' mu' H') : ∀ (v : AV) (u : Value), RelV w S mu H v u → RelV w' S' mu' H' v u
  | .undef, _, _ => by simp only [RelV]
  | .tup vs, u, hr => by
    simp only [RelV] at hr ⊢
    obtain ⟨us, h0, h1⟩ := hr
    exact ⟨us, h0, RelVs.mono h vs _ h1⟩
  | .st vs, u, hr => by
    simp only [RelV] at hr ⊢
    obtain ⟨cs, h0, h1⟩ := hr
    exact ⟨cs, h0, RelA.mono h _ _ h1⟩
  | .arr n e xs, u, hr => by
    simp only [RelV] at hr ⊢
    obtain ⟨cs, h0, h1⟩ := hr
    exact ⟨cs, h0, RelA.mono h _ _ h1⟩
  | .int .., u, hr => by simp only [RelV] at hr ⊢; exact RelA.mono h _ _ hr
  | .bool .., u, hr => by simp only [RelV] at hr ⊢; exact RelA.mono h _ _ hr
  | .str .., u, hr => by simp only [RelV] at hr ⊢; exact RelA.mono h _ _ hr
  | .sl .., u, hr => by simp only [RelV] at hr ⊢; exact RelA.mono h _ _ hr
  | .rsl .., u, hr => by simp only [RelV] at hr ⊢; exact RelA.mono h _ _ hr
  | .ptr .., u, hr => by simp only [RelV] at hr ⊢; exact RelA.mono h _ _ hr
  | .cptr .., u, hr => by simp only [RelV] at hr ⊢; exact RelA.mono h _ _ hr
  | .nilp, u, hr => by simp only [RelV] at hr ⊢; exact RelA.mono h _ _ hr
  | .fn .., u, hr => by simp only [RelV] at hr ⊢; exact RelA.mono h _ _ hr
  | .nilfn, u, hr => by simp only [RelV] at hr ⊢; exact RelA.mono h _ _ hr
theorem RelVs.mono (h : Turn w S mu H w' S' mu' H') : ∀ (vs : List AV) (us : List Value), RelVs w S mu H vs us → RelVs w' S' mu' H' vs us
  | [], us, hr => by simpa only [RelVs] using hr
  | v :: vs, us, hr => by
    simp only [RelVs] at hr ⊢
    obtain ⟨u, us', h0, h1, h2⟩ := hr
    exact ⟨u, us', h0, RelV.mono h v u h1, RelVs.mono h vs us' h2⟩
end

/-- Whatever the form: a value's cells. -/
theorem RelV.cells {v : AV} {u : Value} (hr : RelV w S mu H v u) (hu : v ≠ .undef) (ht : ∀ vs, v ≠ .tup vs) : RelA w S mu H v u.cells.toList := by
  cases v with
  | undef => exact absurd rfl hu
  | tup vs => exact absurd rfl (ht vs)
  | st vs => simp only [RelV] at hr; obtain ⟨cs, rfl, h⟩ := hr; exact h
  | arr n e xs => simp only [RelV] at hr; obtain ⟨cs, rfl, h⟩ := hr; exact h
  | int k n => simp only [RelV] at hr; have h := hr; simp only [RelA] at hr; obtain ⟨hr, _⟩ := hr; injection hr with hr; subst hr; exact h
  | bool b => simp only [RelV] at hr; have h := hr; simp only [RelA] at hr; injection hr with hr; subst hr; exact h
  | str b => simp only [RelV] at hr; have h := hr; simp only [RelA] at hr; obtain ⟨hr, _⟩ := hr; injection hr with hr; subst hr; exact h
  | sl e xs t => simp only [RelV] at hr; have h := hr; simp only [RelA] at hr; obtain ⟨a, n, c, hr, _⟩ := hr; injection hr with hr; subst hr; exact h
  | rsl id e off len => simp only [RelV] at hr; have h := hr; simp only [RelA] at hr; obtain ⟨a, c, hr, _⟩ := hr; injection hr with hr; subst hr; exact h
  | ptr id p ty => simp only [RelV] at hr; have h := hr; simp only [RelA] at hr; obtain ⟨a, c, hr, _⟩ := hr; injection hr with hr; subst hr; exact h
  | cptr id p => simp only [RelV] at hr; have h := hr; simp only [RelA] at hr; obtain ⟨a, c, hr, _⟩ := hr; injection hr with hr; subst hr; exact h
  | nilp => simp only [RelV] at hr; have h := hr; simp only [RelA] at hr; injection hr with hr; subst hr; exact h
  | fn f caps => simp only [RelV] at hr; have h := hr; simp only [RelA] at hr; obtain ⟨vs, hr, _⟩ := hr; injection hr with hr; subst hr; exact h
  | nilfn => simp only [RelV] at hr; have h := hr; simp only [RelA] at hr; injection hr with hr; subst hr; exact h

/-! ### Data as values -/
mutual
theorem ofD_rel : ∀ (t : Ty) (cs : List Value) (d : D), RelD w S t cs d → RelA w S mu H (ofD t d) cs
  | .int k, cs, d, h => by simp only [RelD, ofD, RelA] at h ⊢; exact ⟨h.1, h.2.1⟩
  | .bool, cs, d, h => by simpa only [RelD, ofD, RelA] using h
  | .str, cs, d, h => by simpa only [RelD, ofD, RelA] using h
  | .sl e, cs, d, h => by
    simp only [RelD, ofD, RelA] at h ⊢
    obtain ⟨a, n, c, h0, h1⟩ := h
    exact ⟨a, n, c, h0, h1, trivial⟩
  | .st ts, cs, d, h => by simp only [RelD, ofD, RelA] at h ⊢; exact ofDs_rel ts 0 cs d h
  | .arr n e, cs, d, h => by simp only [RelD, ofD, RelA] at h ⊢; exact h
  | .ptr, _, _, h => by simp [RelD] at h
  | .fn, _, _, h => by simp [RelD] at h
  | .op, _, _, h => by simp [RelD] at h
theorem ofDs_rel : ∀ (ts : List Ty) (i : Nat) (cs : List Value) (d : D), RelDs w S ts i cs d → RelAs w S mu H (ofDs ts i d) cs
  | [], _, cs, d, h => by simpa only [RelDs, ofDs, RelAs] using h
  | t :: ts, i, cs, d, h => by
    simp only [RelDs, ofDs, RelAs] at h ⊢
    obtain ⟨c1, c2, h0, h1, h2⟩ := h
    exact ⟨c1, c2, h0, ofD_rel t c1 _ h1, ofDs_rel ts (i + 1) c2 d h2⟩
end


theorem toDs_get : ∀ (vs : List AV) (i : Nat) (v : AV), vs[i]? = some v → (toDs vs).getD i (.i 0) = toD v
  | [], _, _, h => by simp at h
  | v :: vs, 0, u, h => by simp at h; subst h; simp [toDs]
  | v :: vs, i + 1, u, h => by simp at h; simpa [toDs] using toDs_get vs i u h

mutual
theorem toD_rel : ∀ (v : AV) (t : Ty) (cs : List Value), fits v t = true → RelA w S mu H v cs → RelD w S t cs (toD v)
  | .int k n, t, cs, hf, h => by
    cases t <;> simp [fits] at hf
    subst hf
    simp only [RelA, RelD, toD, D.int] at h ⊢; exact ⟨h.1, h.2, trivial⟩
  | .bool b, t, cs, hf, h => by
    cases t <;> simp [fits] at hf
    simpa only [RelA, RelD, toD, D.bool] using h
  | .str b, t, cs, hf, h => by
    cases t <;> simp [fits] at hf
    simpa only [RelA, RelD, toD, D.str] using h
  | .sl e xs tk, t, cs, hf, h => by
    cases t <;> simp [fits] at hf
    have he := Ty.same_eq _ _ hf
    subst he
    simp only [RelA, RelD, toD, D.list] at h ⊢
    obtain ⟨a, n, c, h0, h1, _⟩ := h
    exact ⟨a, n, c, h0, h1⟩
  | .st vs, t, cs, hf, h => by
    cases t <;> simp [fits] at hf
    simp only [RelA, RelD] at h ⊢
    exact toDs_rel vs _ cs (toD (.st vs)) 0 (by intro j v hj; simp [toD, D.fld, D.fs]; exact toDs_get vs j v hj) hf h
  | .arr n e xs, t, cs, hf, h => by
    cases t <;> simp [fits] at hf
    obtain ⟨h1, h2⟩ := hf
    have he := Ty.same_eq _ _ h2
    subst he
    subst h1
    simpa only [RelA, RelD, toD, D.fs] using h
  | .undef, t, _, hf, _ => by cases t <;> simp [fits] at hf
  | .rsl _ _ _ _, t, _, hf, _ => by cases t <;> simp [fits] at hf
  | .ptr _ _ _, t, _, hf, _ => by cases t <;> simp [fits] at hf
  | .cptr _ _, t, _, hf, _ => by cases t <;> simp [fits] at hf
  | .nilp, t, _, hf, _ => by cases t <;> simp [fits] at hf
  | .fn _ _, t, _, hf, _ => by cases t <;> simp [fits] at hf
  | .nilfn, t, _, hf, _ => by cases t <;> simp [fits] at hf
  | .tup _, t, _, hf, _ => by cases t <;> simp [fits] at hf
theorem toDs_rel : ∀ (vs : List AV) (ts : List Ty) (cs : List Value) (d : D) (i : Nat), (∀ (j : Nat) (v : AV), vs[j]? = some v → d.fld (i + j) = toD v) → fitss vs ts = true → RelAs w S mu H vs cs → RelDs w S ts i cs d
  | [], [], cs, d, i, _, _, h => by simpa only [RelAs, RelDs] using h
  | [], _ :: _, _, _, _, _, hf, _ => by simp [fitss] at hf
  | _ :: _, [], _, _, _, _, hf, _ => by simp [fitss] at hf
  | v :: vs, t :: ts, cs, d, i, hd, hf, h => by
    simp [fitss] at hf
    simp only [RelAs, RelDs] at h ⊢
    obtain ⟨c1, c2, h0, h1, h2⟩ := h
    refine ⟨c1, c2, h0, ?_, ?_⟩
    · have := hd 0 v rfl
      rw [Nat.add_zero] at this
      rw [this]
      exact toD_rel v t c1 hf.1 h1
    · refine toDs_rel vs ts c2 d (i + 1) (fun j u hj => ?_) hf.2 h2
      have := hd (j + 1) u (by simpa using hj)
      rwa [show i + 1 + j = i + (j + 1) by omega]
end

end

end Go.Vc
