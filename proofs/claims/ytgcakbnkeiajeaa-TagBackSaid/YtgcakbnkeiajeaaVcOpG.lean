/- Operations on memory: the check, and that they come to what 'awpOp' says. Part G: loads and new blocks. -/
import Derived.Test.YtgcakbnkeiajeaaVcHeap
set_option linter.unusedVariables false
set_option linter.unusedSimpArgs false
namespace Go.Vc

def dOK (nt : Nat) (x : Option Tmp) (d : Nat) : Bool := match x with
  | some t => Nat.beq t d && Nat.blt d nt
  | none => false
def dOKo (nt : Nat) (x : Option Tmp) (d : Option Nat) : Bool := match x, d with
  | some t, some d => Nat.beq t d && Nat.blt d nt
  | none, none => true
  | _, _ => false
def bytesOK (P : Program) (t : TypeId) (bs : Nat) : Bool := match P.info? t with
  | some i => Nat.beq i.bytes bs
  | none => false
/-- A slice type's elements. -/
def elOK (P : Program) (t : TypeId) (e : Ty) : Bool := match P.underlying t with
  | some (.slice te) => tyOK P te e && zeroOK P te e && zok e && Nat.blt 0 e.size
  | _ => false
def elBytes (P : Program) (t : TypeId) (bs : Nat) : Bool := match P.underlying t with
  | some (.slice te) => bytesOK P te bs
  | _ => false
def plainFn (P : Program) (f : FuncId) : Bool := match P.funcs[f]? with
  | some fn => !(fn.name == "runtime.NumGoroutine") && fn.body.isSome
  | none => false

def OpPost (nt : Nat) (w : World) (S : SetS) (mu : Mu) (H : Heap) (K : Env → Heap → Prop) (a' : Act) (w' : World) : Prop :=
  ∃ env' H' S' mu', Rel nt w' S' mu' H' env' a' ∧ Ev w S mu H w' S' mu' H' ∧ K env' H'

section
variable {P : Program} {w : World} {S : SetS} {mu : Mu} {H : Heap} {env : Env} {a : Act} {nt : Nat} {K : Env → Heap → Prop}

theorem dOK_some {x : Option Tmp} {d : Nat} (h : dOK nt x d = true) : x = some d ∧ d < nt := by
  unfold dOK at h
  split at h
  · simp at h; exact ⟨by rw [h.1], h.2⟩
  · cases h

/-- An operation that gives a value and turns nothing. -/
theorem wp_gives {o : Oper} {d : Nat} {av : AV} (hR : Rel nt w S mu H env a) (hd : dOK nt o.dst d = true) (hg : Gives P w S mu H o a av) (hK : K (put env d av) H) (Q : Exit → Act → World → Prop) :
    o.wp P a w (OpPost nt w S mu H K) Q := by
  obtain ⟨e1, e2⟩ := dOK_some hd
  obtain ⟨v, h1, h2⟩ := hg
  unfold Oper.wp
  rw [h1]
  simp only [Oper.upon, e1]
  exact ⟨_, _, S, mu, hR.put e2 h2, Ev.refl _ _ _ _, hK⟩

/-- An operation that gives a value, in another world. -/
theorem wp_value {o : Oper} {d : Nat} {av : AV} {v : Value} {w' : World} {S' : SetS} {mu' : Mu} {H' : Heap} (hd : dOK nt o.dst d = true) (hrun : (execOp a.eval o).run P w = .ok (.value v) w')
    (hR : Rel nt w' S' mu' H' env a) (hE : Ev w S mu H w' S' mu' H') (hv : RelV w' S' mu' H' av v) (hK : K (put env d av) H') (Q : Exit → Act → World → Prop) : o.wp P a w (OpPost nt w S mu H K) Q := by
  obtain ⟨e1, e2⟩ := dOK_some hd
  unfold Oper.wp
  rw [hrun]
  simp only [Oper.upon, e1]
  exact ⟨_, _, S', mu', hR.put e2 hv, hE, hK⟩

theorem getD_blk {id : Nat} {b : Blk} (h : H.getD id .dead = b) (hb : b ≠ .dead) : H[id]? = some b := by
  rw [List.getD_eq_getElem?_getD] at h
  cases hh : H[id]? with
  | none => rw [hh] at h; exact absurd h.symm hb
  | some b' => rw [hh] at h; simpa using h

/-! ### Loads -/
theorem getD'_rel : ∀ {T : Ty} {p : List PStep} {d : D} {cs : List Value} {o : Nat}, RelD w S T cs d → offP T p = some o →
    ∃ pre c post, cs = pre ++ (c ++ post) ∧ pre.length = o ∧ RelA w S mu H (getD' T p d) c ∧ fits (getD' T p d) (endP T p) = true
  | T, [], d, cs, o, h, ho => by
    simp only [offP, Option.some.injEq] at ho
    subst ho
    refine ⟨[], cs, [], by simp, rfl, ?_, ?_⟩
    · simp only [getD']; exact ofD_rel T cs d h
    · simp only [getD', endP]; exact ofD_fits T d cs h
  | .st ts, .fld i :: p, d, cs, o, h, ho => by
    simp only [offP] at ho
    split at ho
    · rename_i hi
      simp only [Option.map_eq_some_iff] at ho
      obtain ⟨o', h1, rfl⟩ := ho
      simp only [RelD] at h
      obtain ⟨pre, c, post, rfl, q1, q2⟩ := RelDs_get h hi
      rw [Nat.zero_add] at q2
      obtain ⟨pre2, c2, post2, rfl, q3, q4, q5⟩ := getD'_rel q2 h1
      refine ⟨pre ++ pre2, c2, post2 ++ post, by simp, by simp [q1, q3], ?_, ?_⟩
      · simpa only [getD'] using q4
      · simpa only [getD', endP] using q5
    · cases ho
  | .arr n e, .idx k :: p, d, cs, o, h, ho => by
    simp only [offP] at ho
    split at ho
    · rename_i hi
      simp only [Option.map_eq_some_iff] at ho
      obtain ⟨o', h1, rfl⟩ := ho
      simp only [RelD] at h
      obtain ⟨pre, c, post, rfl, q1, _, q2⟩ := RelL_get h.2 (getD_of (show k < d.fs.length by omega))
      obtain ⟨pre2, c2, post2, rfl, q3, q4, q5⟩ := getD'_rel q2 h1
      refine ⟨pre ++ pre2, c2, post2 ++ post, by simp, by simp [q1, q3], ?_, ?_⟩
      · simpa only [getD'] using q4
      · simpa only [getD', endP] using q5
    · cases ho
  | .int _, .fld _ :: _, _, _, _, _, h | .int _, .idx _ :: _, _, _, _, _, h | .bool, .fld _ :: _, _, _, _, _, h | .bool, .idx _ :: _, _, _, _, _, h
  | .str, .fld _ :: _, _, _, _, _, h | .str, .idx _ :: _, _, _, _, _, h | .sl _, .fld _ :: _, _, _, _, _, h | .sl _, .idx _ :: _, _, _, _, _, h
  | .st _, .idx _ :: _, _, _, _, _, h | .arr _ _, .fld _ :: _, _, _, _, _, h | .ptr, .fld _ :: _, _, _, _, _, h | .ptr, .idx _ :: _, _, _, _, _, h
  | .fn, .fld _ :: _, _, _, _, _, h | .fn, .idx _ :: _, _, _, _, _, h | .op, .fld _ :: _, _, _, _, _, h | .op, .idx _ :: _, _, _, _, _, h => by simp [offP] at h

theorem getA_rel : ∀ {T : Ty} {p : List PStep} {v : AV} {cs : List Value} {o : Nat}, fitsV v T = true → RelA w S mu H v cs → offP T p = some o →
    ∃ pre c post, cs = pre ++ (c ++ post) ∧ pre.length = o ∧ RelA w S mu H (getA p v) c ∧ fitsV (getA p v) (endP T p) = true
  | T, [], v, cs, o, hf, h, ho => by
    simp only [offP, Option.some.injEq] at ho
    subst ho
    exact ⟨[], cs, [], by simp, rfl, by simpa only [getA] using h, by simpa only [getA, endP] using hf⟩
  | .st ts, .fld i :: p, v, cs, o, hf, h, ho => by
    simp only [offP] at ho
    split at ho
    · rename_i hi
      simp only [Option.map_eq_some_iff] at ho
      obtain ⟨o', h1, rfl⟩ := ho
      cases v <;> simp [fitsV] at hf
      rename_i vs
      simp only [RelA] at h
      obtain ⟨pre, c, post, rfl, q1, q2, q3⟩ := RelAs_get hf h hi
      obtain ⟨pre2, c2, post2, rfl, q4, q5, q6⟩ := getA_rel q3 q2 h1
      refine ⟨pre ++ pre2, c2, post2 ++ post, by simp, by simp [q1, q4], ?_, ?_⟩
      · simpa only [getA] using q5
      · simpa only [getA, endP] using q6
    · cases ho
  | .arr n e, .idx k :: p, v, cs, o, hf, h, ho => by
    simp only [offP] at ho
    split at ho
    · rename_i hi
      simp only [Option.map_eq_some_iff] at ho
      obtain ⟨o', h1, rfl⟩ := ho
      cases v <;> simp [fitsV] at hf
      rename_i m f xs
      obtain ⟨rfl, hs⟩ := hf
      have := Ty.same_eq _ _ hs
      subst this
      simp only [RelA] at h
      obtain ⟨pre, c, post, rfl, q1, _, q2⟩ := RelL_get h.2 (getD_of (show k < xs.length by omega))
      obtain ⟨pre2, c2, post2, rfl, q3, q4, q5⟩ := getD'_rel (mu := mu) (H := H) q2 h1
      refine ⟨pre ++ pre2, c2, post2 ++ post, by simp, by simp [q1, q3], ?_, ?_⟩
      · simpa only [getA] using q4
      · simpa only [getA, endP] using fitsV_of_fits _ _ q5
    · cases ho
  | .int _, .fld _ :: _, _, _, _, _, _, h | .int _, .idx _ :: _, _, _, _, _, _, h | .bool, .fld _ :: _, _, _, _, _, _, h | .bool, .idx _ :: _, _, _, _, _, _, h
  | .str, .fld _ :: _, _, _, _, _, _, h | .str, .idx _ :: _, _, _, _, _, _, h | .sl _, .fld _ :: _, _, _, _, _, _, h | .sl _, .idx _ :: _, _, _, _, _, _, h
  | .st _, .idx _ :: _, _, _, _, _, _, h | .arr _ _, .fld _ :: _, _, _, _, _, _, h | .ptr, .fld _ :: _, _, _, _, _, _, h | .ptr, .idx _ :: _, _, _, _, _, _, h
  | .fn, .fld _ :: _, _, _, _, _, _, h | .fn, .idx _ :: _, _, _, _, _, _, h | .op, .fld _ :: _, _, _, _, _, _, h | .op, .idx _ :: _, _, _, _, _, _, h => by simp [offP] at h

theorem cells_mid {b : Nat} {cells : Array Value} {t : TypeId} {fr : Nat × Nat} (h : w.heap[b]? = some (.cells cells t fr)) {pre c post : List Value} (hc : cells.toList = pre ++ (c ++ post)) :
    ∀ (k : Nat) (v : Value), c[k]? = some v → w.cell? ⟨b, pre.length + k, none⟩ = some v := by
  intro k v hk
  rw [cell_of h, ← Array.getElem?_toList, hc, List.getElem?_append_right (by omega), show pre.length + k - pre.length = k by omega]
  have hlt : k < c.length := by
    rcases Nat.lt_or_ge k c.length with h | h
    · exact h
    · rw [List.getElem?_eq_none h] at hk; cases hk
  rw [List.getElem?_append_left hlt]
  exact hk

/-- Where a pointer into a block points, and what lies there. -/
theorem place_rel (hH : RelH w S mu H) {id : Nat} {blk : Blk} (hb : H[id]? = some blk) {b o : Nat} {p : List PStep} (hmu : mu id = some b) (hpl : blk.place p = some o) :
    (∀ t v fz, blk = .var t v fz → ∃ c, (∀ (k : Nat) (u : Value), c[k]? = some u → w.cell? ⟨b, o + k, none⟩ = some u) ∧ RelA w S mu H (getA p v) c ∧ fitsV (getA p v) (endP t p) = true) ∧
    (∀ e xs fz n q, blk = .fix e xs fz → p = .idx n :: q → ∃ c, (∀ (k : Nat) (u : Value), c[k]? = some u → w.cell? ⟨b, o + k, none⟩ = some u) ∧ RelA w S mu H (getD' e q (xs.getD n (.i 0))) c ∧ fits (getD' e q (xs.getD n (.i 0))) (endP e q) = true) := by
  have hB := hH.blk id blk hb
  refine ⟨?_, ?_⟩
  · rintro t v fz rfl
    obtain ⟨b', cells, ty, h1, h2, h3, h4, h5, h6⟩ := hB
    rw [hmu] at h1
    injection h1 with h1
    subst h1
    obtain ⟨pre, c, post, q1, q2, q3, q4⟩ := getA_rel h5 h4 hpl
    exact ⟨c, by rw [← q2]; exact cells_mid h2 q1, q3, q4⟩
  · rintro e xs fz n q rfl rfl
    obtain ⟨b', cells, ty, h1, h2, h3, h4, h5, h6⟩ := hB
    rw [hmu] at h1
    injection h1 with h1
    subst h1
    simp only [Blk.place] at hpl
    split at hpl
    · rename_i hn
      simp only [Option.map_eq_some_iff] at hpl
      obtain ⟨o', g1, rfl⟩ := hpl
      have hx := h5 n _ (getD_of hn)
      obtain ⟨pre, c, post, q1, q2, q3, q4⟩ := getD'_rel (mu := mu) (H := H) hx g1
      refine ⟨c, ?_, q3, q4⟩
      have hle : n * e.size + e.size ≤ cells.toList.length := by
        have : (n + 1) * e.size ≤ xs.length * e.size := Nat.mul_le_mul_right _ hn
        rw [Nat.add_mul] at this
        simp at this ⊢
        omega
      have hc : cells.toList = cells.toList.take (n * e.size) ++ ((cells.toList.drop (n * e.size)).take e.size ++ (cells.toList.drop (n * e.size)).drop e.size) := by
        rw [List.take_append_drop, List.take_append_drop]
      rw [q1] at hc
      have := cells_mid h2 (pre := cells.toList.take (n * e.size) ++ pre) (c := c) (post := post ++ (cells.toList.drop (n * e.size)).drop e.size) (hc.trans (by simp only [List.append_assoc]))
      simp only [List.length_append, List.length_take, q2, Nat.min_eq_left (show n * e.size ≤ cells.toList.length by omega)] at this
      exact this
    · cases hpl
theorem op_load (hR : Rel nt w S mu H env a) {o : Oper} {d : Nat} {t : Ty} {x : Ar} {ty : TypeId} {X : Operand} (ho : o.op = .load ty X) (hd : dOK nt o.dst d = true) (ht : tyOK P ty t = true) (hx : arOK X x = true)
    (orc : Orc) (base : Nat) (hK : awpOp orc base (.load d t x) env H K) (Q : Exit → Act → World → Prop) : o.wp P a w (OpPost nt w S mu H K) Q := by
  have r1 := arOK_rel hR.env hx
  simp only [awpOp] at hK
  cases hv : x.ev env <;> simp only [hv] at hK
  · -- a pointer
    rename_i id p u
    rw [hv] at r1
    obtain ⟨b, o', e1, blk, hb, hu, hpl⟩ := r1.ptr
    cases hs : Ty.same u t with
    | false => simp [hs] at hK
    | true =>
      have := Ty.same_eq _ _ hs
      subst this
      simp only [hs, cond_true] at hK
      cases hbk : H.getD id .dead with
      | var T v fz =>
        simp only [hbk] at hK
        have hb' := getD_blk hbk (by simp)
        rw [hb] at hb'
        injection hb' with hb'
        subst hb'
        obtain ⟨g1, g2, g3⟩ := hpl (.inl ⟨_, _, _, rfl⟩)
        obtain ⟨c, k1, k2, k3⟩ := (place_rel hR.heap hb g1 g2).1 T v fz rfl
        simp only [Blk.ty] at g3
        rw [g3] at k3
        obtain ⟨val, q1, q2⟩ := run_loadVar (w := w) ht k1 (RelA.length _ _ _ k3 k2)
        exact wp_gives hR hd (gives_mk (v := val) (by simp [execOp, ho, e1, Instr.loadAt, Instr.sureAddr, q1]) (Val.rel k3 k2 q2)) hK Q
      | fix e xs fz =>
        simp only [hbk] at hK
        have hb' := getD_blk hbk (by simp)
        rw [hb] at hb'
        injection hb' with hb'
        subst hb'
        obtain ⟨g1, g2, g3⟩ := hpl (.inr ⟨_, _, _, rfl⟩)
        cases p with
        | nil => simp at hK
        | cons s q =>
          cases s with
          | fld j => simp at hK
          | idx n =>
            simp only at hK
            obtain ⟨c, k1, k2, k3⟩ := (place_rel hR.heap hb g1 g2).2 e xs fz n q rfl rfl
            simp only [Blk.ty] at g3
            rw [g3] at k3
            have k3' := fitsV_of_fits _ _ k3
            obtain ⟨val, q1, q2⟩ := run_loadVar (w := w) ht k1 (RelA.length _ _ _ k3' k2)
            exact wp_gives hR hd (gives_mk (v := val) (by simp [execOp, ho, e1, Instr.loadAt, Instr.sureAddr, q1]) (Val.rel k3' k2 q2)) hK Q
      | resv => simp only [hbk] at hK
      | dead => simp only [hbk] at hK
      | ext e n => simp only [hbk] at hK
  · -- a pointer into data
    rename_i u c
    rw [hv] at r1
    cases hs : Ty.same u t with
    | false => simp [hs] at hK
    | true =>
      have := Ty.same_eq _ _ hs
      subst this
      simp only [hs, cond_true] at hK
      obtain ⟨b, o', e1, cells, hl, hr⟩ := r1.cptr
      obtain ⟨v, k1, k2⟩ := run_loadVar (w := w) ht (fun k v hk => (hl k v hk).1) hr.length
      exact wp_gives hR hd (gives_mk (v := v) (by simp [execOp, ho, e1, Instr.loadAt, Instr.sureAddr, k1]) (Val.rel (fitsV_of_fits _ _ (ofD_fits u c cells hr)) (ofD_rel u cells c hr) k2)) hK Q

/-! ### New blocks -/
theorem run_newVar (t : TypeId) (v : Value) : (newVar t v).run P w = .ok ⟨w.heap.size, 0, none⟩ (w.alloc (.cells v.cells t)) := rfl

theorem op_var (hR : Rel nt w S mu H env a) {o : Oper} {d id : Nat} {t : Ty} {ty : TypeId} {v : Value} {av : AV} (hd : dOK nt o.dst d = true) (hid : H[id]? = some .resv)
    (hrun : (execOp a.eval o).run P w = .ok (.value (.pointer (some ⟨w.heap.size, 0, none⟩))) (w.alloc (.cells v.cells ty))) (hf : fitsV av t = true) (hr : RelA w S mu H av v.cells.toList)
    (hK : K (put env d (.ptr id [] t)) (H.set id (.var t av false))) (Q : Exit → Act → World → Prop) : o.wp P a w (OpPost nt w S mu H K) Q := by
  obtain ⟨S', mu', h1, h2, h3, h4⟩ := new_block (blk := .var t av false) (cells := v.cells) (ty := ty) hR hid (fun _ => False) (fun _ h => h.elim)
    (fun w' S' mu' H' hc hT hm hs => ⟨w.heap.size, v.cells, ty, hm, hc, by have := RelA.length _ _ _ hf hr; simpa using this, RelA.mono hT _ _ hr, hf, fun _ o ho => (hs o).1 ho⟩) ⟨w.drawn, rfl⟩
  refine wp_value hd hrun h1 h2 ?_ hK Q
  simp only [RelV, RelA]
  have hlen : id < H.length := by
    rcases Nat.lt_or_ge id H.length with h' | h'
    · exact h'
    · rw [List.getElem?_eq_none h'] at hid; cases hid
  exact ⟨w.heap.size, 0, rfl, .var t av false, by rw [set_get hlen, if_pos rfl], rfl, fun _ => ⟨h3, rfl, rfl⟩⟩

theorem op_alloc (hR : Rel nt w S mu H env a) {o : Oper} {d off : Nat} {t : Ty} {ty : TypeId} (ho : o.op = .alloc ty) (hd : dOK nt o.dst d = true) (ht : tyOK P ty t = true) (hz : zeroOK P ty t = true) (hzo : zokA t = true)
    (orc : Orc) (base : Nat) (hK : awpOp orc base (.alloc d off t) env H K) (Q : Exit → Act → World → Prop) : o.wp P a w (OpPost nt w S mu H K) Q := by
  simp only [awpOp] at hK
  cases hb : H.getD (base + off) .dead <;> simp only [hb] at hK
  obtain ⟨z, k1, k2, _⟩ := zeroOK_run hz w
  refine op_var (v := z) (ty := ty) hR hd (getD_blk hb (by simp)) ?_ (zeroA_fits t _ hzo) (by rw [k2]; exact zeroA_rel t hzo) hK Q
  simp only [execOp, ho, Sem.run_bind, Instr.alloc, k1, Result.andThen_ok, run_newVar, Sem.run_pure]

theorem op_box (hR : Rel nt w S mu H env a) {o : Oper} {d off : Nat} {t : Ty} {ty : TypeId} {x : Ar} {X : Operand} (ho : o.op = .box ty X) (hd : dOK nt o.dst d = true) (hx : arOK X x = true)
    (orc : Orc) (base : Nat) (hK : awpOp orc base (.box d off t x) env H K) (Q : Exit → Act → World → Prop) : o.wp P a w (OpPost nt w S mu H K) Q := by
  have r1 := arOK_rel hR.env hx
  simp only [awpOp] at hK
  cases hb : H.getD (base + off) .dead <;> simp only [hb] at hK
  cases hf : fitsV (x.ev env) t with
  | false => simp [hf] at hK
  | true =>
    simp only [hf, cond_true] at hK
    refine op_var (v := a.eval X) (ty := ty) hR hd (getD_blk hb (by simp)) ?_ hf (r1.val hf).2 hK Q
    simp only [execOp, ho, Sem.run_bind, Instr.box, Result.andThen_ok, run_newVar, Sem.run_pure]

/-- The elements of a row, as data. -/
theorem RelL_elems {sz : Nat} {R : List Value → D → Prop} {cells : List Value} {xs : List D} (h : RelL sz R cells xs) {j : Nat} {x : D} (hj : xs[j]? = some x) : R ((cells.drop (j * sz)).take sz) x := by
  obtain ⟨pre, c, post, rfl, q1, q2, q3⟩ := RelL_get h hj
  rw [← q1, List.drop_left, ← q2, List.take_left]
  exact q3

/-- A new row, of fixed length. -/
theorem op_fix (hR : Rel nt w S mu H env a) {o : Oper} {d id : Nat} {e : Ty} {ty : TypeId} {xs : List D} {c : Nat} {cells : Array Value} (hd : dOK nt o.dst d = true) (hid : H[id]? = some .resv) (he : 0 < e.size)
    {w' : World} (hw : ∃ n, w' = { w.alloc (.cells cells ty) with drawn := n })
    (hrun : (execOp a.eval o).run P w = .ok (.value (.slice (some ⟨w.heap.size, 0, none⟩) xs.length c)) w') {post : List Value} (hrel : ∃ front, cells.toList = front ++ post ∧ RelL e.size (RelD w S e) front xs) (hc : xs.length ≤ c) (hcm : c ≤ maxLen) (hcs : c * e.size ≤ cells.size)
    (hK : K (put env d (.rsl id e 0 xs.length)) (H.set id (.fix e xs false))) (Q : Exit → Act → World → Prop) : o.wp P a w (OpPost nt w S mu H K) Q := by
  obtain ⟨front, hf, hrl⟩ := hrel
  have hfl := hrl.length
  obtain ⟨S', mu', h1, h2, h3, h4⟩ := new_block (blk := .fix e xs false) (cells := cells) (ty := ty) hR hid (fun _ => False) (fun _ h => h.elim)
    (fun w' S' mu' H' hc2 hT hm hs => ⟨w.heap.size, cells, ty, hm, hc2, he, by rw [← Array.length_toList, hf]; simp [hfl], fun j x hj => by
      have hx := RelL_elems hrl hj
      have hjl : j < xs.length := by
        rcases Nat.lt_or_ge j xs.length with h | h
        · exact h
        · rw [List.getElem?_eq_none h] at hj; cases hj
      have hb : j * e.size + e.size ≤ front.length := by
        have : (j + 1) * e.size ≤ xs.length * e.size := Nat.mul_le_mul_right _ hjl
        rw [Nat.add_mul] at this
        omega
      rw [hf, List.drop_append_of_le_length (by omega), List.take_append_of_le_length (by simp; omega)]
      exact RelD.mono hT.stab _ _ _ hx, fun _ o ho => (hs o).1 ho⟩) hw
  refine wp_value hd hrun h1 h2 ?_ hK Q
  have hlen : id < H.length := by
    rcases Nat.lt_or_ge id H.length with h' | h'
    · exact h'
    · rw [List.getElem?_eq_none h'] at hid; cases hid
  simp only [RelV, RelA]
  refine ⟨_, c, rfl, hc, hcm, fun _ => ⟨_, _, rfl⟩, .fix e xs false, by rw [set_get hlen, if_pos rfl], rfl, ?_⟩
  intro e' xs' fz' hh
  injection hh with g1 g2 g3
  subst g1; subst g2
  have hnew : w'.heap[w.heap.size]? = some (.cells cells ty (0, 0)) := by
    obtain ⟨n, rfl⟩ := hw
    exact heap_push_new w _
  exact ⟨rfl, by omega, w.heap.size, h3, .inr (by simp), cells, ty, _, hnew, by simpa using hcs⟩

/-- A new row, that may grow. -/
theorem op_grow' (hR : Rel nt w S mu H env a) {o : Oper} {d id : Nat} {e : Ty} {blk0 : Blk} {ty : TypeId} {xs : List D} {c : Nat} {cells : Array Value} (hd : dOK nt o.dst d = true) (hid : H[id]? = some blk0) (hcom : Compat blk0 (.ext e xs.length) (mu id) (some w.heap.size)) (he : 0 < e.size)
    {w' : World} (hw : ∃ n, w' = { w.alloc (.cells cells ty) with drawn := n })
    (hrun : (execOp a.eval o).run P w = .ok (.value (.slice (some ⟨w.heap.size, 0, none⟩) xs.length c)) w') {post : List Value} (hrel : ∃ front, cells.toList = front ++ post ∧ RelL e.size (RelD w S e) front xs) (hc : xs.length ≤ c) (hcm : c ≤ maxLen) (hcs : c * e.size ≤ cells.size)
    (hK : K (put env d (.sl e xs (.own id))) (H.set id (.ext e xs.length))) (Q : Exit → Act → World → Prop) : o.wp P a w (OpPost nt w S mu H K) Q := by
  obtain ⟨front, hf, hrl⟩ := hrel
  have hfl := hrl.length
  have hnew : w'.heap[w.heap.size]? = some (.cells cells ty (0, 0)) := by
    obtain ⟨n, rfl⟩ := hw
    exact heap_push_new w _
  have hsz : xs.length * e.size ≤ cells.size := by rw [← Array.length_toList, hf]; simp [hfl]
  obtain ⟨S', mu', h1, h2, h3, h4⟩ := new_row (blk := .ext e xs.length) (cells := cells) (ty := ty) hR hid hcom (fun o => o < xs.length * e.size) (fun o ho => by omega)
    (fun w' S' mu' H' hc2 hT hm hs => ⟨he, .inr ⟨w.heap.size, cells, ty, hm, hc2, hsz, fun o ho => (hs o).1 ho⟩⟩) hw
  refine wp_value hd hrun h1 h2 ?_ hK Q
  have hlen : id < H.length := by
    rcases Nat.lt_or_ge id H.length with h' | h'
    · exact h'
    · rw [List.getElem?_eq_none h'] at hid; cases hid
  simp only [RelV, RelA]
  refine ⟨_, _, c, rfl, ⟨rfl, hc, hcm, fun j x hj => ?_⟩, ?_⟩
  · obtain ⟨pre, cc, post', q0, q1, q2, q3⟩ := RelL_get hrl hj
    refine ⟨w.heap.size, 0, cc, rfl, ?_, q2, RelD.mono h2.turn.stab _ _ _ q3⟩
    intro k v hk
    have hkl : k < cc.length := by
      rcases Nat.lt_or_ge k cc.length with h | h
      · exact h
      · rw [List.getElem?_eq_none h] at hk; cases hk
    have hcell := cells_mid (w := w') hnew (pre := pre) (c := cc) (post := post' ++ post) (by rw [hf, q0]; simp) k v hk
    rw [Nat.zero_add, ← q1]
    refine ⟨hcell, h4 _ ?_⟩
    have : front.length = pre.length + (cc.length + post'.length) := by rw [q0]; simp
    omega
  · simp only [RelT]
    refine ⟨.ext e xs.length, by rw [set_get hlen, if_pos rfl], rfl, ?_⟩
    intro e' m hh
    injection hh with g1 g2
    subst g1; subst g2
    exact ⟨rfl, Nat.le_refl _, fun _ => .inr ⟨w.heap.size, h3, rfl, cells, ty, _, hnew, hcs⟩⟩

theorem op_grow (hR : Rel nt w S mu H env a) {o : Oper} {d id : Nat} {e : Ty} {ty : TypeId} {xs : List D} {c : Nat} {cells : Array Value} (hd : dOK nt o.dst d = true) (hid : H[id]? = some .resv) (he : 0 < e.size)
    {w' : World} (hw : ∃ n, w' = { w.alloc (.cells cells ty) with drawn := n })
    (hrun : (execOp a.eval o).run P w = .ok (.value (.slice (some ⟨w.heap.size, 0, none⟩) xs.length c)) w') {post : List Value} (hrel : ∃ front, cells.toList = front ++ post ∧ RelL e.size (RelD w S e) front xs) (hc : xs.length ≤ c) (hcm : c ≤ maxLen) (hcs : c * e.size ≤ cells.size)
    (hK : K (put env d (.sl e xs (.own id))) (H.set id (.ext e xs.length))) (Q : Exit → Act → World → Prop) : o.wp P a w (OpPost nt w S mu H K) Q :=
  op_grow' hR hd hid trivial he hw hrun hrel hc hcm hcs hK Q
end
end Go.Vc
