/- Operations on memory, part I: literals, made slices, and turns of how a row is seen. -/
import Derived.Test.YtgcakbnkeiajeaaVcOpH
import Derived.Great.BuildSlice
import Derived.Laws.MakeOwn
set_option linter.unusedVariables false
set_option linter.unusedSimpArgs false
namespace Go.Vc

section
variable {P : Program} {w : World} {S : SetS} {mu : Mu} {H : Heap} {env : Env} {a : Act} {nt : Nat} {K : Env → Heap → Prop}

theorem info_size {t : TypeId} {e : Ty} (he : tyOK P t e = true) : ∃ i, P.info? t = some i ∧ i.size = e.size := by
  obtain ⟨d, hd, _⟩ := tyOK_und he
  obtain ⟨i, hi⟩ := info_of_underlying hd
  refine ⟨i, hi, ?_⟩
  have hs := tyOK_size he (default : World)
  rw [run_sizeOf _ hi] at hs
  injection hs with hs
  rw [← hs]
  simp [Program.cellsOf, hi]

theorem lt_of_get {H : Heap} {id : Nat} {b : Blk} (h : H[id]? = some b) : id < H.length := by
  rcases Nat.lt_or_ge id H.length with h' | h'
  · exact h'
  · rw [List.getElem?_eq_none h'] at h; cases h

/-! ### Zeros -/
theorem zlist (z : Array Value) (hz : 0 < z.size) (n : Nat) : ((List.range ((n + 1) * z.size)).map fun j => z[j % z.size]!) = z.toList ++ (List.range (n * z.size)).map (fun j => z[j % z.size]!) := by
  apply List.ext_getElem?
  intro j
  have hm : (n + 1) * z.size = z.size + n * z.size := by rw [Nat.add_mul]; omega
  rw [List.getElem?_map]
  by_cases hj : j < z.size
  · rw [List.getElem?_append_left (by simpa using hj), List.getElem?_range (by omega)]
    simp [Nat.mod_eq_of_lt hj, hj]
  · rw [List.getElem?_append_right (by simp; omega), List.getElem?_map]
    have hmod : j % z.size = (j - z.size) % z.size := by
      exact Nat.mod_eq_sub_mod (by omega)
    by_cases hk : j < (n + 1) * z.size
    · rw [List.getElem?_range hk, List.getElem?_range (by simp; omega)]
      simp [hmod]
    · rw [List.getElem?_eq_none (by simp; omega), List.getElem?_eq_none (by simp; omega)]

theorem zeros_rel {T : Ty} (hzo : zok T = true) {z : Array Value} (hz : z.toList = zcells T) (hpos : 0 < T.size) : ∀ n, RelL T.size (RelD w S T) ((List.range (n * z.size)).map fun j => z[j % z.size]!) (List.replicate n (zeroD T))
  | 0 => by simp [RelL]
  | n + 1 => by
    have hr := zeroD_rel (w := w) (S := S) T hzo
    have hl : z.size = T.size := by
      have := hr.length
      rw [← hz] at this
      simpa using this
    rw [zlist z (by omega) n, List.replicate_succ]
    exact ⟨z.toList, _, rfl, by simpa using hl, by rw [hz]; exact hr, zeros_rel hzo hz hpos n⟩
theorem zsize {T : Ty} (hzo : zok T = true) {z : Array Value} (hz : z.toList = zcells T) : z.size = T.size := by
  have hr := zeroD_rel (w := (default : World)) (S := fun _ _ => False) T hzo
  have := hr.length
  rw [← hz] at this
  simpa using this

theorem elOK_und {t : TypeId} {e : Ty} (h : elOK P t e = true) : ∃ te, P.underlying t = some (.slice te) ∧ tyOK P te e = true ∧ zeroOK P te e = true ∧ zok e = true ∧ 0 < e.size := by
  unfold elOK at h
  split at h
  · rename_i te hu
    simp only [Bool.and_eq_true] at h
    exact ⟨te, hu, h.1.1.1, h.1.1.2, h.1.2, by simpa using h.2⟩
  · cases h

theorem RelL_nilpost {R : List Value → D → Prop} {sz : Nat} {cs : List Value} {xs : List D} (h : RelL sz R cs xs) : ∃ front, cs = front ++ [] ∧ RelL sz R front xs := ⟨cs, by simp, h⟩

/-! ### Slice literals -/
theorem setPartsD_length : ∀ (ps : List (Nat × AV)) (xs : List D), (setPartsD xs ps).length = xs.length
  | [], xs => rfl
  | p :: ps, xs => by simp [setPartsD, setPartsD_length ps]

theorem op_lit (hR : Rel nt w S mu H env a) {o : Oper} {d off n : Nat} {e : Ty} {qs : List (Nat × Ar)} {fx : Bool} {t : TypeId} {parts : Array (Nat × Operand)} (ho : o.op = .buildSlice t n parts) (hd : dOK nt o.dst d = true) (he : elOK P t e = true)
    (hp : partsOK parts.toList qs = true) (hn : Nat.ble (n * e.size) 16777216 = true) (hnm : Nat.ble n maxLen = true)
    (orc : Orc) (base : Nat) (hK : awpOp orc base (.lit d off e n qs fx) env H K) (Q : Exit → Act → World → Prop) : o.wp P a w (OpPost nt w S mu H K) Q := by
  simp only [awpOp] at hK
  cases hb : H.getD (base + off) .dead <;> simp only [hb] at hK
  cases hf : fitPartsD e n (evps qs env) with
  | false => simp [hf] at hK
  | true =>
    simp only [hf, cond_true, nrmPs_eq] at hK
    have hb' := getD_blk hb (by simp)
    obtain ⟨te, hu, hte, hz, hzo, hpos⟩ := elOK_und he
    obtain ⟨ie, z, hie, hiz, hzc⟩ := zero_info hz
    obtain ⟨ie', hie', hs⟩ := info_size hte
    rw [hie] at hie'
    injection hie' with hie'
    subst hie'
    have hzs := zsize hzo hzc
    simp at hn hnm
    have hrange : ((Array.range (n * ie.size)).map (z.cells[· % z.cells.size]!)).toList = (List.range (n * z.cells.size)).map fun j => z.cells[j % z.cells.size]! := by
      rw [Array.toList_map, Array.toList_range, hs, hzs]
    obtain ⟨cells', k1, k2, k3⟩ := fill_ar (cells := (Array.range (n * ie.size)).map (z.cells[· % z.cells.size]!)) (e := e) (n := n) hR.env hp hf (List.length_replicate ..) (by rw [hrange]; exact zeros_rel hzo hzc hpos n)
    have hparts : (parts.map fun (i, x) => (i, a.eval x)).toList = parts.toList.map fun p => (p.1, a.eval p.2) := by rw [Array.toList_map]
    have hrun : (Instr.buildSlice t n (parts.map fun (i, x) => (i, a.eval x))).run P w = .ok (.slice (some ⟨w.heap.size, 0, none⟩) n n) (w.alloc (.cells cells' te)) := by
      rcases Nat.eq_zero_or_pos n with h0 | h0
      · subst h0
        simp only [Nat.zero_mul] at k1
        have k1' : Instr.fill (fun i => some (i * ie.size, ie.size)) #[] (parts.toList.map fun p => (p.1, a.eval p.2)) = some cells' := by
          rw [← hs] at k1
          simpa [Array.range_zero'] using k1
        simp only [Instr.buildSlice, Sem.run_bind, run_underlying hu, Result.andThen_ok, tyOK_size hte w, Nat.zero_mul, hparts, Array.range_zero', Array.map_empty]
        rw [← hs, k1']
        simp [newRow]
      · exact run_buildSlice w t te n _ cells' ie z hu hie hiz (by rw [hs]; omega) (by rw [hs]; exact Nat.pos_iff_ne_zero.1 (Nat.mul_pos h0 hpos)) (by rw [hparts, hs]; rw [hs] at k1; exact k1)
    have hexec : (execOp a.eval o).run P w = .ok (.value (.slice (some ⟨w.heap.size, 0, none⟩) n n)) (w.alloc (.cells cells' te)) := by
      simp only [execOp, ho, Sem.run_bind]
      exact (congrArg (fun r => Result.andThen r fun a w' => (pure (Next.value a) : Sem Next).run P w') hrun)
    have hcs : n * e.size ≤ cells'.size := by
      have := k2.length
      rw [k3] at this
      simp at this
      omega
    cases fx with
    | true =>
      simp only [cond_true] at hK
      cases h0 : Nat.beq n 0 with
      | true =>
        simp only [h0, cond_true] at hK
        have hn0 : n = 0 := by simpa using h0
        subst hn0
        obtain ⟨g1, g2⟩ := new_junk hR (o := .cells cells' te) (w' := w.alloc (.cells cells' te)) ⟨w.drawn, rfl⟩
        refine wp_value hd hexec g1 g2 ?_ hK Q
        simp only [RelV, RelA]
        exact ⟨_, _, _, rfl, ⟨rfl, Nat.le_refl _, by omega, fun j x hj => by simp at hj⟩, rfl⟩
      | false =>
        simp only [h0, cond_false] at hK
        generalize hxs : setPartsD (List.replicate n (zeroD e)) (evps qs env) = xs at hK k2 k3
        subst k3
        exact op_fix hR hd hb' hpos ⟨w.drawn, rfl⟩ hexec (post := []) (RelL_nilpost k2) (Nat.le_refl _) hnm hcs hK Q
    | false =>
      simp only [cond_false] at hK
      generalize hxs : setPartsD (List.replicate n (zeroD e)) (evps qs env) = xs at hK k2 k3
      subst k3
      exact op_grow hR hd hb' hpos ⟨w.drawn, rfl⟩ hexec (post := []) (RelL_nilpost k2) (Nat.le_refl _) hnm hcs hK Q

/-! ### Made slices -/
theorem op_make (hR : Rel nt w S mu H env a) {o : Oper} {d off bs : Nat} {e : Ty} {l : Ar} {t : TypeId} {L C : Operand} (ho : o.op = .makeSlice t L C) (hd : dOK nt o.dst d = true) (he : elOK P t e = true) (hbs : elBytes P t bs = true) (hbp : Nat.blt 0 bs = true)
    (hl : arOK L l = true) (hc : arOK C l = true)
    (orc : Orc) (base : Nat) (hK : awpOp orc base (.make d off e bs l) env H K) (Q : Exit → Act → World → Prop) : o.wp P a w (OpPost nt w S mu H K) Q := by
  simp only [awpOp] at hK
  have r1 := arOK_rel hR.env hl
  have r2 := arOK_rel hR.env hc
  cases hb : H.getD (base + off) .dead <;> cases hv : l.ev env <;> simp only [hb, hv] at hK
  rename_i k n
  obtain ⟨⟨h0, h1⟩, hK⟩ := hK
  rw [hv] at r1 r2
  have hb' := getD_blk hb (by simp)
  obtain ⟨te, hu, hte, hz, hzo, hpos⟩ := elOK_und he
  obtain ⟨ie, z, hie, hiz, hzc⟩ := zero_info hz
  obtain ⟨ie', hie', hs⟩ := info_size hte
  rw [hie] at hie'
  injection hie' with hie'
  subst hie'
  have hzs := zsize hzo hzc
  have hby : ie.bytes = bs := by
    unfold elBytes at hbs
    rw [hu] at hbs
    simp only [bytesOK, hie] at hbs
    simpa using hbs
  have hbp0 : 0 < bs := by simpa using hbp
  have hbp' : 1 ≤ bs := hbp0
  obtain ⟨m, rfl⟩ : ∃ m : Nat, n = m := ⟨n.toNat, by omega⟩
  simp only [Int.toNat_natCast] at hK
  have h1' : m * bs ≤ 281474976710656 := by
    have : ((m * bs : Nat) : Int) ≤ 281474976710656 := by rw [Int.natCast_mul]; exact h1
    omega
  have hmle : m ≤ 281474976710656 := by
    have : m * 1 ≤ m * bs := Nat.mul_le_mul_left _ hbp'
    omega
  have hrun := run_make (P := P) w t te ie z hu hie hiz k k m m (by omega) (by omega) (by rw [hby, Int.mul_comm]; exact h1) (by omega)
  simp only [Int.toNat_natCast] at hrun
  have hml : (madeCells z.cells (m * ie.size)).toList = (List.range (m * z.cells.size)).map fun j => z.cells[j % z.cells.size]! := by
    rw [madeCells, Array.toList_map, Array.toList_range, hs, hzs]
  have hrel : RelL e.size (RelD w S e) (madeCells z.cells (m * ie.size)).toList (List.replicate m (zeroD e)) := by rw [hml]; exact zeros_rel hzo hzc hpos m
  have hexec : (execOp a.eval o).run P w = .ok (.value (.slice (some ⟨w.heap.size, 0, none⟩) (List.replicate m (zeroD e)).length m)) (w.alloc (.cells (madeCells z.cells (m * ie.size)) te)) := by
    simp only [execOp, ho, r1.int.1, r2.int.1, Sem.run_bind, List.length_replicate]
    exact (congrArg (fun r => Result.andThen r fun a w' => (pure (Next.value a) : Sem Next).run P w') hrun)
  exact op_fix hR hd hb' hpos ⟨w.drawn, rfl⟩ hexec (post := []) (RelL_nilpost hrel) (by simp) (by simp [maxLen]; omega) (by rw [size_madeCells, hs]; omega) (by simpa using hK) Q

/-! ### Turns of how a row is seen -/
def isNilSl : Operand → Bool
  | .const (.slice none 0 0) => true
  | _ => false

theorem op_mk (hR : Rel nt w S mu H env a) {o : Oper} {d off : Nat} {e : Ty} {x : Ar} {X : Operand} (ho : o.op = .assign X ∨ o.op = .move X) (hX : arOK X x = true) (he : Nat.blt 0 e.size = true) (hd : dOK nt o.dst d = true)
    (orc : Orc) (base : Nat) (hK : awpOp orc base (.mk d off e x) env H K) (Q : Exit → Act → World → Prop) : o.wp P a w (OpPost nt w S mu H K) Q := by
  have r1 := arOK_rel hR.env hX
  simp only [awpOp] at hK
  have hex : (execOp a.eval o).run P w = .ok (.value (a.eval X)) w := by rcases ho with ho | ho <;> simp [execOp, ho]
  split at hK
  · rename_i u hv
    rw [hv] at r1
    cases hu : Ty.same u e <;> rw [hu] at hK
    · cases hK
    · have hu := Ty.same_eq _ _ hu
      subst hu
      simp only [cond_true] at hK
      cases hb : H.getD (base + off) .dead <;> simp only [hb] at hK
      have hb' := getD_blk hb (by simp)
      obtain ⟨mu', g1, g2⟩ := mk_turn hR hb' (e := u) (by simpa using he)
      simp only [RelV, RelA] at r1
      obtain ⟨ad, n, c, e1, ⟨h1, h2, h3, _⟩, h4⟩ := r1
      injection e1 with e1
      simp only [RelT] at h4
      simp at h1
      subst h1; subst h4
      refine wp_value hd (v := .slice ad 0 0) (by rw [hex, e1]) g1 g2 ?_ hK Q
      simp only [RelV, RelA]
      refine ⟨ad, 0, 0, rfl, ⟨rfl, Nat.le_refl _, by simp [maxLen], fun j x hj => by simp at hj⟩, .ext u 0, by rw [set_get (lt_of_get hb'), if_pos rfl], rfl, ?_⟩
      intro e' m hh
      injection hh with q1 q2
      subst q1; subst q2
      exact ⟨rfl, Nat.le_refl _, fun _ => .inl rfl⟩
  · rename_i u xs id hv
    rw [hv] at r1
    exact wp_value hd hex hR (Ev.refl _ _ _ _) r1 hK Q
  · cases hK

/-- From a row of fixed length to a growing one. -/
theorem fix_ext (hR : Rel nt w S mu H env a) {id : Nat} {e : Ty} {xs : List D} (hid : H[id]? = some (.fix e xs false)) (k : Nat) (hk : k ≤ xs.length) :
    ∃ S' b cells ty, mu id = some b ∧ w.heap[b]? = some (.cells cells ty (0, 0)) ∧ Rel nt w S' mu (H.set id (.ext e k)) env a ∧ Ev w S mu H w S' mu (H.set id (.ext e k)) ∧ (∀ o, S' b o ↔ o < k * e.size) ∧
      ∀ (j : Nat) (x : D), xs[j]? = some x → RelD w S e ((cells.toList.drop (j * e.size)).take e.size) x ∧ j * e.size + e.size ≤ cells.size := by
  obtain ⟨b, cells, ty, h1, h2, h3, h4, h5, h6⟩ := hR.heap.blk id _ hid
  have hks : k * e.size ≤ cells.size := Nat.le_trans (Nat.mul_le_mul_right _ hk) h4
  obtain ⟨S', g1, g2, g3⟩ := ghost_turn hR (blk' := .ext e k) hid rfl h1 h2 (fun o => o < k * e.size) (fun o ho => by omega) (.inr (.inr ⟨_, _, rfl⟩))
    (fun w' S' H' hc hT hS => ⟨h3, .inr ⟨b, cells, ty, h1, hc, hks, fun o hs => ((hS o).1 hs).elim (fun hs => absurd hs (h6 rfl o)) (fun hs => hs)⟩⟩)
  refine ⟨S', b, cells, ty, h1, h2, g1, g2, fun o => ⟨fun hs => ((g3 o).1 hs).elim (fun hs => absurd hs (h6 rfl o)) (fun hs => hs), fun hs => (g3 o).2 (.inr hs)⟩, fun j x hj => ⟨h5 j x hj, ?_⟩⟩
  have hjl : j < xs.length := by
    rcases Nat.lt_or_ge j xs.length with h | h
    · exact h
    · rw [List.getElem?_eq_none h] at hj; cases hj
  have : (j + 1) * e.size ≤ xs.length * e.size := Nat.mul_le_mul_right _ hjl
  rw [Nat.add_mul] at this
  omega

theorem op_close (hR : Rel nt w S mu H env a) {o : Oper} {d : Nat} {x : Ar} {X : Operand} (ho : o.op = .assign X ∨ o.op = .move X) (hx : arOK X x = true) (hd : dOK nt o.dst d = true)
    (orc : Orc) (base : Nat) (hK : awpOp orc base (.close d x) env H K) (Q : Exit → Act → World → Prop) : o.wp P a w (OpPost nt w S mu H K) Q := by
  have r1 := arOK_rel hR.env hx
  simp only [awpOp] at hK
  cases hv : x.ev env <;> simp only [hv] at hK
  rename_i id u off len
  cases off with
  | succ off => simp only at hK
  | zero =>
    simp only at hK
    cases hbk : H.getD id .dead with
    | fix e xs fz =>
      cases fz with
      | true => simp only [hbk] at hK
      | false =>
        simp only [hbk] at hK
        cases hs : Ty.same u e with
        | false => simp [hs] at hK
        | true =>
          have := Ty.same_eq _ _ hs
          subst this
          simp only [hs, cond_true] at hK
          obtain ⟨hlen, hK⟩ := hK
          have hb' := getD_blk hbk (by simp)
          rw [hv] at r1
          obtain ⟨ad, c, e1, hra⟩ := r1.rsl
          simp only [RelA] at hra
          obtain ⟨ad', c', q0, q1, q2, q3, blk, q4, q5, q6⟩ := hra
          injection q0 with q0
          injection q0 with q00 q01 q02
          subst q00; subst q02
          rw [hb'] at q4
          injection q4 with q4
          subst q4
          obtain ⟨_, _, b, p1, p2, cells, ty, fr, p3, p4⟩ := q6 _ _ _ rfl
          obtain ⟨S', b', cells', ty', g0, g1, g2, g3, g4, g5⟩ := fix_ext hR hb' xs.length (Nat.le_refl _)
          rw [p1] at g0
          injection g0 with g0
          subst g0
          rw [p3] at g1
          injection g1 with g1
          injection g1 with g11 g12 g13
          subst g11
          refine wp_value hd (v := .slice ad len c) ?_ g2 g3 ?_ hK Q
          · rcases ho with ho | ho <;> simp [execOp, ho, e1]
          · simp only [Nat.zero_mul, Nat.zero_add] at p2 p4
            simp only [RelV, RelA]
            refine ⟨ad, len, c, rfl, ⟨hlen.symm, q1, q2, fun j y hj => ?_⟩, .ext u xs.length, by rw [set_get (lt_of_get hb'), if_pos rfl], rfl, ?_⟩
            · obtain ⟨k1, k2⟩ := g5 j y hj
              have hjl : j < xs.length := by
                rcases Nat.lt_or_ge j xs.length with h | h
                · exact h
                · rw [List.getElem?_eq_none h] at hj; cases hj
              have hne : ¬ c = 0 := by omega
              have had : ad = some ⟨b, 0, none⟩ := p2.resolve_left hne
              have hle : j * u.size + u.size ≤ xs.length * u.size := by
                have : (j + 1) * u.size ≤ xs.length * u.size := Nat.mul_le_mul_right _ hjl
                rw [Nat.add_mul] at this
                omega
              refine ⟨b, 0, _, had, fun k v hk => ?_, by simp; omega, RelD.mono g3.turn.stab _ _ _ k1⟩
              have hkl : k < u.size := by
                rcases Nat.lt_or_ge k u.size with h | h
                · exact h
                · rw [List.getElem?_eq_none (by simp; omega)] at hk; cases hk
              rw [List.getElem?_take_of_lt hkl, List.getElem?_drop] at hk
              refine ⟨?_, (g4 _).2 (by omega)⟩
              rw [cell_of p3, ← Array.getElem?_toList, ← hk]
              congr 1
              omega
            · intro e' m hh
              injection hh with q1' q2'
              subst q1'; subst q2'
              refine ⟨rfl, by omega, fun _ => ?_⟩
              rcases p2 with p2 | p2
              · exact .inl p2
              · exact .inr ⟨b, p1, p2, cells, ty, fr, p3, by simpa using p4⟩
    | var t v fz => simp only [hbk] at hK
    | resv => simp only [hbk] at hK
    | dead => simp only [hbk] at hK
    | ext e n => simp only [hbk] at hK

theorem op_trim (hR : Rel nt w S mu H env a) {o : Oper} {d : Nat} {x hi : Ar} {t te : TypeId} {ti : TypeInfo} {X Hi : Operand} (ho : o.op = .slice t X none (some Hi) none) (hx : arOK X x = true) (hh : arOK Hi hi = true) (hu : P.underlying t = some (.slice te)) (hti : P.info? te = some ti) (hd : dOK nt o.dst d = true)
    (orc : Orc) (base : Nat) (hK : awpOp orc base (.trim d x hi) env H K) (Q : Exit → Act → World → Prop) : o.wp P a w (OpPost nt w S mu H K) Q := by
  have r1 := arOK_rel hR.env hx
  have r2 := arOK_rel hR.env hh
  simp only [awpOp] at hK
  cases hv : x.ev env <;> simp only [hv] at hK
  rename_i id u off len
  cases off with
  | succ off => simp only at hK
  | zero =>
    cases hh' : hi.ev env <;> simp only [hh'] at hK
    rename_i k n
    cases hbk : H.getD id .dead with
    | fix e' xs fz =>
      cases fz with
      | true => simp only [hbk] at hK
      | false =>
        simp only [hbk] at hK
        cases hs : Ty.same u e' with
        | false => simp [hs] at hK
        | true =>
          have := Ty.same_eq _ _ hs
          subst this
          simp only [hs, cond_true] at hK
          obtain ⟨⟨hlen, hn0⟩, hK⟩ := hK
          subst hn0
          have hb' := getD_blk hbk (by simp)
          rw [hv] at r1
          obtain ⟨ad, c, e1, hra⟩ := r1.rsl
          simp only [RelA] at hra
          obtain ⟨ad', c', q0, q1, q2, q3, blk, q4, q5, q6⟩ := hra
          injection q0 with q0
          injection q0 with q00 q01 q02
          subst q00; subst q02
          rw [hb'] at q4
          injection q4 with q4
          subst q4
          obtain ⟨_, _, b, p1, p2, cells, ty, fr, p3, p4⟩ := q6 _ _ _ rfl
          obtain ⟨S', b', cells', ty', g0, g1, g2, g3, g4, g5⟩ := fix_ext hR hb' 0 (Nat.zero_le _)
          rw [p1] at g0
          injection g0 with g0
          subst g0
          rw [hh'] at r2
          have hbd := run_bounds2 (P := P) (w := w) true len c (lo := none) (hi := some (a.eval Hi)) (l := 0) (h := 0) rfl ⟨k, r2.int.1⟩ (by omega) (by omega) (by omega)
          simp only [Int.toNat_zero] at hbd
          refine wp_value hd (v := .slice (if c = 0 then ad else ad.map (·.add (0 * ti.size))) (0 - 0) (c - 0)) ?_ g2 g3 ?_ hK Q
          · have hrun : (Instr.sliceAt t (.slice ad len c) none (some (a.eval Hi)) none).run P w = .ok (.slice (if c = 0 then ad else ad.map (·.add (0 * ti.size))) (0 - 0) (c - 0)) w := by
              simp [Instr.sliceAt, run_underlying hu, Instr.slice, hbd, sizeOf, typeInfo, hti]
            simp [execOp, ho, e1, hrun]
          · simp only [Nat.zero_mul, Nat.zero_add] at p2 p4
            simp only [RelV, RelA]
            refine ⟨_, _, _, rfl, ⟨rfl, by omega, by omega, fun j y hj => by simp at hj⟩, .ext u 0, by rw [set_get (lt_of_get hb'), if_pos rfl], rfl, ?_⟩
            intro e'' m hh
            injection hh with q1' q2'
            subst q1'; subst q2'
            refine ⟨rfl, by omega, fun _ => ?_⟩
            rcases p2 with p2 | p2
            · exact .inl (by omega)
            · refine .inr ⟨b, p1, ?_, cells, ty, fr, p3, by simpa using p4⟩
              subst p2
              split
              · rfl
              · simp [addr_add]
    | var t v fz => simp only [hbk] at hK
    | resv => simp only [hbk] at hK
    | dead => simp only [hbk] at hK
    | ext e n => simp only [hbk] at hK

/-- The array that a variable holds, cut: it stays as it is from now on. -/
theorem op_acut (hR : Rel nt w S mu H env a) {o : Oper} {d n : Nat} {e : Ty} {x : Ar} {lo hi : Option Ar} {t : TypeId} {X : Operand} {Lo Hi : Option Operand} (ho : o.op = .slice t X Lo Hi none) (hx : arOK X x = true) (hl : optOK Lo lo = true) (hh : optOK Hi hi = true)
    (ht : tyOK P t (.arr n e) = true) (hnm : Nat.ble n maxLen = true) (hd : dOK nt o.dst d = true)
    (orc : Orc) (base : Nat) (hK : awpOp orc base (.acut d n e x lo hi) env H K) (Q : Exit → Act → World → Prop) : o.wp P a w (OpPost nt w S mu H K) Q := by
  have r1 := arOK_rel hR.env hx
  simp only [awpOp] at hK
  cases hv : x.ev env <;> simp only [hv] at hK
  rename_i id p u
  cases hs : Ty.same u (.arr n e) with
  | false => simp [hs] at hK
  | true =>
    have := Ty.same_eq _ _ hs
    subst this
    simp only [hs, cond_true] at hK
    cases hbk : H.getD id .dead with
    | var T v fz =>
      simp only [hbk] at hK
      have hb' := getD_blk hbk (by simp)
      rw [hv] at r1
      obtain ⟨b, o', e1, blk, hb, hu, hpl⟩ := r1.ptr
      rw [hb'] at hb
      injection hb with hb
      subst hb
      obtain ⟨g1, g2, g3⟩ := hpl (.inl ⟨_, _, _, rfl⟩)
      simp only [Blk.place] at g2
      simp only [Blk.ty] at g3
      cases hga : getA p v <;> simp only [hga] at hK
      rename_i m f xs
      cases hlo : optI lo env 0 with
      | none => simp only [hlo] at hK
      | some l =>
      cases hhi : optI hi env n with
      | none => simp only [hlo, hhi] at hK
      | some h =>
      simp only [hlo, hhi] at hK
      obtain ⟨⟨c0, c1, c2⟩, hK⟩ := hK
      have il := optI_rel hR.env hl hlo
      have ih := optI_rel hR.env hh hhi
      obtain ⟨b', cells, ty, k1, k2, k3, k4, k5, k6⟩ := hR.heap.blk id _ hb'
      rw [g1] at k1
      injection k1 with k1
      subst k1
      obtain ⟨pre, c, post, q1, q2, q3, q4⟩ := getA_rel k5 k4 g2
      rw [hga, g3] at q4
      simp [fitsV] at q4
      obtain ⟨rfl, hfe⟩ := q4
      have := Ty.same_eq _ _ hfe
      subst this
      rw [hga] at q3
      simp only [RelA] at q3
      obtain ⟨hlen, hrl⟩ := q3
      obtain ⟨S', s1, s2, s3⟩ := ghost_turn hR (blk' := .var T v true) hb' rfl g1 k2 (fun o => o < cells.size) (fun o ho => ho) (.inr ⟨_, _, rfl, rfl, fun _ => rfl⟩)
        (fun w' S' H' hc hT hS => ⟨b, cells, ty, g1, hc, k3, RelA.mono hT _ _ k4, k5, fun hf => by cases hf⟩)
      obtain ⟨dd, hdd, te, rfl, hte⟩ := tyOK_und ht
      have hbd := run_bounds2 (P := P) (w := w) false m m il ih c0 c1 (by omega)
      have hlies : Lies w S' b o' c := fun k v hk => by
        have hkl : k < c.length := by
          rcases Nat.lt_or_ge k c.length with h | h
          · exact h
          · rw [List.getElem?_eq_none h] at hk; cases hk
        refine ⟨by rw [← q2]; exact cells_mid k2 q1 k v hk, (s3 _).2 (.inr ?_)⟩
        have : cells.size = pre.length + (c.length + post.length) := by
          rw [← Array.length_toList, q1]; simp
        omega
      have hnm' : m ≤ maxLen := by simpa using hnm
      have hS := RelL_slice hlies (hrl.mono fun cs x hx => RelD.mono s2.turn.stab _ _ _ hx) (by rw [hlen]; exact hnm')
      have hc := RelS_cut hS (l := l.toNat) (k := h.toNat) (m := m) (by omega) (by omega) (by omega) (by omega)
      refine wp_value hd (v := .slice (some (if m = l.toNat then ⟨b, o', none⟩ else (⟨b, o', none⟩ : Addr).add (l.toNat * f.size))) (h.toNat - l.toNat) (m - l.toNat)) (by simp [execOp, ho, e1, run_slice_ar hdd hte hbd]) s1 s2 ?_ hK Q
      simp only [RelV, RelA]
      refine ⟨_, _, _, rfl, ?_, trivial⟩
      have hsome : (some (if m = l.toNat then (⟨b, o', none⟩ : Addr) else (⟨b, o', none⟩ : Addr).add (l.toNat * f.size))) = (if m = l.toNat then some (⟨b, o', none⟩ : Addr) else (some (⟨b, o', none⟩ : Addr)).map (·.add (l.toNat * f.size))) := by
        split <;> rfl
      rw [hsome]
      exact hc
    | fix e xs fz => simp only [hbk] at hK
    | resv => simp only [hbk] at hK
    | dead => simp only [hbk] at hK
    | ext e n => simp only [hbk] at hK
end
end Go.Vc
