/- Operations on memory, part K: zeros appended, capacity, a comparison with nil; the check of one operation. -/
import Derived.Test.YtgcakbnkeiajeaaVcOpJ
import Derived.Laws.Cover3
set_option linter.unusedVariables false
set_option linter.unusedSimpArgs false
namespace Go.Vc

def intTy (P : Program) (t : TypeId) : Bool := match P.underlying t with
  | some (.int _) => true
  | _ => false

/-- One operation and its abstract form. Calls are checked elsewhere. -/
def mOK (P : Program) (nt : Nat) (o : Oper) : AOp → Bool
  | .v d vo => dOK nt o.dst d && vOK P o.op vo
  | .load d t x => dOK nt o.dst d && (match o.op with | .load ty X => tyOK P ty t && arOK X x | _ => false)
  | .alloc d _ t => dOK nt o.dst d && (match o.op with | .alloc ty => tyOK P ty t && zeroOK P ty t && zokA t | _ => false)
  | .box d _ t x => dOK nt o.dst d && (match o.op with | .box ty X => arOK X x | _ => false)
  | .lit d _ e n qs _ => dOK nt o.dst d && (match o.op with | .buildSlice t m parts => Nat.beq m n && elOK P t e && partsOK parts.toList qs && Nat.ble (n * e.size) 16777216 && Nat.ble n maxLen | _ => false)
  | .make d _ e bs l => dOK nt o.dst d && (match o.op with | .makeSlice t L C => elOK P t e && elBytes P t bs && Nat.blt 0 bs && arOK L l && arOK C l | _ => false)
  | .app d _ e bs s x _ => dOK nt o.dst d && (match o.op with | .call c => callOf .append c && (match c.args.toList, c.argTypes.toList with | [X, Y], [t, tx] => slOrStr P tx && elOK P t e && elBytes P t bs && Nat.blt 0 bs && arOK X s && arOK Y x | _, _ => false) | _ => false)
  | .appz d _ e bs s n => dOK nt o.dst d && (match o.op with | .call c => callOf .append c && (match c.args.toList, c.argTypes.toList with | [X, Y], [t, tx] => intTy P tx && elOK P t e && elBytes P t bs && Nat.blt 0 bs && arOK X s && arOK Y n | _, _ => false) | _ => false)
  | .store t x y => o.dst.isNone && (match o.op with | .store ty X Y => tyOK P ty t && arOK X x && arOK Y y | _ => false)
  | .mk d _ e x => dOK nt o.dst d && Nat.blt 0 e.size && (match o.op with | .assign X => arOK X x | .move X => arOK X x | _ => false)
  | .close d x => dOK nt o.dst d && (match o.op with | .assign X => arOK X x | .move X => arOK X x | _ => false)
  | .trim d x hi => dOK nt o.dst d && (match o.op with | .slice t X none (some Hi) none => (match P.underlying t with | some (.slice te) => arOK X x && arOK Hi hi && (match P.info? te with | some _ => true | none => false) | _ => false) | _ => false)
  | .acut d n e x lo hi => dOK nt o.dst d && (match o.op with | .slice t X Lo Hi none => arOK X x && optOK Lo lo && optOK Hi hi && tyOK P t (.arr n e) && Nat.ble n maxLen | _ => false)
  | .eqnil d neg x => dOK nt o.dst d && (match o.op with
    | .binOp p t X Y yt => (match p with | .eql => !neg | .neq => neg | _ => false) && isNilSl Y && arOK X x && (match P.underlying t with | some (.slice _) => true | _ => false)
    | _ => false)
  | .cap d x => dOK nt o.dst d && (match o.op with | .call c => callOf .cap c && (match c.args.toList, c.argTypes.toList with | [X], [t] => arOK X x && (match P.underlying t with | some (.slice _) => true | _ => false) | _, _ => false) | _ => false)
  | .callP .. => false
  | .boxc d t x => dOK nt o.dst d && (match o.op with | .box ty X => arOK X x | _ => false)
  | .callS .. => false
  | .stop d => dOKo nt o.dst d

section
variable {P : Program} {w : World} {S : SetS} {mu : Mu} {H : Heap} {env : Env} {a : Act} {nt : Nat} {K : Env → Heap → Prop}

theorem op_appz (hR : Rel nt w S mu H env a) {o : Oper} {d off bs : Nat} {e : Ty} {s x : Ar} {c : Call} {t tx : TypeId} {X Y : Operand} (ho : o.op = .call c) (hb : callOf .append c = true) (hargs : c.args.toList = [X, Y]) (hats : c.argTypes.toList = [t, tx])
    (hk : intTy P tx = true) (he : elOK P t e = true) (hbs : elBytes P t bs = true) (hbp : Nat.blt 0 bs = true) (hX : arOK X s = true) (hY : arOK Y x = true) (hd : dOK nt o.dst d = true)
    (orc : Orc) (base : Nat) (hK : awpOp orc base (.appz d off e bs s x) env H K) (Q : Exit → Act → World → Prop) : o.wp P a w (OpPost nt w S mu H K) Q := by
  have r1 := arOK_rel hR.env hX
  have r2 := arOK_rel hR.env hY
  obtain ⟨te, hu, hte, hz, hzo, hpos⟩ := elOK_und he
  obtain ⟨ie, z, hie, hiz, hzc⟩ := zero_info hz
  obtain ⟨ie', hie', hsz⟩ := info_size hte
  rw [hie] at hie'
  injection hie' with hie'
  subst hie'
  have hzs := zsize hzo hzc
  have hby : ie.bytes = bs := by
    unfold elBytes at hbs
    rw [hu] at hbs
    simp only [bytesOK, hie] at hbs
    simpa using hbs
  have hbp' : 0 < ie.bytes := by rw [hby]; simpa using hbp
  obtain ⟨kt, hkt⟩ : ∃ kt, P.underlying tx = some (.int kt) := by
    unfold intTy at hk
    split at hk
    · exact ⟨_, ‹_›⟩
    · cases hk
  simp only [awpOp] at hK
  cases hsv : s.ev env <;> cases hxv : x.ev env <;> cases hbk : H.getD (base + off) .dead <;> simp only [hsv, hxv, hbk] at hK <;> rename_i u xs tk k n <;> cases tk <;> simp only at hK
  cases hs : Ty.same u e with
  | false => simp [hs] at hK
  | true =>
    have hue := Ty.same_eq _ _ hs
    subst hue
    simp only [hs, cond_true] at hK
    obtain ⟨⟨hx0, hn0, hro⟩, hK⟩ := hK
    have hb' := getD_blk hbk (by simp)
    rw [hsv] at r1
    rw [hxv] at r2
    obtain ⟨ad, m, cp, e1, hrs, htk⟩ := r1.sl
    have hm0 : m = 0 := by rw [← hrs.1]; exact hx0
    subst hm0
    have hcp : cp = 0 := htk
    subst hcp
    obtain ⟨n, rfl⟩ : ∃ m : Nat, n = m := ⟨n.toNat, by omega⟩
    simp only [Int.toNat_natCast] at hK hro
    have hn0' : 0 < n := by omega
    have hroom : n * ie.bytes ≤ 140737488355328 := by rw [hby]; exact hro
    have hexec : (execOp a.eval o).run P w = .ok (.value (.slice (some ⟨w.heap.size, 0, none⟩) n (grownCap w n 0 te))) { w.alloc (.cells (Builtin.zeroCells z.cells n ++ Builtin.zeroCells z.cells (grownCap w n 0 te - n)) te) with drawn := w.drawn + 1 } :=
      exec_append ho hb hargs hats (fun ty => by
        rw [e1, r2.int.1]
        exact run_append_zeros (w := w) hu hkt hie hiz hzs hsz hpos hn0' hbp' hroom)
    have hzl : (Builtin.zeroCells z.cells n).toList = (List.range (n * z.cells.size)).map fun j => z.cells[j % z.cells.size]! := by
      rw [Builtin.zeroCells, Array.toList_map, Array.toList_range]
    have hrel : RelL u.size (RelD w S u) (Builtin.zeroCells z.cells n).toList (List.replicate n (zeroD u)) := by rw [hzl]; exact zeros_rel hzo hzc hpos n
    have hge := grownCap_ge w n 0 te
    have hle : n ≤ maxLen := by
      have : n * 1 ≤ n * ie.bytes := Nat.mul_le_mul_left _ hbp'
      simp [maxLen]
      omega
    have hcm := grownCap_le_maxLen w n 0 te hle
    refine op_fix hR (xs := List.replicate n (zeroD u)) (c := grownCap w n 0 te) hd hb' hpos ⟨w.drawn + 1, rfl⟩ (by simpa using hexec) ⟨_, Array.toList_append, hrel⟩ (by simpa using hge) hcm ?_ (by simpa using hK) Q
    simp only [Array.size_append, Builtin.zeroCells, Array.size_map, Array.size_range, hzs]
    rw [← Nat.add_mul]
    exact Nat.mul_le_mul_right _ (by omega)

theorem op_cap (hR : Rel nt w S mu H env a) {o : Oper} {d : Nat} {x : Ar} {c : Call} {t te : TypeId} {X : Operand} (ho : o.op = .call c) (hb : callOf .cap c = true) (hargs : c.args.toList = [X]) (hats : c.argTypes.toList = [t])
    (hu : P.underlying t = some (.slice te)) (hX : arOK X x = true) (hd : dOK nt o.dst d = true)
    (orc : Orc) (base : Nat) (hK : awpOp orc base (.cap d x) env H K) (Q : Exit → Act → World → Prop) : o.wp P a w (OpPost nt w S mu H K) Q := by
  have r1 := arOK_rel hR.env hX
  simp only [awpOp] at hK
  cases hv : x.ev env <;> simp only [hv] at hK
  rename_i u xs tk
  cases tk <;> simp only at hK
  rw [hv] at r1
  obtain ⟨ad, n, cp, e1, hrs, htk⟩ := r1.sl
  have hcp : cp = n := htk
  subst hcp
  have hn := hrs.1
  have hm := hrs.2.2.1
  refine wp_gives hR hd (gives_mk (v := .int .i64 (xs.length : Int)) ?_ (relv_int (has_len _ (by omega)))) hK Q
  obtain ⟨callee, args, ats⟩ := c
  have hargs' : args = #[X] := by rw [← Array.toList_inj]; simpa using hargs
  have hats' : ats = #[t] := by rw [← Array.toList_inj]; simpa using hats
  subst hargs'
  subst hats'
  cases callee <;> simp [callOf] at hb
  subst hb
  simp [execOp, ho, resolve, invoke, builtin, Builtin.cap_, run_underlying hu, e1, goInt, hn]

theorem op_eqnil (hR : Rel nt w S mu H env a) {o : Oper} {d : Nat} {neg : Bool} {x : Ar} {p : BinOp} {t te yt : TypeId} {X Y : Operand} (ho : o.op = .binOp p t X Y yt) (hp : (p = .eql ∧ neg = false) ∨ (p = .neq ∧ neg = true)) (hY : isNilSl Y = true)
    (hu : P.underlying t = some (.slice te)) (hX : arOK X x = true) (hd : dOK nt o.dst d = true)
    (orc : Orc) (base : Nat) (hK : awpOp orc base (.eqnil d neg x) env H K) (Q : Exit → Act → World → Prop) : o.wp P a w (OpPost nt w S mu H K) Q := by
  have r1 := arOK_rel hR.env hX
  simp only [awpOp] at hK
  cases hv : x.ev env <;> simp only [hv] at hK
  rename_i u xs tk
  rw [hv] at r1
  obtain ⟨ad, n, cp, e1, hrs, htk⟩ := r1.sl
  have hev : a.eval Y = .slice none 0 0 := by
    unfold isNilSl at hY
    split at hY
    · rfl
    · cases hY
  have hK' : K (put env d (.bool (ad.isNone != neg))) H := by
    cases hb : ad.isNone with
    | false =>
      have := hK.s
      cases neg <;> exact this
    | true =>
      have hx : xs = [] := by
        cases xs with
        | nil => rfl
        | cons y ys =>
          obtain ⟨b, o', cs, q, _⟩ := hrs.2.2.2 0 y rfl
          rw [q] at hb
          cases hb
      have := hK.n hx
      cases neg <;> exact this
  have hg : (eqGuard p t X Y (a.eval X) (a.eval Y)).run P w = .ok () w := by
    rw [e1]; exact run_guard_num _ _ _ _ _ _ (by simp) (by simp)
  refine wp_gives hR hd (gives_mk (v := .bool (ad.isNone != neg)) ?_ ?_) hK' Q
  · rcases hp with ⟨rfl, rfl⟩ | ⟨rfl, rfl⟩
    · have : (binOp .eql t (.slice ad n cp) (.slice none 0 0)).run P w = .ok (.bool ad.isNone) w := by
        simp [binOp, run_equal_slice_nil w t te ad n cp hu]
      simp only [execOp, ho, Sem.run_bind, hg, Result.andThen_ok]
      rw [e1, hev, this]
      simp
    · have := run_neq_slice_nil w t te ad n cp hu
      simp only [execOp, ho, Sem.run_bind, hg, Result.andThen_ok]
      rw [e1, hev, this]
      simp
  · simp only [RelV, RelA]

theorem op_boxc (hR : Rel nt w S mu H env a) {o : Oper} {d : Nat} {t : Ty} {x : Ar} {ty : TypeId} {X : Operand} (ho : o.op = .box ty X) (hd : dOK nt o.dst d = true) (hx : arOK X x = true)
    (orc : Orc) (base : Nat) (hK : awpOp orc base (.boxc d t x) env H K) (Q : Exit → Act → World → Prop) : o.wp P a w (OpPost nt w S mu H K) Q := by
  have r1 := arOK_rel hR.env hx
  simp only [awpOp, nrm_eq] at hK
  cases hf : fits (x.ev env) t with
  | false => rw [hf] at hK; exact hK.elim
  | true =>
    rw [hf] at hK
    simp only [cond_true] at hK
    have hfv := fitsV_of_fits _ _ hf
    obtain ⟨hval, hrel⟩ := r1.val hfv
    obtain ⟨S', g1, g2, g3⟩ := new_data hR (cells := (a.eval X).cells) (ty := ty)
    have hdat := toD_rel _ _ _ hf hrel
    have hnew : (w.alloc (.cells (a.eval X).cells ty)).heap[w.heap.size]? = some (.cells (a.eval X).cells ty (0, 0)) := heap_push_new w _
    refine wp_value hd (v := .pointer (some ⟨w.heap.size, 0, none⟩)) ?_ g1 g2 ?_ hK Q
    · simp only [execOp, ho, Sem.run_bind, Instr.box, Result.andThen_ok, run_newVar, Sem.run_pure]
    · simp only [RelV, RelA]
      refine ⟨w.heap.size, 0, rfl, (a.eval X).cells.toList, fun k v hk => ?_, RelD.mono g2.turn.stab _ _ _ hdat⟩
      have hkl : k < (a.eval X).cells.size := by
        rcases Nat.lt_or_ge k (a.eval X).cells.toList.length with h | h
        · simpa using h
        · rw [List.getElem?_eq_none h] at hk; cases hk
      rw [Nat.zero_add]
      exact ⟨by rw [cell_of hnew, ← Array.getElem?_toList]; exact hk, g3 k hkl⟩

theorem mop_sound (hR : Rel nt w S mu H env a) {o : Oper} {op : AOp} (hm : mOK P nt o op = true) (orc : Orc) (base : Nat) (hK : awpOp orc base op env H K) (Q : Exit → Act → World → Prop) : o.wp P a w (OpPost nt w S mu H K) Q := by
  cases op with
  | v d vo =>
    simp only [mOK, Bool.and_eq_true] at hm
    simp only [awpOp] at hK
    cases hv : vop vo env with
    | ok v => rw [hv] at hK; exact wp_gives hR hm.1 (vop_sound hR.env hm.2 (.inl hv)) hK Q
    | iff c v => rw [hv] at hK; exact wp_gives hR hm.1 (vop_sound hR.env hm.2 (.inr ⟨c, hv, hK.1⟩)) hK.2 Q
    | bad => rw [hv] at hK; exact hK.elim
  | load d t x =>
    simp only [mOK, Bool.and_eq_true] at hm
    obtain ⟨h1, h2⟩ := hm
    split at h2
    · rename_i ty X ho
      simp only [Bool.and_eq_true] at h2
      exact op_load hR ho h1 h2.1 h2.2 orc base hK Q
    · cases h2
  | alloc d off t =>
    simp only [mOK, Bool.and_eq_true] at hm
    obtain ⟨h1, h2⟩ := hm
    split at h2
    · rename_i ty ho
      simp only [Bool.and_eq_true] at h2
      exact op_alloc hR ho h1 h2.1.1 h2.1.2 h2.2 orc base hK Q
    · cases h2
  | box d off t x =>
    simp only [mOK, Bool.and_eq_true] at hm
    obtain ⟨h1, h2⟩ := hm
    split at h2
    · rename_i ty X ho
      exact op_box hR ho h1 h2 orc base hK Q
    · cases h2
  | lit d off e n qs fx =>
    simp only [mOK, Bool.and_eq_true] at hm
    obtain ⟨h1, h2⟩ := hm
    split at h2
    · rename_i t m parts ho
      simp only [Bool.and_eq_true] at h2
      obtain ⟨⟨⟨⟨g1, g2⟩, g3⟩, g4⟩, g5⟩ := h2
      have := Nat.eq_of_beq_eq_true g1
      subst this
      exact op_lit hR ho h1 g2 g3 g4 g5 orc base hK Q
    · cases h2
  | make d off e bs l =>
    simp only [mOK, Bool.and_eq_true] at hm
    obtain ⟨h1, h2⟩ := hm
    split at h2
    · rename_i t L C ho
      simp only [Bool.and_eq_true] at h2
      obtain ⟨⟨⟨⟨g1, g2⟩, g3⟩, g4⟩, g5⟩ := h2
      exact op_make hR ho h1 g1 g2 g3 g4 g5 orc base hK Q
    · cases h2
  | app d off e bs s x fx =>
    simp only [mOK, Bool.and_eq_true] at hm
    obtain ⟨h1, h2⟩ := hm
    split at h2
    · rename_i c ho
      simp only [Bool.and_eq_true] at h2
      obtain ⟨g0, h2⟩ := h2
      split at h2
      · rename_i X Y t tx hargs hats
        simp only [Bool.and_eq_true] at h2
        obtain ⟨⟨⟨⟨⟨g1, g2⟩, g3⟩, g4⟩, g5⟩, g6⟩ := h2
        exact op_app hR ho g0 hargs hats g1 g2 g3 g4 g5 g6 h1 orc base hK Q
      · cases h2
    · cases h2
  | appz d off e bs s n =>
    simp only [mOK, Bool.and_eq_true] at hm
    obtain ⟨h1, h2⟩ := hm
    split at h2
    · rename_i c ho
      simp only [Bool.and_eq_true] at h2
      obtain ⟨g0, h2⟩ := h2
      split at h2
      · rename_i X Y t tx hargs hats
        simp only [Bool.and_eq_true] at h2
        obtain ⟨⟨⟨⟨⟨g1, g2⟩, g3⟩, g4⟩, g5⟩, g6⟩ := h2
        exact op_appz hR ho g0 hargs hats g1 g2 g3 g4 g5 g6 h1 orc base hK Q
      · cases h2
    · cases h2
  | store t x y =>
    simp only [mOK, Bool.and_eq_true] at hm
    obtain ⟨h1, h2⟩ := hm
    split at h2
    · rename_i ty X Y ho
      simp only [Bool.and_eq_true] at h2
      exact op_store hR ho (by simpa using h1) h2.1.1 h2.1.2 h2.2 orc base hK Q
    · cases h2
  | mk d off e x =>
    simp only [mOK, Bool.and_eq_true] at hm
    obtain ⟨⟨h1, h2⟩, h3⟩ := hm
    split at h3
    · rename_i X ho
      exact op_mk hR (.inl ho) h3 h2 h1 orc base hK Q
    · rename_i X ho
      exact op_mk hR (.inr ho) h3 h2 h1 orc base hK Q
    · cases h3
  | close d x =>
    simp only [mOK, Bool.and_eq_true] at hm
    obtain ⟨h1, h2⟩ := hm
    split at h2
    · rename_i X ho
      exact op_close hR (.inl ho) h2 h1 orc base hK Q
    · rename_i X ho
      exact op_close hR (.inr ho) h2 h1 orc base hK Q
    · cases h2
  | trim d x hi =>
    simp only [mOK, Bool.and_eq_true] at hm
    obtain ⟨h1, h2⟩ := hm
    split at h2
    · rename_i t X Hi ho
      split at h2
      · rename_i te hu
        simp only [Bool.and_eq_true] at h2
        obtain ⟨⟨g1, g2⟩, g3⟩ := h2
        split at g3
        · rename_i i hi'
          exact op_trim hR ho g1 g2 hu hi' h1 orc base hK Q
        · cases g3
      · cases h2
    · cases h2
  | acut d n e x lo hi =>
    simp only [mOK, Bool.and_eq_true] at hm
    obtain ⟨h1, h2⟩ := hm
    split at h2
    · rename_i t X Lo Hi ho
      simp only [Bool.and_eq_true] at h2
      obtain ⟨⟨⟨⟨g1, g2⟩, g3⟩, g4⟩, g5⟩ := h2
      exact op_acut hR ho g1 g2 g3 g4 g5 h1 orc base hK Q
    · cases h2
  | eqnil d neg x =>
    simp only [mOK, Bool.and_eq_true] at hm
    obtain ⟨h1, h2⟩ := hm
    split at h2
    · rename_i p t X Y yt ho
      simp only [Bool.and_eq_true] at h2
      obtain ⟨⟨⟨g1, g2⟩, g3⟩, g4⟩ := h2
      split at g4
      · rename_i te hu
        exact op_eqnil hR ho (by cases p <;> simp at g1 <;> simp [g1]) g2 hu g3 h1 orc base hK Q
      · cases g4
    · cases h2
  | cap d x =>
    simp only [mOK, Bool.and_eq_true] at hm
    obtain ⟨h1, h2⟩ := hm
    split at h2
    · rename_i c ho
      simp only [Bool.and_eq_true] at h2
      obtain ⟨g0, h2⟩ := h2
      split at h2
      · rename_i X t hargs hats
        simp only [Bool.and_eq_true] at h2
        obtain ⟨g1, g2⟩ := h2
        split at g2
        · rename_i te hu
          exact op_cap hR ho g0 hargs hats hu g1 h1 orc base hK Q
        · cases g2
      · cases h2
    · cases h2
  | callP d f args off cnt fz => simp [mOK] at hm
  | callS d x args fs => simp [mOK] at hm
  | stop d => simp only [awpOp] at hK
  | boxc d t x =>
    simp only [mOK, Bool.and_eq_true] at hm
    obtain ⟨h1, h2⟩ := hm
    split at h2
    · rename_i ty X ho
      exact op_boxc hR ho h1 h2 orc base hK Q
    · cases h2
end
end Go.Vc
