/- Part C: parts of values; equality of structs and arrays. -/
import Derived.Test.YtiddoflcajgjjaaVcOpB
import Derived.ChangeKeysEq
set_option linter.unusedVariables false
set_option linter.unusedSimpArgs false
namespace Go.Vc

def Val (agg : Bool) (cs : List Value) (u : Value) : Prop := if agg = true then u = .agg cs.toArray else cs = [u]

section
variable {P : Program} {w : World} {S : Nat → Nat → Prop} {mu : Mu} {H : Heap} {env : Env} {a : Act}

theorem Val.rel {v : AV} {cs : List Value} {u : Value} {T : Ty} (hf : fitsV v T = true) (h : RelA w S mu H v cs) (hv : Val T.isAgg cs u) : RelV w S mu H v u := by
  cases v <;> cases T <;> simp [fitsV] at hf <;> simp only [Val, Ty.isAgg, Bool.false_eq_true, if_false, if_true] at hv <;> first
    | (subst hv; simp only [RelV]; exact ⟨_, rfl, by simpa using h⟩)
    | (subst hv; simp only [RelV]; exact h)

mutual
theorem fitsV_of_fits : ∀ (v : AV) (t : Ty), fits v t = true → fitsV v t = true
  | .int .., t, h => by cases t <;> simp [fits] at h; simp [fitsV, h]
  | .bool .., t, h => by cases t <;> simp [fits] at h; simp [fitsV]
  | .str .., t, h => by cases t <;> simp [fits] at h; simp [fitsV]
  | .sl .., t, h => by cases t <;> simp [fits] at h; simp [fitsV, h]
  | .arr .., t, h => by cases t <;> simp [fits] at h; simp [fitsV, h]
  | .st vs, t, h => by
    cases t <;> simp [fits] at h
    simp only [fitsV]
    exact fitsVs_of_fitss vs _ h
  | .undef, t, h => by cases t <;> simp [fits] at h
  | .rsl .., t, h => by cases t <;> simp [fits] at h
  | .ptr .., t, h => by cases t <;> simp [fits] at h
  | .cptr .., t, h => by cases t <;> simp [fits] at h
  | .nilp, t, h => by cases t <;> simp [fits] at h
  | .fn .., t, h => by cases t <;> simp [fits] at h
  | .nilfn, t, h => by cases t <;> simp [fits] at h
  | .tup .., t, h => by cases t <;> simp [fits] at h
theorem fitsVs_of_fitss : ∀ (vs : List AV) (ts : List Ty), fitss vs ts = true → fitsVs vs ts = true
  | [], [], _ => rfl
  | [], _ :: _, h => by simp [fitss] at h
  | _ :: _, [], h => by simp [fitss] at h
  | v :: vs, t :: ts, h => by simp [fitss] at h; simp [fitsVs, fitsV_of_fits v t h.1, fitsVs_of_fitss vs ts h.2]
end

theorem RelV.val {v : AV} {u : Value} {T : Ty} (hf : fitsV v T = true) (h : RelV w S mu H v u) : Val T.isAgg u.cells.toList u ∧ RelA w S mu H v u.cells.toList := by
  have hc : RelA w S mu H v u.cells.toList := h.cells (by rintro rfl; cases T <;> simp [fitsV] at hf) (by rintro vs rfl; cases T <;> simp [fitsV] at hf)
  refine ⟨?_, hc⟩
  cases v <;> cases T <;> simp [fitsV] at hf <;> simp only [Val, Ty.isAgg, Bool.false_eq_true, if_false, if_true]
  · rw [h.int.1]; rfl
  · rw [h.bool]; rfl
  · rw [h.str.1]; rfl
  · obtain ⟨_, _, _, e, _⟩ := h.sl; rw [e]; rfl
  · obtain ⟨_, _, e, _⟩ := h.rsl; rw [e]; rfl
  · obtain ⟨_, e, _⟩ := h.st; rw [e]; simp [Value.cells]
  · obtain ⟨_, e, _⟩ := h.arr; rw [e]; simp [Value.cells]
  · obtain ⟨_, _, e, _⟩ := h.ptr; rw [e]; rfl
  · obtain ⟨_, _, e, _⟩ := h.cptr; rw [e]; rfl
  · rw [h.nilp]; rfl
  · obtain ⟨_, e, _⟩ := h.fn; rw [e]; rfl
  · simp only [RelV, RelA] at h; injection h with h; rw [h]; rfl

theorem run_part {t : TypeId} {T : Ty} (ht : tyOK P t T = true) {xs : Array Value} {pre cs post : List Value} {off : Nat} (hx : xs.toList = pre ++ (cs ++ post)) (hp : pre.length = off) (hc : cs.length = T.size) :
    ∃ u, (part t xs off).run P w = .ok u w ∧ Val T.isAgg cs u := by
  unfold part
  simp only [Sem.run_bind, tyOK_isAgg ht w, Result.andThen_ok]
  cases hT : T.isAgg with
  | true =>
    refine ⟨.agg cs.toArray, ?_, by simp [Val]⟩
    simp only [if_true, Sem.run_bind, tyOK_size ht w, Result.andThen_ok, Sem.run_pure]
    congr 2
    rw [← Array.toList_inj]
    simp [Array.toList_extract, hx, List.extract_eq_take_drop, hp]
    subst hp
    simp [← hc]
  | false =>
    have h1 : T.size = 1 := by cases T <;> simp [Ty.isAgg] at hT <;> simp [Ty.size]
    rw [h1] at hc
    match cs, hc with
    | [c], _ =>
      refine ⟨c, ?_, by simp [Val]⟩
      have : xs[off]? = some c := by
        rw [← Array.getElem?_toList, hx]
        subst hp
        simp
      simp [this]

/-! ### Equality -/
theorem bytes_beq (x y : ByteArray) : (x.toList == y.toList) = decide (x = y) := by
  rw [Bool.eq_iff_iff, ByteArray.toList_eq, ByteArray.toList_eq]
  simp
  constructor
  · intro h; cases x; cases y; simp at h; rw [h]
  · intro h; rw [h]

theorem eqD_head {t : TypeId} {n : Nat} {e : Ty} {te : TypeId} (h : P.underlying t = some (.array n te)) (he : tyOK P te e = true) : ∃ i, P.info? te = some i ∧ P.cellsOf te = e.size := by
  obtain ⟨d, hd, _⟩ := tyOK_und he
  obtain ⟨i, hi⟩ := info_of_underlying hd
  refine ⟨i, hi, ?_⟩
  have hs := tyOK_size he (default : World)
  rw [run_sizeOf _ hi] at hs
  injection hs

mutual
theorem run_eqD : ∀ (T : Ty) (t : TypeId) (d : Nat) (cx cy : List Value) (dx dy : D) (u v : Value), cmpOK T = true → tyOK P t T = true → eqOK P t T = true → deep T ≤ d →
    RelD w S T cx dx → RelD w S T cy dy → Val T.isAgg cx u → Val T.isAgg cy v → (Op.equalIn d t u v).run P w = .ok (eqD T dx dy) w
  | .int k, t, d, cx, cy, dx, dy, u, v, _, ht, _, hd, hx, hy, hu, hv => by
    obtain ⟨dd, h1, h2⟩ := tyOK_und ht
    simp only [Und] at h2
    subst h2
    obtain ⟨d, rfl⟩ : ∃ m, d = m + 1 := ⟨d - 1, by simp [deep] at hd; omega⟩
    simp only [RelD] at hx hy
    simp only [Val, Ty.isAgg, Bool.false_eq_true, if_false] at hu hv
    rw [hx.1] at hu; rw [hy.1] at hv
    injection hu with hu; injection hv with hv
    subst hu; subst hv
    rw [run_equalIn_int w d t k k _ _ h1]
    simp only [eqD]
    congr 1
  | .bool, t, d, cx, cy, dx, dy, u, v, _, ht, _, hd, hx, hy, hu, hv => by
    obtain ⟨dd, h1, h2⟩ := tyOK_und ht
    simp only [Und] at h2
    subst h2
    obtain ⟨d, rfl⟩ : ∃ m, d = m + 1 := ⟨d - 1, by simp [deep] at hd; omega⟩
    simp only [RelD] at hx hy
    simp only [Val, Ty.isAgg, Bool.false_eq_true, if_false] at hu hv
    rw [hx] at hu; rw [hy] at hv
    injection hu with hu; injection hv with hv
    subst hu; subst hv
    rw [run_equalIn_bool' w d t _ _ h1]
    simp only [eqD]
  | .str, t, d, cx, cy, dx, dy, u, v, _, ht, _, hd, hx, hy, hu, hv => by
    obtain ⟨dd, h1, h2⟩ := tyOK_und ht
    simp only [Und] at h2
    subst h2
    obtain ⟨d, rfl⟩ : ∃ m, d = m + 1 := ⟨d - 1, by simp [deep] at hd; omega⟩
    simp only [RelD] at hx hy
    simp only [Val, Ty.isAgg, Bool.false_eq_true, if_false] at hu hv
    rw [hx.1] at hu; rw [hy.1] at hv
    injection hu with hu; injection hv with hv
    subst hu; subst hv
    rw [run_equalIn_string w d t _ _ h1, bytes_beq]
    simp only [eqD]
  | .st ts, t, d, cx, cy, dx, dy, u, v, hc, ht, he, hd, hx, hy, hu, hv => by
    obtain ⟨dd, h1, fs, rfl, h2⟩ := tyOK_und ht
    obtain ⟨d, rfl⟩ : ∃ m, d = m + 1 := ⟨d - 1, by simp [deep] at hd; omega⟩
    simp only [Val, Ty.isAgg, if_true] at hu hv
    subst hu; subst hv
    simp only [eqOK, h1, Bool.and_eq_true, Bool.not_eq_true'] at he
    have hf : P.fieldsOf t = fs := by simp [Program.fieldsOf, h1]
    rw [run_equalIn_struct w d t _ _ (by rw [hf]; exact h1) he.1, hf]
    simp only [RelD] at hx hy
    simp only [eqD]
    exact run_eqDs ts fs.toList 0 0 d _ _ [] [] cx cy dx dy (by simpa [cmpOK] using hc) h2 he.2 (by simp [deep] at hd; omega) hx hy (by simp) (by simp) rfl rfl
  | .arr n e, t, d, cx, cy, dx, dy, u, v, hc, ht, he, hd, hx, hy, hu, hv => by
    obtain ⟨dd, h1, te, rfl, h2⟩ := tyOK_und ht
    obtain ⟨d, rfl⟩ : ∃ m, d = m + 1 := ⟨d - 1, by simp [deep] at hd; omega⟩
    simp only [Val, Ty.isAgg, if_true] at hu hv
    subst hu; subst hv
    simp only [eqOK, h1] at he
    obtain ⟨i, hi, hs⟩ := eqD_head h1 h2
    rw [run_equalIn_array w d _ _ h1 hi, hs]
    simp only [RelD] at hx hy
    simp only [eqD]
    rw [List.range_eq_range']
    have key : ∀ (m j : Nat) (px py cx' cy' : List Value) (lx ly : List D), lx.length = m → ly.length = m → RelL e.size (RelD w S e) cx' lx → RelL e.size (RelD w S e) cy' ly →
        cx = px ++ cx' → cy = py ++ cy' → px.length = j * e.size → py.length = j * e.size →
        (Op.eqItems d te e.size cx.toArray cy.toArray (List.range' j m)).run P w = .ok (eqDn (eqD e) m lx ly) w := by
      intro m
      induction m with
      | zero => intro j px py cx' cy' lx ly _ _ _ _ _ _ _ _; simp [Op.eqItems, eqDn]
      | succ m ih =>
        intro j px py cx' cy' lx ly hlx hly hrx hry ex ey hpx hpy
        match lx, hlx, hrx with
        | x :: lx, hlx, hrx =>
        match ly, hly, hry with
        | y :: ly, hly, hry =>
          obtain ⟨a1, a2, rfl, ha1, hax, hax2⟩ := hrx
          obtain ⟨b1, b2, rfl, hb1, hby, hby2⟩ := hry
          simp only [List.range'_succ, Op.eqItems, Sem.run_bind]
          obtain ⟨u1, p1, q1⟩ := run_part (w := w) h2 (xs := cx.toArray) (pre := px) (cs := a1) (post := a2) (off := j * e.size) (by simp [ex]) hpx ha1
          obtain ⟨u2, p2, q2⟩ := run_part (w := w) h2 (xs := cy.toArray) (pre := py) (cs := b1) (post := b2) (off := j * e.size) (by simp [ey]) hpy hb1
          rw [p1, Result.andThen_ok, p2, Result.andThen_ok, run_eqD e te d a1 b1 x y u1 u2 (by simpa [cmpOK] using hc) h2 he (by simp [deep] at hd; omega) hax hby q1 q2, Result.andThen_ok]
          simp only [eqDn, List.headD_cons, List.tail_cons]
          cases eqD e x y with
          | false => simp
          | true =>
            simp only [Bool.not_true, Bool.false_eq_true, if_false, Bool.true_and]
            exact ih (j + 1) (px ++ a1) (py ++ b1) a2 b2 lx ly (by simpa using hlx) (by simpa using hly) hax2 hby2 (by simp [ex]) (by simp [ey]) (by simp [hpx, ha1, Nat.add_mul]) (by simp [hpy, hb1, Nat.add_mul])
    exact key n 0 [] [] cx cy dx.fs dy.fs hx.1 hy.1 hx.2 hy.2 rfl rfl (by simp) (by simp)
  | .sl e, _, _, _, _, _, _, _, _, hc, _, _, _, _, _, _, _ => by simp [cmpOK] at hc
  | .ptr, _, _, _, _, _, _, _, _, hc, _, _, _, _, _, _, _ => by simp [cmpOK] at hc
  | .fn, _, _, _, _, _, _, _, _, hc, _, _, _, _, _, _, _ => by simp [cmpOK] at hc
  | .op, _, _, _, _, _, _, _, _, hc, _, _, _, _, _, _, _ => by simp [cmpOK] at hc
theorem run_eqDs : ∀ (ts : List Ty) (fs : List Field) (i off d : Nat) (xs ys : Array Value) (px py cx cy : List Value) (dx dy : D), cmpOKs ts = true → tyOKs P fs ts off = true → eqOKs P fs ts = true → deep.deeps ts ≤ d →
    RelDs w S ts i cx dx → RelDs w S ts i cy dy → xs.toList = px ++ cx → ys.toList = py ++ cy → px.length = off → py.length = off → (Op.eqFields d xs ys fs).run P w = .ok (eqDs ts i dx dy) w
  | [], [], i, off, d, xs, ys, px, py, cx, cy, dx, dy, _, _, _, _, _, _, _, _, _, _ => by simp [Op.eqFields, eqDs]
  | [], _ :: _, _, _, _, _, _, _, _, _, _, _, _, _, ht, _, _, _, _, _, _, _, _ => by simp [tyOKs] at ht
  | _ :: _, [], _, _, _, _, _, _, _, _, _, _, _, _, ht, _, _, _, _, _, _, _, _ => by simp [tyOKs] at ht
  | t :: ts, f :: fs, i, off, d, xs, ys, px, py, cx, cy, dx, dy, hc, ht, he, hd, hx, hy, ex, ey, hpx, hpy => by
    simp [tyOKs] at ht
    obtain ⟨⟨⟨h1, h2⟩, h3⟩, h4⟩ := ht
    simp [cmpOKs] at hc
    simp [eqOKs] at he
    simp only [deep.deeps] at hd
    simp only [RelDs] at hx hy
    obtain ⟨a1, a2, rfl, hax, hax2⟩ := hx
    obtain ⟨b1, b2, rfl, hby, hby2⟩ := hy
    obtain ⟨u1, p1, q1⟩ := run_part (w := w) h3 (xs := xs) (pre := px) (cs := a1) (post := a2) (off := off) ex hpx hax.length
    obtain ⟨u2, p2, q2⟩ := run_part (w := w) h3 (xs := ys) (pre := py) (cs := b1) (post := b2) (off := off) ey hpy hby.length
    simp only [Op.eqFields, ne_eq, h2, not_false_eq_true, if_true, Sem.run_bind, h1]
    rw [p1, Result.andThen_ok, p2, Result.andThen_ok, run_eqD t f.type d a1 b1 _ _ u1 u2 hc.1 h3 he.1 (Nat.le_trans (Nat.le_max_left (deep t) (deep.deeps ts)) hd) hax hby q1 q2, Result.andThen_ok]
    simp only [eqDs]
    cases eqD t (dx.fld i) (dy.fld i) with
    | false => simp
    | true =>
      simp only [Bool.not_true, Bool.false_eq_true, if_false, Bool.true_and]
      exact run_eqDs ts fs (i + 1) (off + t.size) d xs ys (px ++ a1) (py ++ b1) a2 b2 dx dy hc.2 h4 he.2 (Nat.le_trans (Nat.le_max_right (deep t) (deep.deeps ts)) hd) hax2 hby2 (by simp [ex]) (by simp [ey]) (by simp [hpx, hax.length]) (by simp [hpy, hby.length])
end

mutual
theorem eqA_toD : ∀ (t : Ty) (x y : AV), fits x t = true → fits y t = true → cmpOK t = true → eqA t x y = eqD t (toD x) (toD y)
  | .int k, x, y, hx, hy, _ => by cases x <;> simp [fits] at hx; cases y <;> simp [fits] at hy; simp [eqA, eqD, toD, D.int] <;> congr
  | .bool, x, y, hx, hy, _ => by cases x <;> simp [fits] at hx; cases y <;> simp [fits] at hy; simp [eqA, eqD, toD, D.bool]
  | .str, x, y, hx, hy, _ => by cases x <;> simp [fits] at hx; cases y <;> simp [fits] at hy; simp [eqA, eqD, toD, D.str] <;> congr
  | .arr n e, x, y, hx, hy, _ => by cases x <;> simp [fits] at hx; cases y <;> simp [fits] at hy; simp [eqA, eqD, toD, D.fs]
  | .st ts, x, y, hx, hy, hc => by
    cases x <;> simp [fits] at hx
    cases y <;> simp [fits] at hy
    simp only [eqA, eqD]
    exact eqAs_toD ts _ _ 0 _ _ hx hy (by simpa [cmpOK] using hc) (fun j v hj => by simp only [toD, D.fld, D.fs, Nat.zero_add]; exact toDs_get _ j v hj) (fun j v hj => by simp only [toD, D.fld, D.fs, Nat.zero_add]; exact toDs_get _ j v hj)
  | .sl _, _, _, _, _, hc => by simp [cmpOK] at hc
  | .ptr, _, _, _, _, hc => by simp [cmpOK] at hc
  | .fn, _, _, _, _, hc => by simp [cmpOK] at hc
  | .op, _, _, _, _, hc => by simp [cmpOK] at hc
theorem eqAs_toD : ∀ (ts : List Ty) (xs ys : List AV) (i : Nat) (dx dy : D), fitss xs ts = true → fitss ys ts = true → cmpOKs ts = true → (∀ (j : Nat) (v : AV), xs[j]? = some v → dx.fld (i + j) = toD v) → (∀ (j : Nat) (v : AV), ys[j]? = some v → dy.fld (i + j) = toD v) →
    eqAs ts xs ys = eqDs ts i dx dy
  | [], [], [], _, _, _, _, _, _, _, _ => by simp [eqAs, eqDs]
  | [], _ :: _, _, _, _, _, hx, _, _, _, _ => by simp [fitss] at hx
  | [], [], _ :: _, _, _, _, _, hy, _, _, _ => by simp [fitss] at hy
  | _ :: _, [], _, _, _, _, hx, _, _, _, _ => by simp [fitss] at hx
  | _ :: _, _ :: _, [], _, _, _, _, hy, _, _, _ => by simp [fitss] at hy
  | t :: ts, x :: xs, y :: ys, i, dx, dy, hx, hy, hc, gx, gy => by
    simp [fitss] at hx hy
    simp [cmpOKs] at hc
    simp only [eqAs, eqDs]
    have g1 := gx 0 x rfl
    have g2 := gy 0 y rfl
    rw [Nat.add_zero] at g1 g2
    rw [g1, g2, eqA_toD t x y hx.1 hy.1 hc.1, eqAs_toD ts xs ys (i + 1) dx dy hx.2 hy.2 hc.2 (fun j v hj => by rw [show i + 1 + j = i + (j + 1) by omega]; exact gx (j + 1) v (by simpa using hj)) (fun j v hj => by rw [show i + 1 + j = i + (j + 1) by omega]; exact gy (j + 1) v (by simpa using hj))]
end

theorem fits_flat {v : AV} {T : Ty} (hf : fits v T = true) (h : T.isAgg = false) : (∃ k n, v = .int k n) ∨ (∃ b, v = .bool b) ∨ (∃ s, v = .str s) ∨ ∃ e xs t, v = .sl e xs t := by
  cases v <;> cases T <;> simp [fits] at hf <;> simp [Ty.isAgg] at h <;> simp

theorem vs_eqT (hE : RelE w S mu H env a) {o : Oper} {x y : Ar} {T : Ty} {neg : Bool} {av : AV} (hm : vOK P o.op (.eqT T neg x y) = true) (hv : VGives (.eqT T neg x y) env av) : Gives P w S mu H o a av := by
  cases ho : o.op <;> simp [ho, vOK] at hm
  rename_i op t X Y yt
  have hm' : ((op = .eql ∧ neg = false) ∨ (op = .neq ∧ neg = true)) ∧ tyOK P t T = true ∧ eqOK P t T = true ∧ P.eqGuardType P.depth t = false ∧ deep T ≤ 9999 ∧ arOK X x = true ∧ arOK Y y = true := by
    cases op <;> simp [vOK] at hm ⊢ <;> (obtain ⟨⟨⟨⟨⟨⟨h1, h2⟩, h3⟩, h4⟩, h5⟩, h6⟩, h7⟩ := hm; exact ⟨h1, h2, h3, h4, h5, h6, h7⟩)
  obtain ⟨hop, ht, he, hg, hd, h1, h2⟩ := hm'
  have r1 := arOK_rel hE h1
  have r2 := arOK_rel hE h2
  by_cases hc : (cmpOK T && fits (x.ev env) T && fits (y.ev env) T) = true
  · have hvop : vop (.eqT T neg x y) env = .ok (.bool (cond neg (!eqA T (x.ev env) (y.ev env)) (eqA T (x.ev env) (y.ev env)))) := by
      simp only [vop, frc_eq, hc, cond_true]
      cases neg <;> rfl
    have e := hv.ok hvop
    simp at hc
    obtain ⟨⟨c1, c2⟩, c3⟩ := hc
    obtain ⟨v1, g1⟩ := r1.val (fitsV_of_fits _ _ c2)
    obtain ⟨v2, g2⟩ := r2.val (fitsV_of_fits _ _ c3)
    have hrun := run_eqD T t 10000 _ _ _ _ (a.eval X) (a.eval Y) c1 ht he (by omega) (toD_rel _ _ _ c2 g1) (toD_rel _ _ _ c3 g2) v1 v2
    rw [← eqA_toD T _ _ c2 c3 c1] at hrun
    have hguard : (eqGuard op t X Y (a.eval X) (a.eval Y)).run P w = .ok () w := by
      cases hT : T.isAgg with
      | true =>
        simp only [Val, hT, if_true] at v1 v2
        rw [v1, v2]
        exact run_eqGuard_agg w op t X Y _ _ hg
      | false =>
        rcases fits_flat c2 hT with ⟨k, n, e'⟩ | ⟨b, e'⟩ | ⟨s, e'⟩ | ⟨f, l, tk, e'⟩ <;> rw [e'] at r1
        · rw [r1.int.1]; exact run_guard_num _ _ _ _ _ _ (by simp) (by simp)
        · rw [r1.bool]; exact run_guard_num _ _ _ _ _ _ (by simp) (by simp)
        · rw [r1.str.1]; exact run_guard_num _ _ _ _ _ _ (by simp) (by simp)
        · obtain ⟨_, _, _, e'', _⟩ := r1.sl; rw [e'']; exact run_guard_num _ _ _ _ _ _ (by simp) (by simp)
    have hbin : (binOp op t (a.eval X) (a.eval Y)).run P w = .ok (.bool (cond neg (!eqA T (x.ev env) (y.ev env)) (eqA T (x.ev env) (y.ev env)))) w := by
      cases hT : T.isAgg with
      | true =>
        simp only [Val, hT, if_true] at v1 v2
        rw [v1, v2] at hrun ⊢
        rcases hop with ⟨rfl, rfl⟩ | ⟨rfl, rfl⟩
        · rw [run_eql_struct, hrun]; rfl
        · rw [run_neq_struct, hrun]; rfl
      | false =>
        have hT' := hT
        rcases fits_flat c2 hT with ⟨k, n, e'⟩ | ⟨b, e'⟩ | ⟨s, e'⟩ | ⟨f, l, tk, e'⟩ <;> rcases fits_flat c3 hT' with ⟨k2, n2, f'⟩ | ⟨b2, f'⟩ | ⟨s2, f'⟩ | ⟨f2, l2, tk2, f'⟩ <;> rw [e'] at c2 r1 <;> rw [f'] at c3 r2 <;> cases T <;> simp [fits] at c2 c3 <;> simp [cmpOK] at c1
        · subst c2; subst c3
          rw [e', f', r1.int.1, r2.int.1]
          rcases hop with ⟨rfl, rfl⟩ | ⟨rfl, rfl⟩ <;> simp [binOp, Op.intCmp, eqA]
          · rw [Bool.eq_iff_iff]; simp
          · rw [Bool.eq_iff_iff]; simp
        · rw [e', f', r1.bool, r2.bool]
          rw [r1.bool, r2.bool, e', f'] at hrun
          rcases hop with ⟨rfl, rfl⟩ | ⟨rfl, rfl⟩ <;> simp [binOp, Op.equal, Op.maxDepth, hrun]
        · rw [e', f', r1.str.1, r2.str.1]
          rcases hop with ⟨rfl, rfl⟩ | ⟨rfl, rfl⟩ <;> simp [binOp, Op.stringOp, eqA, bytes_beq]
    subst e
    exact gives_mk (v := .bool _) (by simp [execOp, ho, hguard, hbin]) (relv_bool _)
  · refine (hv.bad ?_).elim
    simp only [vop, frc_eq]
    cases hcc : (cmpOK T && fits (x.ev env) T && fits (y.ev env) T) with
    | true => exact absurd hcc hc
    | false => rfl
end
end Go.Vc
