/- Part F: slicing, arrays out of slices, elements of array values, struct and array literals. -/
import Derived.Test.YtiddoflcajgjjaaVcOpE
set_option linter.unusedVariables false
set_option linter.unusedSimpArgs false
namespace Go.Vc
section
variable {P : Program} {w : World} {S : Nat → Nat → Prop} {mu : Mu} {H : Heap} {env : Env} {a : Act}

/-! ### Bounds -/
def IsI (o : Option Value) (d n : Int) : Prop := match o with
  | none => n = d
  | some v => ∃ k, v = .int k n

theorem optI_rel (hE : RelE w S mu H env a) {X : Option Operand} {x : Option Ar} (h : optOK X x = true) {d n : Int} (hn : optI x env d = some n) : IsI (X.map a.eval) d n := by
  cases X <;> cases x <;> simp [optOK] at h
  · simp only [optI, Option.some.injEq] at hn; exact hn.symm
  · rename_i X x
    have r := arOK_rel hE h
    simp only [optI] at hn
    split at hn
    · rename_i k m hx
      injection hn with hn
      subst hn
      rw [hx] at r
      exact ⟨k, r.int.1⟩
    · cases hn

theorem run_bounds2 (isS : Bool) (len cap : Nat) {lo hi : Option Value} {l h : Int} (hl : IsI lo 0 l) (hh : IsI hi len h) (c0 : 0 ≤ l) (c1 : l ≤ h) (c2 : h ≤ cap) :
    (Instr.sliceBounds isS len cap lo hi none).run P w = .ok (l.toNat, h.toNat, cap) w := by
  unfold Instr.sliceBounds
  have eh : (h.toNat : Int) = h := Int.toNat_of_nonneg (by omega)
  cases hi with
  | none =>
    simp only [IsI] at hh
    subst hh
    cases lo with
    | none =>
      simp only [IsI] at hl
      subst hl
      simp
    | some v =>
      obtain ⟨k, rfl⟩ := hl
      simp only [Sem.run_bind, Sem.run_pure, Result.andThen_ok, run_sliceBound (P := P) w k l len _ c0 (by omega)]
      simp
  | some v =>
    obtain ⟨k, rfl⟩ := hh
    cases lo with
    | none =>
      simp only [IsI] at hl
      subst hl
      simp only [Sem.run_bind, Sem.run_pure, Result.andThen_ok, run_sliceBound (P := P) w k h cap _ (by omega) (by omega)]
      simp
    | some v =>
      obtain ⟨k', rfl⟩ := hl
      simp only [Sem.run_bind, Sem.run_pure, Result.andThen_ok, run_sliceBound (P := P) w k h cap _ (by omega) (by omega), run_sliceBound (P := P) w k' l h.toNat _ c0 (by omega)]

theorem run_bounds3 (isS : Bool) (len cap : Nat) {lo hi : Option Value} {l h m : Int} {km : IntKind} (hl : IsI lo 0 l) (hh : IsI hi len h) (hhi : hi.isSome = true) (c0 : 0 ≤ l) (c1 : l ≤ h) (c2 : h ≤ m) (c3 : m ≤ cap) :
    (Instr.sliceBounds isS len cap lo hi (some (.int km m))).run P w = .ok (l.toNat, h.toNat, m.toNat) w := by
  unfold Instr.sliceBounds
  cases hi with
  | none => cases hhi
  | some v =>
    obtain ⟨k, rfl⟩ := hh
    cases lo with
    | none =>
      simp only [IsI] at hl
      subst hl
      simp only [Sem.run_bind, Sem.run_pure, Result.andThen_ok, run_sliceBound (P := P) w km m cap _ (by omega) (by omega), run_sliceBound (P := P) w k h m.toNat _ (by omega) (by omega)]
      simp
    | some v =>
      obtain ⟨k', rfl⟩ := hl
      simp only [Sem.run_bind, Sem.run_pure, Result.andThen_ok, run_sliceBound (P := P) w km m cap _ (by omega) (by omega), run_sliceBound (P := P) w k h m.toNat _ (by omega) (by omega), run_sliceBound (P := P) w k' l h.toNat _ c0 (by omega)]

/-- A slice, cut. -/
theorem RelS_cut {sz : Nat} {R : List Value → D → Prop} {ad : Option Addr} {n c : Nat} {xs : List D} (h : RelS w S sz R ad n c xs) {l k m : Nat} (h1 : l ≤ k) (h2 : k ≤ n) (h3 : k ≤ m) (h4 : m ≤ c) :
    RelS w S sz R (if m = l then ad else ad.map (·.add (l * sz))) (k - l) (m - l) ((xs.drop l).take (k - l)) := by
  obtain ⟨e1, e2, e3, e4⟩ := h
  refine ⟨by simp; omega, by omega, by omega, fun j x hj => ?_⟩
  have hjl : j < k - l := by
    rcases Nat.lt_or_ge j (k - l) with hh | hh
    · exact hh
    · rw [List.getElem?_eq_none (by simp; omega)] at hj; cases hj
  rw [List.getElem?_take_of_lt hjl, List.getElem?_drop] at hj
  obtain ⟨b, o, cs, rfl, g1, g2, g3⟩ := e4 (l + j) x hj
  rw [if_neg (by omega)]
  refine ⟨b, o + l * sz, cs, by simp [addr_add], ?_, g2, g3⟩
  rwa [show o + l * sz + j * sz = o + (l + j) * sz by rw [Nat.add_mul]; omega]

theorem run_slice_sl {t te : TypeId} {e : Ty} (hu : P.underlying t = some (.slice te)) (he : tyOK P te e = true) {ad : Option Addr} {n c : Nat} {lo hi mx : Option Value} {l h m : Nat}
    (hb : (Instr.sliceBounds true n c lo hi mx).run P w = .ok (l, h, m) w) :
    (Instr.sliceAt t (.slice ad n c) lo hi mx).run P w = .ok (.slice (if m = l then ad else ad.map (·.add (l * e.size))) (h - l) (m - l)) w := by
  simp only [Instr.sliceAt, Sem.run_bind, run_underlying hu, Result.andThen_ok, Instr.slice, hb, tyOK_size he w, Sem.run_pure]

theorem optOK_some {X : Option Operand} {x : Option Ar} (h : optOK X x = true) : X.isSome = x.isSome := by
  cases X <;> cases x <;> simp [optOK] at h <;> rfl

theorem vs_sliceS (hE : RelE w S mu H env a) {o : Oper} {x : Ar} {lo hi : Option Ar} {av : AV} (hm : vOK P o.op (.sliceS x lo hi) = true) (hv : VGives (.sliceS x lo hi) env av) : Gives P w S mu H o a av := by
  cases ho : o.op <;> simp [ho, vOK] at hm
  rename_i t X Lo Hi Mx
  obtain ⟨⟨⟨⟨h1, h2⟩, h3⟩, h4⟩, ht⟩ := hm
  subst h4
  have r1 := arOK_rel hE h1
  have hd : P.underlying t = some .string := by
    split at ht
    · assumption
    · cases ht
  cases hx : x.ev env <;> first | (refine (hv.bad ?_).elim; simp [vop, hx]; done) | skip
  rename_i s
  rw [hx] at r1
  cases hl : optI lo env 0 with
  | none => exact (hv.bad (by simp [vop, hx, hl])).elim
  | some l =>
  cases hh : optI hi env s.size with
  | none => exact (hv.bad (by simp [vop, hx, hl, hh])).elim
  | some h =>
  obtain ⟨e1, c0, c1, c2⟩ := hv.iff (by simp only [vop, hx, hl, hh] <;> rfl)
  subst e1
  have il := optI_rel hE h2 hl
  have ih := optI_rel hE h3 hh
  have hb := run_bounds2 (P := P) (w := w) false s.size s.size il ih c0 c1 (by omega)
  refine gives_mk (v := .string (s.extract l.toNat h.toNat)) ?_ (relv_str (by have := r1.str.2; simp; omega))
  simp [execOp, ho, r1.str.1, Instr.sliceAt, run_underlying hd, Instr.slice, hb]

theorem vs_slc (hE : RelE w S mu H env a) {o : Oper} {T : Ty} {x hi : Ar} {av : AV} (hm : vOK P o.op (.slc T x hi) = true) (hv : VGives (.slc T x hi) env av) : Gives P w S mu H o a av := by
  cases ho : o.op <;> simp only [ho, vOK] at hm <;> first | (cases hm; done) | skip
  rename_i t X Lo Hi Mx
  cases Lo with
  | some _ => simp [vOK] at hm
  | none =>
  cases Hi with
  | none => simp [vOK] at hm
  | some Hi =>
  cases Mx with
  | some _ => simp [vOK] at hm
  | none =>
  simp only [vOK, Bool.and_eq_true] at hm
  obtain ⟨⟨h1, h2⟩, ht⟩ := hm
  have r1 := arOK_rel hE h1
  have r2 := arOK_rel hE h2
  obtain ⟨d, hd, te, rfl, he⟩ := tyOK_und ht
  cases hx : x.ev env <;> first | (refine (hv.bad ?_).elim; simp [vop, hx]; done) | skip
  rename_i u xs tk
  cases xs with
  | cons _ _ => exact (hv.bad (by simp [vop, hx])).elim
  | nil =>
  cases tk with
  | no => exact (hv.bad (by simp [vop, hx])).elim
  | own _ => exact (hv.bad (by simp [vop, hx])).elim
  | full =>
  cases hh : hi.ev env <;> first | (refine (hv.bad ?_).elim; simp [vop, hx, hh]; done) | skip
  rename_i k h
  rw [hx] at r1
  obtain ⟨ad, n, c, e1, hrs, htk⟩ := r1.sl
  have hs := bad_of hv (by simp only [vop, hx, hh] <;> rfl)
  have := Ty.same_eq _ _ hs
  subst this
  obtain ⟨e2, c0⟩ := hv.iff (by simp only [vop, hx, hh, hs] <;> rfl)
  subst e2
  subst c0
  have hn := hrs.1
  simp at hn
  subst hn
  simp only [RelT] at htk
  subst htk
  have il : IsI ((none : Option Operand).map a.eval) 0 0 := rfl
  have ih : IsI ((some Hi).map a.eval) ((0 : Nat) : Int) 0 := optI_rel (x := some hi) hE (by simpa [optOK] using h2) (by simp [optI, hh])
  have hb := run_bounds2 (P := P) (w := w) true 0 0 il ih (by omega) (by omega) (by omega)
  have hb' : (Instr.sliceBounds true 0 0 none (some (a.eval Hi)) none).run P w = .ok (0, 0, 0) w := hb
  have hr := run_slice_sl hd he (ad := ad) hb'
  simp only [if_true, Nat.sub_self] at hr
  refine gives_mk (v := .slice ad 0 0) (by simp [execOp, ho, e1, hr]) ?_
  simp only [RelV, RelA]
  exact ⟨ad, 0, 0, rfl, ⟨rfl, Nat.le_refl _, by simp [maxLen], fun j x hj => by simp at hj⟩, rfl⟩

theorem vs_slice (hE : RelE w S mu H env a) {o : Oper} {T : Ty} {x : Ar} {lo hi mx : Option Ar} {av : AV} (hm : vOK P o.op (.slice T x lo hi mx) = true) (hv : VGives (.slice T x lo hi mx) env av) : Gives P w S mu H o a av := by
  cases ho : o.op <;> simp [ho, vOK] at hm
  rename_i t X Lo Hi Mx
  obtain ⟨⟨⟨⟨h1, h2⟩, h3⟩, h4⟩, ht⟩ := hm
  have r1 := arOK_rel hE h1
  obtain ⟨d, hd, te, rfl, he⟩ := tyOK_und ht
  cases hx : x.ev env <;> first | (refine (hv.bad ?_).elim; simp [vop, hx]; done) | skip
  · -- a tree
    rename_i u xs tk
    rw [hx] at r1
    obtain ⟨ad, n, c, e1, hrs, htk⟩ := r1.sl
    have hs := bad_of hv (by simp only [vop, hx] <;> rfl)
    have := Ty.same_eq _ _ hs
    subst this
    cases hl : optI lo env 0 with
    | none => exact (hv.bad (by simp [vop, hx, hs, hl])).elim
    | some l =>
    cases hh : optI hi env xs.length with
    | none => exact (hv.bad (by simp [vop, hx, hs, hl, hh])).elim
    | some h =>
    have il := optI_rel hE h2 hl
    have ih := optI_rel hE h3 hh
    have hn := hrs.1
    have hnc := hrs.2.1
    rw [hn] at ih
    have htree : ∀ (m : Nat) (tk' : Tok), 0 ≤ l → l ≤ h → h.toNat ≤ n → h.toNat ≤ m → m ≤ c → (tk' = .no ∨ tk' = .full ∧ m - l.toNat = h.toNat - l.toNat) → (Instr.sliceBounds true n c (Lo.map a.eval) (Hi.map a.eval) (Mx.map a.eval)).run P w = .ok (l.toNat, h.toNat, m) w →
        Gives P w S mu H o a (.sl u ((xs.drop l.toNat).take (h.toNat - l.toNat)) tk') := by
      intro m tk' k0 k1 k2 k3 k4 ktk hb
      refine gives_mk (v := .slice (if m = l.toNat then ad else ad.map (·.add (l.toNat * u.size))) (h.toNat - l.toNat) (m - l.toNat)) (by simp [execOp, ho, e1, run_slice_sl hd he hb]) ?_
      simp only [RelV, RelA]
      refine ⟨_, _, _, rfl, RelS_cut hrs (by omega) k2 k3 k4, ?_⟩
      rcases ktk with rfl | ⟨rfl, hk⟩
      · trivial
      · exact hk
    cases mx with
    | some m =>
      cases hi with
      | none => exact (hv.bad (by simp [vop, hx, hs, hl, hh])).elim
      | some hi =>
      cases hmv : m.ev env <;> first | (refine (hv.bad ?_).elim; simp [vop, hx, hs, hl, hh, hmv]; done) | skip
      rename_i km mi
      obtain ⟨e2, ⟨c0, c1, c2⟩, c3, c4⟩ := hv.iff (by simp only [vop, hx, hs, hl, hh, hmv, cond_true] <;> rfl)
      subst e2
      subst c4
      have hMx : ∃ M, Mx = some M ∧ a.eval M = .int km h := by
        cases Mx with
        | none => simp [optOK] at h4
        | some M =>
          have r := arOK_rel hE (by simpa [optOK] using h4)
          rw [hmv] at r
          exact ⟨M, rfl, r.int.1⟩
      obtain ⟨M, rfl, hM⟩ := hMx
      have hHi : (Hi.map a.eval).isSome = true := by
        cases Hi with
        | none => simp [optOK] at h3
        | some _ => rfl
      exact htree h.toNat .full c0 c1 (by omega) (by omega) (by omega) (.inr ⟨rfl, rfl⟩) (by
        simp only [Option.map_some, hM]
        exact run_bounds3 true n c il ih hHi c0 c1 (by omega) (by omega))
    | none =>
      have hMx : Mx = none := by cases Mx <;> simp [optOK] at h4; rfl
      subst hMx
      by_cases hfull : tk = .full ∧ hi = none
      · obtain ⟨rfl, rfl⟩ := hfull
        obtain ⟨e2, c0, c1⟩ := hv.iff (by simp only [vop, hx, hs, hl, hh, cond_true] <;> rfl)
        subst e2
        have hH : Hi = none := by cases Hi <;> simp [optOK] at h3; rfl
        subst hH
        simp only [optI, Option.some.injEq] at hh
        subst hh
        have := htree c .full c0 c1 (by omega) (by omega) (Nat.le_refl _) (.inr ⟨rfl, by have : c = n := htk; omega⟩) (by
          have := run_bounds2 (P := P) (w := w) true n c il ih c0 (by omega) (by omega)
          simpa using this)
        rwa [List.take_of_length_le (by simp)] at this
      · have hvop : vop (.slice u x lo hi none) env = .iff (cutOK l h xs.length) (.sl u ((xs.drop l.toNat).take (h.toNat - l.toNat)) .no) := by
          simp only [vop, hx, hs, hl, hh, cond_true]
          cases tk <;> cases hi <;> simp at hfull ⊢
        obtain ⟨e2, c0, c1, c2⟩ := hv.iff hvop
        subst e2
        exact htree c .no c0 c1 (by omega) (by omega) (Nat.le_refl _) (.inl rfl) (by
          have := run_bounds2 (P := P) (w := w) true n c il ih c0 (by omega) (by omega)
          simpa using this)
  · -- a row of the heap's
    rename_i id u off len
    rw [hx] at r1
    obtain ⟨ad, c, e1, r2⟩ := r1.rsl
    simp only [RelA] at r2
    obtain ⟨_, _, e3, g1, g2, g3, blk, hb, hu, hbk⟩ := r2
    injection e3 with e3
    injection e3 with e3 _ e4
    subst e3; subst e4
    have hs := bad_of hv (by simp only [vop, hx] <;> rfl)
    have := Ty.same_eq _ _ hs
    subst this
    cases hl : optI lo env 0 with
    | none => exact (hv.bad (by simp [vop, hx, hs, hl])).elim
    | some l =>
    cases hh : optI hi env len with
    | none => exact (hv.bad (by simp [vop, hx, hs, hl, hh])).elim
    | some h =>
    have il := optI_rel hE h2 hl
    have ih := optI_rel hE h3 hh
    cases mx with
    | some m => exact (hv.bad (by simp [vop, hx, hs, hl, hh])).elim
    | none =>
    have hMx : Mx = none := by cases Mx <;> simp [optOK] at h4; rfl
    subst hMx
    obtain ⟨e2, c0, c1, c2⟩ := hv.iff (by simp only [vop, hx, hs, hl, hh, cond_true] <;> rfl)
    subst e2
    have hbd := run_bounds2 (P := P) (w := w) true len c il ih c0 c1 (by omega)
    refine gives_mk (v := .slice (if c = l.toNat then ad else ad.map (·.add (l.toNat * u.size))) (h.toNat - l.toNat) (c - l.toNat)) (by simp [execOp, ho, e1, run_slice_sl hd he hbd]) ?_
    simp only [RelV, RelA]
    refine ⟨_, _, rfl, by omega, by omega, fun hlt => ?_, blk, hb, hu, ?_, ?_⟩
    · obtain ⟨b, o', rfl⟩ := g3 (by omega)
      rw [if_neg (by omega)]
      exact ⟨b, _, by simp [addr_add]; rfl⟩
    · rintro e xs fz rfl
      obtain ⟨q1, q2, b, q3, q4, cells, ty, fr, q5, q6⟩ := hbk.1 e xs fz rfl
      subst q1
      refine ⟨rfl, by omega, b, q3, ?_, cells, ty, fr, q5, ?_⟩
      · rcases q4 with q4 | q4
        · left; omega
        · by_cases hc : c = l.toNat
          · left; omega
          · right
            rw [if_neg hc, q4]
            simp [addr_add, Nat.add_mul]
      · rwa [show off + l.toNat + (c - l.toNat) = off + c by omega]
    · rintro e xs rfl
      obtain ⟨q1, q2⟩ := hbk.2 e xs rfl
      clear hbk g3
      subst q1
      refine ⟨rfl, fun h0 => ?_⟩
      have hoff : off = 0 := by clear q2; omega
      have hl0 : l.toNat = 0 := by clear q2; omega
      obtain ⟨q3, q4⟩ := q2 hoff
      refine ⟨by clear q4 q2; omega, fun hl => ?_⟩
      have hlx : len = xs.length := by clear q4 q2; omega
      rcases q4 hlx with q5 | ⟨b, k1, k2, cells, ty, fr, k3, k4⟩
      · left; clear q4 q2; omega
      · clear q4 q2
        by_cases hc : c = l.toNat
        · left; omega
        · right
          refine ⟨b, k1, ?_, cells, ty, fr, k3, Nat.le_trans (Nat.mul_le_mul_right _ (Nat.sub_le _ _)) k4⟩
          rw [if_neg hc, k2, hl0]
          simp [addr_add]

theorem run_slice_ar {t te : TypeId} {e : Ty} {n : Nat} (hu : P.underlying t = some (.array n te)) (he : tyOK P te e = true) {ad : Addr} {lo hi : Option Value} {l h m : Nat}
    (hb : (Instr.sliceBounds false n n lo hi none).run P w = .ok (l, h, m) w) :
    (Instr.sliceAt t (.pointer (some ad)) lo hi none).run P w = .ok (.slice (some (if m = l then ad else ad.add (l * e.size))) (h - l) (m - l)) w := by
  simp only [Instr.sliceAt, Sem.run_bind, run_underlying hu, Result.andThen_ok, Instr.sureAddr, Sem.run_pure, hb, tyOK_size he w]

/-- An array in memory, as a slice's elements. -/
theorem RelL_slice {sz : Nat} {R : List Value → D → Prop} {b o : Nat} {cells : List Value} {xs : List D} (hl : Lies w S b o cells) (hr : RelL sz R cells xs) (hm : xs.length ≤ maxLen) : RelS w S sz R (some ⟨b, o, none⟩) xs.length xs.length xs :=
  ⟨rfl, Nat.le_refl _, hm, fun j x hj => by
    obtain ⟨pre, c, post, rfl, q1, q2, q3⟩ := RelL_get hr hj
    exact ⟨b, o, c, rfl, by rw [← q1]; exact hl.mid, q2, q3⟩⟩

theorem vs_sliceA (hE : RelE w S mu H env a) {o : Oper} {n : Nat} {T : Ty} {x : Ar} {lo hi : Option Ar} {av : AV} (hm : vOK P o.op (.sliceA n T x lo hi) = true) (hv : VGives (.sliceA n T x lo hi) env av) : Gives P w S mu H o a av := by
  cases ho : o.op <;> simp [ho, vOK] at hm
  rename_i t X Lo Hi Mx
  obtain ⟨⟨⟨⟨⟨h1, h2⟩, h3⟩, h4⟩, ht⟩, hmax⟩ := hm
  subst h4
  have r1 := arOK_rel hE h1
  obtain ⟨d, hd, te, rfl, he⟩ := tyOK_und ht
  cases hx : x.ev env <;> first | (refine (hv.bad ?_).elim; simp [vop, hx]; done) | skip
  rename_i u d
  rw [hx] at r1
  have hs := bad_of hv (by simp only [vop, hx] <;> rfl)
  have := Ty.same_eq _ _ hs
  subst this
  cases hl : optI lo env 0 with
  | none => exact (hv.bad (by simp [vop, hx, hs, hl])).elim
  | some l =>
  cases hh : optI hi env n with
  | none => exact (hv.bad (by simp [vop, hx, hs, hl, hh])).elim
  | some h =>
  obtain ⟨e2, c0, c1, c2⟩ := hv.iff (by simp only [vop, hx, hs, hl, hh, cond_true] <;> rfl)
  subst e2
  have il := optI_rel hE h2 hl
  have ih := optI_rel hE h3 hh
  obtain ⟨b, o', e1, cells, hli, hr⟩ := r1.cptr
  simp only [RelD] at hr
  obtain ⟨hr1, hr2⟩ := hr
  have hS := RelL_slice hli hr2 (by rw [hr1]; exact hmax)
  have hbd := run_bounds2 (P := P) (w := w) false n n il ih c0 c1 (by omega)
  have hc := RelS_cut hS (l := l.toNat) (k := h.toNat) (m := n) (by omega) (by omega) (by omega) (by omega)
  refine gives_mk (v := .slice (some (if n = l.toNat then ⟨b, o', none⟩ else (⟨b, o', none⟩ : Addr).add (l.toNat * T.size))) (h.toNat - l.toNat) (n - l.toNat)) (by simp [execOp, ho, e1, run_slice_ar hd he hbd]) ?_
  simp only [RelV, RelA]
  refine ⟨_, _, _, rfl, ?_, trivial⟩
  have hsome : (some (if n = l.toNat then (⟨b, o', none⟩ : Addr) else (⟨b, o', none⟩ : Addr).add (l.toNat * T.size))) = (if n = l.toNat then some (⟨b, o', none⟩ : Addr) else (some (⟨b, o', none⟩ : Addr)).map (·.add (l.toNat * T.size))) := by
    split <;> rfl
  rw [hsome]
  exact hc

theorem vs_sarr (hE : RelE w S mu H env a) {o : Oper} {n : Nat} {T : Ty} {x : Ar} {av : AV} (hm : vOK P o.op (.sarr n T x) = true) (hv : VGives (.sarr n T x) env av) : Gives P w S mu H o a av := by
  cases ho : o.op <;> simp [ho, vOK] at hm
  rename_i t X
  obtain ⟨ht, h1⟩ := hm
  have r1 := arOK_rel hE h1
  obtain ⟨d, hd, te, rfl, he⟩ := tyOK_und ht
  cases hx : x.ev env <;> first | (refine (hv.bad ?_).elim; simp [vop, hx]; done) | skip
  rename_i u xs tk
  rw [hx] at r1
  have hs := bad_of hv (by simp only [vop, hx] <;> rfl)
  have := Ty.same_eq _ _ hs
  subst this
  obtain ⟨e2, c0, c1⟩ := hv.iff (by simp only [vop, hx, hs, cond_true] <;> rfl)
  subst e2
  obtain ⟨ad, m, c, e1, hrs, _⟩ := r1.sl
  obtain ⟨hl, hnc, hcm, hel⟩ := hrs
  obtain ⟨b, o', cs0, rfl, _⟩ := hel 0 _ (getD_of (by omega))
  have key : ∀ k, k ≤ xs.length → ∃ cells, Lies w S b o' cells ∧ cells.length = k * u.size ∧ RelL u.size (RelD w S u) cells (xs.take k) := by
    intro k
    induction k with
    | zero => intro _; exact ⟨[], Lies.nil _ _, by simp, by simp [RelL]⟩
    | succ k ih =>
      intro hk
      obtain ⟨cells, g1, g2, g3⟩ := ih (by omega)
      obtain ⟨b2, o2, cs, e3, g4, g5, g6⟩ := hel k _ (getD_of (show k < xs.length by omega))
      injection e3 with e3
      injection e3 with e4 e5
      subst e4; subst e5
      refine ⟨cells ++ cs, g1.append (by rw [g2]; exact g4), by simp [g2, g5, Nat.add_mul], ?_⟩
      rw [List.take_add_one, List.getElem?_eq_getElem (show k < xs.length by omega)]
      have : xs.getD k (.i 0) = xs[k] := by rw [List.getD_eq_getElem?_getD, List.getElem?_eq_getElem (show k < xs.length by omega)]; rfl
      rw [this] at g6
      exact RelL_append g3 (RelL_one g5 g6)
  obtain ⟨cells, g1, g2, g3⟩ := key n (by omega)
  refine gives_mk (v := .pointer (some ⟨b, o', none⟩)) ?_ ?_
  · have : ¬ m < n := by omega
    simp [execOp, ho, e1, Instr.arrayAt, run_underlying hd, this]
  · simp only [RelV, RelA]
    exact ⟨b, o', rfl, cells, g1, by simp only [RelD, D.fs]; exact ⟨by simp; omega, g3⟩⟩

theorem vs_sidx (hE : RelE w S mu H env a) {o : Oper} {x i : Ar} {av : AV} (hm : vOK P o.op (.sidx x i) = true) (hv : VGives (.sidx x i) env av) : Gives P w S mu H o a av := by
  cases ho : o.op <;> simp [ho, vOK] at hm
  rename_i t X I
  obtain ⟨⟨h1, h2⟩, ht⟩ := hm
  have r1 := arOK_rel hE h1
  have r2 := arOK_rel hE h2
  have hd : P.underlying t = some .string := by
    split at ht
    · assumption
    · cases ht
  cases hx : x.ev env <;> first | (refine (hv.bad ?_).elim; simp [vop, hx]; done) | skip
  rename_i s
  cases hi : i.ev env <;> first | (refine (hv.bad ?_).elim; simp [vop, hx, hi]; done) | skip
  rename_i k n
  obtain ⟨e2, c0, c1⟩ := hv.iff (by simp only [vop, hx, hi] <;> rfl)
  subst e2
  rw [hx] at r1; rw [hi] at r2
  have hlt : n.toNat < s.size := by omega
  have hg : s[n.toNat]? = some (s.data.getD n.toNat 0) := by
    have hd : n.toNat < s.data.size := hlt
    rw [getElem?_pos s n.toNat hlt]
    simp [Array.getD]
    rw [dif_pos hlt]
    rfl
  refine gives_mk (v := .int .u8 (s.data.getD n.toNat 0).toNat) ?_ (relv_int ?_)
  · simp [execOp, ho, r1.str.1, r2.int.1, Instr.index, asIntOf, run_underlying hd, c0, hg]
  · have := (s.data[n.toNat]?.getD 0).toNat_lt
    simp [IntKind.has, IntKind.min, IntKind.max, IntKind.signed, IntKind.bits]
    omega

theorem vs_aidx (hE : RelE w S mu H env a) {o : Oper} {n : Nat} {T : Ty} {x i : Ar} {av : AV} (hm : vOK P o.op (.aidx n T x i) = true) (hv : VGives (.aidx n T x i) env av) : Gives P w S mu H o a av := by
  cases ho : o.op <;> simp [ho, vOK] at hm
  rename_i t X I
  obtain ⟨⟨h1, h2⟩, ht⟩ := hm
  have r1 := arOK_rel hE h1
  have r2 := arOK_rel hE h2
  obtain ⟨d, hd, te, rfl, he⟩ := tyOK_und ht
  cases hx : x.ev env <;> first | (refine (hv.bad ?_).elim; simp [vop, hx]; done) | skip
  rename_i m u xs
  cases hi : i.ev env <;> first | (refine (hv.bad ?_).elim; simp [vop, hx, hi]; done) | skip
  rename_i k j
  have hs := bad_of hv (by simp only [vop, hx, hi] <;> rfl)
  obtain ⟨e2, c0, c1⟩ := hv.iff (by simp only [vop, hx, hi, hs, cond_true] <;> rfl)
  subst e2
  simp at hs
  obtain ⟨rfl, hs⟩ := hs
  have := Ty.same_eq _ _ hs
  subst this
  rw [hx] at r1; rw [hi] at r2
  obtain ⟨cs, e1, hl, hr⟩ := r1.arr
  obtain ⟨pre, c, post, q0, q1, q2, q3⟩ := RelL_get hr (getD_of (show j.toNat < xs.length by omega))
  obtain ⟨v, p1, p2⟩ := run_part (w := w) he (xs := cs) q0 q1 q2
  refine gives_mk (v := v) ?_ (Val.rel (fitsV_of_fits _ _ (ofD_fits u _ c q3)) (ofD_rel u c _ q3) p2)
  simp [execOp, ho, e1, r2.int.1, Instr.index, asIntOf, run_underlying hd, c0, c1, tyOK_size he w, p1]

/-! ### Literals -/
def over (cs : List Value) (off : Nat) (c : List Value) : List Value := cs.take off ++ (c ++ cs.drop (off + c.length))

theorem over_mid {pre c c' post : List Value} (h : c'.length = c.length) : over (pre ++ (c ++ post)) pre.length c' = pre ++ (c' ++ post) := by
  unfold over
  rw [List.take_left, h, ← List.append_assoc pre c post, show pre.length + c.length = (pre ++ c).length by simp, List.drop_left]

theorem over_get (cs : List Value) (off : Nat) (c : List Value) (h : off + c.length ≤ cs.length) (k : Nat) : (over cs off c)[k]? = if off ≤ k ∧ k < off + c.length then c[k - off]? else cs[k]? := by
  unfold over
  have h1 : (cs.take off).length = off := by simp; omega
  by_cases hk : off ≤ k
  · rw [List.getElem?_append_right (by omega), h1]
    by_cases hk2 : k < off + c.length
    · rw [if_pos ⟨hk, hk2⟩, List.getElem?_append_left (by omega)]
    · rw [if_neg (by omega), List.getElem?_append_right (by omega), List.getElem?_drop]
      congr 1
      omega
  · rw [if_neg (by omega), List.getElem?_append_left (by omega), List.getElem?_take_of_lt (by omega)]

theorem foldl_get : ∀ (vs : List Value) (j : Nat) (cs : Array Value) (off : Nat), off + j + vs.length ≤ cs.size → ∀ k : Nat,
    ((vs.zipIdx j).foldl (fun (cs : Array Value) (p : Value × Nat) => cs.setIfInBounds (off + p.2) p.1) cs)[k]? = if off + j ≤ k ∧ k < off + j + vs.length then vs[k - (off + j)]? else cs[k]?
  | [], j, cs, off, _, k => by
    simp only [List.zipIdx_nil, List.foldl_nil, List.length_nil]
    rw [if_neg (by omega)]
  | v :: vs, j, cs, off, h, k => by
    simp only [List.zipIdx_cons, List.foldl_cons]
    rw [foldl_get vs (j + 1) _ off (by simp at h ⊢; omega) k]
    simp only [List.length_cons] at h ⊢
    by_cases hk : off + (j + 1) ≤ k ∧ k < off + (j + 1) + vs.length
    · rw [if_pos hk, if_pos (by omega), show k - (off + j) = (k - (off + (j + 1))) + 1 by omega, List.getElem?_cons_succ]
    · rw [if_neg hk, Array.getElem?_setIfInBounds]
      by_cases he : off + j = k
      · subst he
        rw [if_pos rfl, if_pos (by omega), if_pos (by omega)]
        simp
      · rw [if_neg he, if_neg (by omega)]

theorem foldl_over (vs : List Value) (cs : Array Value) (off : Nat) (h : off + vs.length ≤ cs.size) :
    (vs.zipIdx.foldl (fun (cs : Array Value) (p : Value × Nat) => cs.setIfInBounds (off + p.2) p.1) cs).toList = over cs.toList off vs := by
  apply List.ext_getElem?
  intro k
  rw [over_get _ _ _ (by simpa using h), Array.getElem?_toList, foldl_get vs 0 cs off (by simpa using h) k]
  simp

/-- What 'fill' comes to, part by part. -/
theorem fill_step {place : Nat → Option (Nat × Nat)} {cells : Array Value} {i off size : Nat} {v : Value} {rest : List (Nat × Value)} (hp : place i = some (off, size)) (hs : v.cells.size = size) (hb : off + size ≤ cells.size) :
    Instr.fill place cells ((i, v) :: rest) = Instr.fill place (over cells.toList off v.cells.toList).toArray rest := by
  simp only [Instr.fill, hp]
  rw [if_neg (by simp [hs]; omega)]
  congr 1
  rw [← Array.toList_inj]
  simp only []
  rw [← foldl_over v.cells.toList cells off (by simp [hs]; exact hb)]
  rw [← Array.toList_zipIdx, Array.foldl_toList]

theorem over_length {cs : List Value} {off : Nat} {c : List Value} (h : off + c.length ≤ cs.length) : (over cs off c).length = cs.length := by
  unfold over
  simp
  omega

theorem fitsVs_set : ∀ {vs : List AV} {ts : List Ty} {i : Nat} {v : AV}, fitsVs vs ts = true → fitsV v (ts.getD i .op) = true → i < ts.length → fitsVs (vs.set i v) ts = true
  | [], [], _, _, _, _, h => by simp at h
  | [], _ :: _, _, _, h, _, _ => by simp [fitsVs] at h
  | _ :: _, [], _, _, h, _, _ => by simp [fitsVs] at h
  | u :: vs, t :: ts, 0, v, h, h1, _ => by simp [fitsVs] at h; simpa [fitsVs, h.2] using h1
  | u :: vs, t :: ts, i + 1, v, h, h1, hi => by
    simp [fitsVs] at h
    simp [fitsVs, h.1]
    exact fitsVs_set h.2 (by simpa using h1) (by simpa using hi)

theorem RelAs_over : ∀ {vs : List AV} {ts : List Ty} {i : Nat} {cs : List Value} {v : AV} {c : List Value}, fitsVs vs ts = true → RelAs w S mu H vs cs → i < ts.length → fitsV v (ts.getD i .op) = true → RelA w S mu H v c →
    RelAs w S mu H (vs.set i v) (over cs (Ty.sizes (ts.take i)) c) ∧ Ty.sizes (ts.take i) + c.length ≤ cs.length
  | [], [], _, _, _, _, _, _, h, _, _ => by simp at h
  | [], _ :: _, _, _, _, _, hf, _, _, _, _ => by simp [fitsVs] at hf
  | _ :: _, [], _, _, _, _, hf, _, _, _, _ => by simp [fitsVs] at hf
  | u :: vs, t :: ts, 0, cs, v, c, hf, h, _, hv, hr => by
    simp [fitsVs] at hf
    simp only [RelAs] at h
    obtain ⟨c1, c2, rfl, h1, h2⟩ := h
    have l1 := RelA.length u t c1 hf.1 h1
    have l2 := RelA.length v t c (by simpa using hv) hr
    simp only [List.set_cons_zero, List.take_zero, Ty.sizes, RelAs]
    have := over_mid (pre := []) (c := c1) (c' := c) (post := c2) (by omega)
    simp at this
    exact ⟨⟨c, c2, this, hr, h2⟩, by simp; omega⟩
  | u :: vs, t :: ts, i + 1, cs, v, c, hf, h, hi, hv, hr => by
    simp [fitsVs] at hf
    simp only [RelAs] at h
    obtain ⟨c1, c2, rfl, h1, h2⟩ := h
    have l1 := RelA.length u t c1 hf.1 h1
    obtain ⟨g1, g2⟩ := RelAs_over hf.2 h2 (i := i) (by simpa using hi) (by simpa using hv) hr
    simp only [List.set_cons_succ, List.take_succ_cons, Ty.sizes, RelAs]
    refine ⟨⟨c1, _, ?_, h1, g1⟩, by simp; omega⟩
    unfold over
    rw [← l1, List.take_length_add_append, List.append_assoc]
    congr 2
    rw [show c1.length + Ty.sizes (List.take i ts) + c.length = c1.length + (Ty.sizes (List.take i ts) + c.length) by omega, List.drop_length_add_append]

theorem RelL_over {sz : Nat} {R : List Value → D → Prop} : ∀ {cs : List Value} {xs : List D} {j : Nat} {c : List Value} {d : D}, RelL sz R cs xs → j < xs.length → c.length = sz → R c d →
    RelL sz R (over cs (j * sz) c) (xs.set j d) ∧ j * sz + c.length ≤ cs.length
  | _, [], _, _, _, _, h, _, _ => by simp at h
  | cs, x :: xs, 0, c, d, h, _, hc, hr => by
    obtain ⟨c1, c2, rfl, h1, h2, h3⟩ := h
    have := over_mid (pre := []) (c := c1) (c' := c) (post := c2) (by omega)
    simp at this
    simp only [List.set_cons_zero, Nat.zero_mul]
    exact ⟨⟨c, c2, this, hc, hr, h3⟩, by simp; omega⟩
  | cs, x :: xs, j + 1, c, d, h, hj, hc, hr => by
    obtain ⟨c1, c2, rfl, h1, h2, h3⟩ := h
    obtain ⟨g1, g2⟩ := RelL_over h3 (j := j) (by simpa using hj) hc hr
    simp only [List.set_cons_succ]
    refine ⟨⟨c1, _, ?_, h1, h2, g1⟩, by simp [Nat.add_mul]; omega⟩
    unfold over
    rw [show (j + 1) * sz = c1.length + j * sz by rw [Nat.add_mul, h1]; omega, List.take_length_add_append, List.append_assoc]
    congr 2
    rw [show c1.length + j * sz + c.length = c1.length + (j * sz + c.length) by omega, List.drop_length_add_append]

theorem fill_st {place : Nat → Option (Nat × Nat)} {ts : List Ty} (hpl : ∀ i, i < ts.length → place i = some (Ty.sizes (ts.take i), (ts.getD i .op).size)) (hE : RelE w S mu H env a) :
    ∀ {ps : List (Nat × Operand)} {qs : List (Nat × Ar)} {vs : List AV} {cells : Array Value}, partsOK ps qs = true → fitParts ts (evps qs env) = true → fitsVs vs ts = true → RelAs w S mu H vs cells.toList →
      ∃ cells', Instr.fill place cells (ps.map fun p => (p.1, a.eval p.2)) = some cells' ∧ RelAs w S mu H (setParts vs (evps qs env)) cells'.toList ∧ fitsVs (setParts vs (evps qs env)) ts = true
  | [], [], vs, cells, _, _, hf, hr => ⟨cells, rfl, hr, hf⟩
  | [], _ :: _, _, _, h, _, _, _ => by simp [partsOK] at h
  | _ :: _, [], _, _, h, _, _, _ => by simp [partsOK] at h
  | (i, X) :: ps, (j, x) :: qs, vs, cells, h, hp, hf, hr => by
    simp [partsOK] at h
    obtain ⟨⟨rfl, h1⟩, h2⟩ := h
    simp [evps, fitParts] at hp
    obtain ⟨⟨p1, p2⟩, p3⟩ := hp
    have p1' : fitsV (x.ev env) (ts.getD i .op) = true := by simpa using p1
    obtain ⟨v1, v2⟩ := (arOK_rel hE h1).val p1'
    have hlen := RelA.length _ _ _ p1' v2
    obtain ⟨g1, g2⟩ := RelAs_over hf hr p2 p1' v2
    simp only [List.map_cons, evps, setParts]
    rw [hlen] at g2
    rw [fill_step (hpl i p2) (by simpa using hlen) (by simpa using g2)]
    exact fill_st hpl hE h2 p3 (fitsVs_set hf p1' p2) (by simpa using g1)

theorem fill_ar {e : Ty} {n : Nat} (hE : RelE w S mu H env a) :
    ∀ {ps : List (Nat × Operand)} {qs : List (Nat × Ar)} {xs : List D} {cells : Array Value}, partsOK ps qs = true → fitPartsD e n (evps qs env) = true → xs.length = n → RelL e.size (RelD w S e) cells.toList xs →
      ∃ cells', Instr.fill (fun i => some (i * e.size, e.size)) cells (ps.map fun p => (p.1, a.eval p.2)) = some cells' ∧ RelL e.size (RelD w S e) cells'.toList (setPartsD xs (evps qs env)) ∧ (setPartsD xs (evps qs env)).length = n
  | [], [], xs, cells, _, _, hf, hr => ⟨cells, rfl, hr, hf⟩
  | [], _ :: _, _, _, h, _, _, _ => by simp [partsOK] at h
  | _ :: _, [], _, _, h, _, _, _ => by simp [partsOK] at h
  | (i, X) :: ps, (j, x) :: qs, xs, cells, h, hp, hf, hr => by
    simp [partsOK] at h
    obtain ⟨⟨rfl, h1⟩, h2⟩ := h
    simp [evps, fitPartsD] at hp
    obtain ⟨⟨p1, p2⟩, p3⟩ := hp
    obtain ⟨v1, v2⟩ := (arOK_rel hE h1).val (fitsV_of_fits _ _ p1)
    have hd := toD_rel _ _ _ p1 v2
    obtain ⟨g1, g2⟩ := RelL_over hr (j := i) (by omega) hd.length hd
    have hlen := hd.length
    simp only [List.map_cons, evps, setPartsD]
    rw [fill_step rfl (by simpa using hlen) (by simp at g2 hlen; omega)]
    exact fill_ar hE h2 p3 (by simpa using hf) (by simpa using g1)

theorem zero_info {t : TypeId} {T : Ty} (h : zeroOK P t T = true) : ∃ i z, P.info? t = some i ∧ i.zero = some z ∧ z.cells.toList = zcells T := by
  unfold zeroOK at h
  cases hi : P.info? t with
  | none => simp [hi] at h
  | some i =>
    cases hz : i.zero with
    | none => simp [hi, hz] at h
    | some z =>
      refine ⟨i, z, rfl, hz, ?_⟩
      obtain ⟨z', h1, h2, _⟩ := zeroOK_run (P := P) (t := t) (T := T) (by simpa only [zeroOK, hi, hz] using h) (default : World)
      have : (zeroValue t).run P (default : World) = .ok z default := by
        simp only [zeroValue, Sem.run_bind, run_typeInfo _ hi, Result.andThen_ok, hz, Sem.run_pure]
      rw [this] at h1
      injection h1 with h1
      rw [h1]; exact h2

theorem places_of : ∀ {fs : List Field} {ts : List Ty} {off : Nat}, tyOKs P fs ts off = true → ∃ places, fs.mapM (fun f => (P.info? f.type).map fun i => (f.offset, i.size)) = some places ∧ places.length = ts.length ∧ ∀ i, i < ts.length → places[i]? = some (off + Ty.sizes (ts.take i), (ts.getD i .op).size)
  | [], [], off, _ => ⟨[], rfl, rfl, fun i h => by simp at h⟩
  | [], _ :: _, _, h => by simp [tyOKs] at h
  | _ :: _, [], _, h => by simp [tyOKs] at h
  | f :: fs, t :: ts, off, h => by
    simp [tyOKs] at h
    obtain ⟨⟨⟨h1, h2⟩, h3⟩, h4⟩ := h
    obtain ⟨pl, g1, g2, g3⟩ := places_of h4
    obtain ⟨d, hd, _⟩ := tyOK_und h3
    obtain ⟨i0, hi⟩ := info_of_underlying hd
    have hs := tyOK_size h3 (default : World)
    rw [run_sizeOf _ hi] at hs
    injection hs with hs
    have hs' : i0.size = t.size := by simpa [Program.cellsOf, hi] using hs
    refine ⟨(f.offset, i0.size) :: pl, by simp [List.mapM_cons, hi, g1], by simp [g2], fun i hi2 => ?_⟩
    cases i with
    | zero => simp [h1, hs', Ty.sizes]
    | succ i =>
      have := g3 i (by simpa using hi2)
      simp only [List.getElem?_cons_succ, this, List.take_succ_cons, Ty.sizes]
      simp
      omega

theorem vs_build (hE : RelE w S mu H env a) {o : Oper} {T : Ty} {qs : List (Nat × Ar)} {av : AV} (hm : vOK P o.op (.build T qs) = true) (hv : VGives (.build T qs) env av) : Gives P w S mu H o a av := by
  cases ho : o.op <;> simp [ho, vOK] at hm
  rename_i t ps
  obtain ⟨⟨⟨ht, hz⟩, hzo⟩, hp⟩ := hm
  obtain ⟨it, z, hi, hiz, hzc⟩ := zero_info hz
  have hzr := zeroA_rel (w := w) (S := S) (mu := mu) (H := H) T hzo
  cases T <;> first | (refine (hv.bad ?_).elim; simp [vop]; done) | skip
  · rename_i ts
    have hb := bad_of hv (by simp only [vop] <;> rfl)
    have := hv.ok (by simp only [vop, hb, cond_true] <;> rfl)
    subst this
    obtain ⟨d, hd, fs, rfl, h2⟩ := tyOK_und ht
    obtain ⟨pl, g1, g2, g3⟩ := places_of h2
    simp only [zeroA, ofD, RelA] at hzr
    have hfz := zeroA_fits (.st ts) (zeroD (.st ts)) hzo
    simp only [ofD, fitsV] at hfz
    obtain ⟨cells', k1, k2, k3⟩ := fill_st (place := (pl.toArray[·]?)) (cells := z.cells) (ts := ts) (fun i hi => by have := g3 i hi; simpa using this) hE hp hb hfz (by rw [hzc]; exact hzr)
    refine gives_mk (v := .agg cells') ?_ (by simp only [RelV, RelA]; exact ⟨_, rfl, k2⟩)
    have hbuilt : P.built t (ps.map fun (p : Nat × Operand) => (p.1, a.eval p.2)).toList = some cells' := by
      simp only [Program.built, hi, hd, hiz, g1, Array.toList_map]
      exact k1
    have := run_build w t _ _ hbuilt
    simp only [execOp, ho]
    rw [Sem.run_bind]
    exact (congrArg (fun r => Result.andThen r fun a w' => (pure (Next.value a) : Sem Next).run P w') this)
  · rename_i n e
    have hb := bad_of hv (by simp only [vop] <;> rfl)
    have := hv.ok (by simp only [vop, hb, cond_true] <;> rfl)
    subst this
    obtain ⟨d, hd, te, rfl, he⟩ := tyOK_und ht
    obtain ⟨i, hie, hs⟩ := eqD_head hd he
    simp only [zeroA, ofD, zeroD, D.fs, RelA] at hzr
    obtain ⟨cells', k1, k2, k3⟩ := fill_ar (cells := z.cells) (e := e) (n := n) hE hp hb hzr.1 (by rw [hzc]; exact hzr.2)
    refine gives_mk (v := .agg cells') ?_ (by simp only [RelV, RelA]; exact ⟨_, rfl, k3, k2⟩)
    have hbuilt : P.built t (ps.map fun (p : Nat × Operand) => (p.1, a.eval p.2)).toList = some cells' := by
      simp only [Program.built, hi, hd, hiz, hie, Array.toList_map]
      rw [show i.size = e.size by simpa [Program.cellsOf, hie] using hs]
      exact k1
    have := run_build w t _ _ hbuilt
    simp only [execOp, ho]
    rw [Sem.run_bind]
    exact (congrArg (fun r => Result.andThen r fun a w' => (pure (Next.value a) : Sem Next).run P w') this)

/-- A value operation comes to what 'vop' says, and turns nothing. -/
theorem vop_sound (hE : RelE w S mu H env a) {o : Oper} {vo : VOp} {av : AV} (hm : vOK P o.op vo = true) (hv : VGives vo env av) : Gives P w S mu H o a av := by
  cases vo with
  | move x => have := hv.ok (by simp only [vop] <;> rfl); subst this; exact vs_move hE hm
  | drop x => have := hv.ok (by simp only [vop] <;> rfl); subst this; exact vs_drop hE hm
  | pick c x y => exact vs_pick hE hm hv
  | add x y => exact vs_add hE hm hv
  | sub x y => exact vs_addsubmul hE hm hv (.inl rfl)
  | mul x y => exact vs_addsubmul hE hm hv (.inr rfl)
  | quo x y => exact vs_quorem hE hm hv (.inl rfl)
  | rem x y => exact vs_quorem hE hm hv (.inr rfl)
  | bit b x y => exact vs_bit hE hm hv
  | shl x y => exact vs_shl hE hm hv
  | shr x y => exact vs_shr hE hm hv
  | cmp c x y => exact vs_cmp hE hm hv
  | eqT t n x y => exact vs_eqT hE hm hv
  | not x => exact vs_not hE hm hv
  | neg x => exact vs_neg hE hm hv
  | conv k x => exact vs_conv hE hm hv
  | convS b x => exact vs_convS hE hm hv
  | ext x i => exact vs_ext hE hm hv
  | len s x => exact vs_len hE hm hv
  | min x y => exact vs_minmax hE hm hv (.inl rfl)
  | max x y => exact vs_minmax hE hm hv (.inr rfl)
  | fadr t i x => exact vs_fadr hE hm hv
  | iadr n e x i => exact vs_iadr hE hm hv
  | slice e x l h m => exact vs_slice hE hm hv
  | slc t x h => exact vs_slc hE hm hv
  | sliceS x l h => exact vs_sliceS hE hm hv
  | sliceA n e x l h => exact vs_sliceA hE hm hv
  | loadC t x => exact vs_loadC hE hm hv
  | build t ps => exact vs_build hE hm hv
  | mkfn f cs => exact vs_mkfn hE hm hv
  | nilck x => exact vs_nilck hE hm hv
  | sarr n e x => exact vs_sarr hE hm hv
  | sidx x i => exact vs_sidx hE hm hv
  | aidx n e x i => exact vs_aidx hE hm hv
  | fieldv t i x => exact vs_fieldv hE hm hv
end
end Go.Vc
