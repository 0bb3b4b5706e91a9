/- Part E: value operations on places, slices, structs and arrays. -/
import Derived.Test.YtiddoflcajgjjaaVcOpD
import Derived.Laws.BytesArg
set_option linter.unusedVariables false
set_option linter.unusedSimpArgs false
namespace Go.Vc
section
variable {P : Program} {w : World} {S : Nat → Nat → Prop} {mu : Mu} {H : Heap} {env : Env} {a : Act}

theorem vs_loadC (hE : RelE w S mu H env a) {o : Oper} {T : Ty} {x : Ar} {av : AV} (hm : vOK P o.op (.loadC T x) = true) (hv : VGives (.loadC T x) env av) : Gives P w S mu H o a av := by
  cases ho : o.op <;> simp [ho, vOK] at hm
  rename_i t X
  obtain ⟨ht, h1⟩ := hm
  have r1 := arOK_rel hE h1
  cases hx : x.ev env <;> first | (refine (hv.bad ?_).elim; simp [vop, hx]; done) | skip
  rename_i u d
  by_cases hs : Ty.same u T = true
  · have := hv.ok (by simp only [vop, hx, hs, cond_true] <;> rfl)
    subst this
    have := Ty.same_eq _ _ hs
    subst this
    rw [hx] at r1
    obtain ⟨b, o', e1, cells, hl, hr⟩ := r1.cptr
    obtain ⟨v, k1, k2⟩ := run_loadVar (w := w) ht (fun k v hk => (hl k v hk).1) hr.length
    exact gives_mk (v := v) (by simp [execOp, ho, e1, Instr.loadAt, Instr.sureAddr, k1]) (Val.rel (fitsV_of_fits _ _ (ofD_fits u d cells hr)) (ofD_rel u cells d hr) k2)
  · refine (hv.bad ?_).elim
    simp only [vop, hx]
    cases hh : Ty.same u T with
    | true => exact absurd hh hs
    | false => rfl


theorem bad_of {vo : VOp} {av : AV} {b : Bool} {x : VR} (hv : VGives vo env av) (h : vop vo env = bif b then x else .bad) : b = true := by
  cases b with
  | true => rfl
  | false => exact (hv.bad h).elim

theorem run_fieldAt {s : TypeId} {ts : List Ty} (ht : tyOK P s (.st ts) = true) {b o i : Nat} (hi : i < ts.length) (hsz : 0 < (ts.getD i .op).size) :
    (Instr.fieldAt s (.pointer (some ⟨b, o, none⟩)) i).run P w = .ok (.pointer (some ⟨b, o + Ty.sizes (ts.take i), none⟩)) w := by
  obtain ⟨d, hd, fs, rfl, h2⟩ := tyOK_und ht
  obtain ⟨g1, g2⟩ := tyOKs_get h2
  obtain ⟨f, k1, k2, k3, k4⟩ := g2 i hi
  have k1' : fs[i]? = some f := by simpa using k1
  simp only [Instr.fieldAt, Sem.run_bind, run_underlying hd, Result.andThen_ok, k1', Instr.sureAddr, Sem.run_pure, fieldPlace, tyOK_size k4 w]
  rw [if_neg (by omega)]
  simp [addr_add, k2]

theorem vs_fadr (hE : RelE w S mu H env a) {o : Oper} {T : Ty} {i : Nat} {x : Ar} {av : AV} (hm : vOK P o.op (.fadr T i x) = true) (hv : VGives (.fadr T i x) env av) : Gives P w S mu H o a av := by
  cases ho : o.op <;> simp [ho, vOK] at hm
  rename_i s X i'
  obtain ⟨⟨⟨rfl, h1⟩, ht⟩, hz⟩ := hm
  have r1 := arOK_rel hE h1
  cases T <;> simp at hz
  rename_i ts
  have hz : 0 < (ts.getD i' .op).size := by simpa using hz
  cases hx : x.ev env <;> first | (refine (hv.bad ?_).elim; simp [vop, hx]; done) | skip
  · rename_i id p u
    have hb := bad_of hv (by simp only [vop, hx] <;> rfl)
    simp at hb
    obtain ⟨hs, hi⟩ := hb
    have := hv.ok (by simp only [vop, hx, hs, Bool.true_and, (show Nat.blt i' ts.length = true by simpa using hi), cond_true] <;> rfl)
    subst this
    have := Ty.same_eq _ _ hs
    subst this
    rw [hx] at r1
    obtain ⟨b, o', e1, blk, hb, hu, hpl⟩ := r1.ptr
    refine gives_mk (v := .pointer (some ⟨b, o' + Ty.sizes (ts.take i'), none⟩)) (by simp [execOp, ho, e1, run_fieldAt ht hi hz]) ?_
    simp only [RelV, RelA]
    refine ⟨b, _, rfl, blk, hb, hu, fun hk => ?_⟩
    obtain ⟨g1, g2, g3⟩ := hpl hk
    obtain ⟨q1, q2⟩ := place_fld g2 g3 hi
    exact ⟨g1, q1, q2⟩
  · rename_i u d
    have hb := bad_of hv (by simp only [vop, hx] <;> rfl)
    simp at hb
    obtain ⟨hs, hi⟩ := hb
    have := hv.ok (by simp only [vop, hx, hs, Bool.true_and, (show Nat.blt i' ts.length = true by simpa using hi), cond_true] <;> rfl)
    subst this
    have := Ty.same_eq _ _ hs
    subst this
    rw [hx] at r1
    obtain ⟨b, o', e1, cells, hl, hr⟩ := r1.cptr
    refine gives_mk (v := .pointer (some ⟨b, o' + Ty.sizes (ts.take i'), none⟩)) (by simp [execOp, ho, e1, run_fieldAt ht hi hz]) ?_
    simp only [RelD] at hr
    obtain ⟨pre, c, post, rfl, q1, q2⟩ := RelDs_get hr hi
    simp only [RelV, RelA]
    refine ⟨b, _, rfl, c, ?_, by simpa using q2⟩
    rw [← q1]
    exact hl.mid

theorem run_indexAt_sl {t te : TypeId} {e : Ty} (hu : P.underlying t = some (.slice te)) (he : tyOK P te e = true) {ad : Addr} {n c : Nat} {k : IntKind} {i : Int} (h0 : 0 ≤ i) (h1 : i < n) :
    (Instr.indexAt t (.slice (some ad) n c) (.int k i)).run P w = .ok (.pointer (some (ad.add (i.toNat * e.size)))) w := by
  simp only [Instr.indexAt, asIntOf, Sem.run_bind, Sem.run_pure, Result.andThen_ok, run_underlying hu]
  rw [if_pos ⟨h0, h1⟩]
  simp [tyOK_size he w]
theorem run_indexAt_ar {t te : TypeId} {e : Ty} {n : Nat} (hu : P.underlying t = some (.array n te)) (he : tyOK P te e = true) {ad : Addr} {k : IntKind} {i : Int} (h0 : 0 ≤ i) (h1 : i < n) :
    (Instr.indexAt t (.pointer (some ad)) (.int k i)).run P w = .ok (.pointer (some (ad.add (i.toNat * e.size)))) w := by
  simp only [Instr.indexAt, asIntOf, Sem.run_bind, Sem.run_pure, Result.andThen_ok, run_underlying hu, Instr.sureAddr]
  rw [if_pos ⟨h0, h1⟩]
  simp [tyOK_size he w]

theorem getD_of {xs : List D} {j : Nat} (h : j < xs.length) : xs[j]? = some (xs.getD j (.i 0)) := by
  rw [List.getD_eq_getElem?_getD, List.getElem?_eq_getElem h]; rfl

theorem vs_iadr (hE : RelE w S mu H env a) {o : Oper} {n : Option Nat} {T : Ty} {x i : Ar} {av : AV} (hm : vOK P o.op (.iadr n T x i) = true) (hv : VGives (.iadr n T x i) env av) : Gives P w S mu H o a av := by
  cases ho : o.op <;> simp [ho, vOK] at hm
  rename_i t X I
  obtain ⟨⟨⟨h1, h2⟩, hz⟩, ht⟩ := hm
  have r1 := arOK_rel hE h1
  have r2 := arOK_rel hE h2
  cases n with
  | none =>
    simp only at ht
    obtain ⟨d, hd, te, rfl, he⟩ := tyOK_und ht
    cases hx : x.ev env <;> first | (refine (hv.bad ?_).elim; simp [vop, hx]; done) | skip
    · rename_i u xs tk
      cases hi : i.ev env <;> first | (refine (hv.bad ?_).elim; simp [vop, hx, hi]; done) | skip
      rename_i k n
      have hs := bad_of hv (by simp only [vop, hx, hi] <;> rfl)
      obtain ⟨e1, c0, c1⟩ := hv.iff (by simp only [vop, hx, hi, hs, cond_true] <;> rfl)
      subst e1
      have := Ty.same_eq _ _ hs
      subst this
      rw [hx] at r1; rw [hi] at r2
      obtain ⟨ad, m, c, e2, hrs, _⟩ := r1.sl
      obtain ⟨hl, _, _, hel⟩ := hrs
      have hlt : n.toNat < xs.length := by omega
      obtain ⟨b, o', cs, rfl, hli, hcl, hrd⟩ := hel n.toNat _ (getD_of hlt)
      refine gives_mk (v := .pointer (some ⟨b, o' + n.toNat * u.size, none⟩)) (by simp [execOp, ho, e2, r2.int.1, run_indexAt_sl hd he c0 (show n < (m : Int) by omega), addr_add]) ?_
      simp only [RelV, RelA]
      exact ⟨b, _, rfl, cs, hli, hrd⟩
    · rename_i id u off len
      cases hi : i.ev env <;> first | (refine (hv.bad ?_).elim; simp [vop, hx, hi]; done) | skip
      rename_i k n
      have hs := bad_of hv (by simp only [vop, hx, hi] <;> rfl)
      obtain ⟨e1, c0, c1⟩ := hv.iff (by simp only [vop, hx, hi, hs, cond_true] <;> rfl)
      subst e1
      have := Ty.same_eq _ _ hs
      subst this
      rw [hx] at r1; rw [hi] at r2
      obtain ⟨ad, c, e2, r3⟩ := r1.rsl
      simp only [RelA] at r3
      obtain ⟨_, _, e3, g1, g2, g3, blk, hb, hu, hbk⟩ := r3
      injection e3 with e3
      injection e3 with e3 _ e4
      subst e3; subst e4
      obtain ⟨b, o', rfl⟩ := g3 (by omega)
      refine gives_mk (v := .pointer (some ⟨b, o' + n.toNat * u.size, none⟩)) (by simp [execOp, ho, e2, r2.int.1, run_indexAt_sl hd he c0 c1, addr_add]) ?_
      simp only [RelV, RelA]
      refine ⟨b, _, rfl, blk, hb, by cases blk <;> simp [Blk.row] at hu <;> rfl, fun hk => ?_⟩
      rcases hk with ⟨t', v', fz', rfl⟩ | ⟨e', xs', fz', rfl⟩
      · simp [Blk.row] at hu
      · obtain ⟨q1, q2, b', q3, q4, _⟩ := hbk.1 e' xs' fz' rfl
        subst q1
        rcases q4 with q4 | q4
        · omega
        · injection q4 with q4
          injection q4 with q5 q6
          subst q5; subst q6
          refine ⟨q3, ?_, by simp [Blk.ty, endP]⟩
          simp only [Blk.place]
          rw [if_pos (by omega)]
          simp [offP, Nat.add_mul]
  | some m =>
    simp only at ht
    obtain ⟨d, hd, te, rfl, he⟩ := tyOK_und ht
    cases hx : x.ev env <;> first | (refine (hv.bad ?_).elim; simp [vop, hx]; done) | skip
    · rename_i id p u
      cases hi : i.ev env <;> first | (refine (hv.bad ?_).elim; simp [vop, hx, hi]; done) | skip
      rename_i k n
      have hs := bad_of hv (by simp only [vop, hx, hi] <;> rfl)
      obtain ⟨e1, c0, c1⟩ := hv.iff (by simp only [vop, hx, hi, hs, cond_true] <;> rfl)
      subst e1
      have := Ty.same_eq _ _ hs
      subst this
      rw [hx] at r1; rw [hi] at r2
      obtain ⟨b, o', e1, blk, hb, hu, hpl⟩ := r1.ptr
      refine gives_mk (v := .pointer (some ⟨b, o' + n.toNat * T.size, none⟩)) (by simp [execOp, ho, e1, r2.int.1, run_indexAt_ar hd he c0 c1, addr_add]) ?_
      simp only [RelV, RelA]
      refine ⟨b, _, rfl, blk, hb, hu, fun hk => ?_⟩
      obtain ⟨g1, g2, g3⟩ := hpl hk
      obtain ⟨q1, q2⟩ := place_idx g2 g3 (show n.toNat < m by omega)
      exact ⟨g1, q1, q2⟩
    · rename_i u d
      cases hi : i.ev env <;> first | (refine (hv.bad ?_).elim; simp [vop, hx, hi]; done) | skip
      rename_i k n
      have hs := bad_of hv (by simp only [vop, hx, hi] <;> rfl)
      obtain ⟨e1, c0, c1⟩ := hv.iff (by simp only [vop, hx, hi, hs, cond_true] <;> rfl)
      subst e1
      have := Ty.same_eq _ _ hs
      subst this
      rw [hx] at r1; rw [hi] at r2
      obtain ⟨b, o', e1, cells, hl, hr⟩ := r1.cptr
      refine gives_mk (v := .pointer (some ⟨b, o' + n.toNat * T.size, none⟩)) (by simp [execOp, ho, e1, r2.int.1, run_indexAt_ar hd he c0 c1, addr_add]) ?_
      simp only [RelD] at hr
      obtain ⟨pre, c, post, rfl, q1, q2, q3⟩ := RelL_get hr.2 (getD_of (show n.toNat < d.fs.length by omega))
      simp only [RelV, RelA]
      refine ⟨b, _, rfl, c, ?_, q3⟩
      rw [← q1]
      exact hl.mid

theorem RelV.one {v : AV} {u : Value} (h : RelV w S mu H v u) (h1 : oneA v = true) : RelA w S mu H v [u] := by
  cases v <;> simp [oneA] at h1 <;> simpa only [RelV] using h

theorem arsOK_rel (hE : RelE w S mu H env a) : ∀ {Xs : List Operand} {xs : List Ar}, arsOK Xs xs = true → oneAs (evs xs env) = true → RelC w S mu H (evs xs env) (Xs.map a.eval)
  | [], [], _, _ => by simp [evs, RelC]
  | [], _ :: _, h, _ => by simp [arsOK] at h
  | _ :: _, [], h, _ => by simp [arsOK] at h
  | X :: Xs, x :: xs, h, h1 => by
    simp [arsOK] at h
    simp [evs, oneAs] at h1
    simp only [evs, RelC, List.map_cons]
    exact ⟨_, _, rfl, (arOK_rel hE h.1).one h1.1, arsOK_rel hE h.2 h1.2⟩

theorem vs_mkfn (hE : RelE w S mu H env a) {o : Oper} {f : FuncId} {cs : List Ar} {av : AV} (hm : vOK P o.op (.mkfn f cs) = true) (hv : VGives (.mkfn f cs) env av) : Gives P w S mu H o a av := by
  cases ho : o.op <;> simp [ho, vOK] at hm
  rename_i fn first caps
  cases fn <;> simp [vOK] at hm
  rename_i g
  obtain ⟨⟨rfl, hf⟩, hc⟩ := hm
  have hb := bad_of hv (by simp only [vop] <;> rfl)
  have := hv.ok (by simp only [vop, hb, cond_true] <;> rfl)
  subst this
  subst hf
  refine gives_mk (v := .func (.func g) #[] (caps.map a.eval)) (by simp [execOp, ho, Instr.makeFunc]) ?_
  simp only [RelV, RelA]
  exact ⟨_, rfl, by simpa using arsOK_rel hE hc hb⟩

theorem vs_nilck (hE : RelE w S mu H env a) {o : Oper} {x : Ar} {av : AV} (hm : vOK P o.op (.nilck x) = true) (hv : VGives (.nilck x) env av) : Gives P w S mu H o a av := by
  cases ho : o.op <;> simp [ho, vOK] at hm
  rename_i X
  have r1 := arOK_rel hE hm
  cases hx : x.ev env <;> first | (refine (hv.bad ?_).elim; simp [vop, hx]; done) | skip
  · have := hv.ok (by simp only [vop, hx] <;> rfl)
    subst this
    rw [hx] at r1
    obtain ⟨b, o', e1, _⟩ := r1.ptr
    exact gives_mk (v := a.eval X) (by simp [execOp, ho, e1]) r1
  · have := hv.ok (by simp only [vop, hx] <;> rfl)
    subst this
    rw [hx] at r1
    obtain ⟨b, o', e1, _⟩ := r1.cptr
    exact gives_mk (v := a.eval X) (by simp [execOp, ho, e1]) r1

theorem vs_fieldv (hE : RelE w S mu H env a) {o : Oper} {T : Ty} {i : Nat} {x : Ar} {av : AV} (hm : vOK P o.op (.fieldv T i x) = true) (hv : VGives (.fieldv T i x) env av) : Gives P w S mu H o a av := by
  cases ho : o.op <;> simp [ho, vOK] at hm
  rename_i t X i'
  obtain ⟨⟨rfl, h1⟩, ht⟩ := hm
  have r1 := arOK_rel hE h1
  cases hx : x.ev env <;> first | (refine (hv.bad ?_).elim; simp [vop, hx]; done) | skip
  rename_i vs
  cases T <;> first | (refine (hv.bad ?_).elim; simp [vop, hx]; done) | skip
  rename_i ts
  have hb := bad_of hv (by simp only [vop, hx] <;> rfl)
  simp at hb
  obtain ⟨hf, hi⟩ := hb
  have := hv.ok (by simp only [vop, hx, hf, Bool.true_and, (show Nat.blt i' ts.length = true by simpa using hi), cond_true] <;> rfl)
  subst this
  rw [hx] at r1
  obtain ⟨cs, e1, hr⟩ := r1.st
  obtain ⟨d, hd, fs, rfl, h2⟩ := tyOK_und ht
  obtain ⟨g1, g2⟩ := tyOKs_get h2
  obtain ⟨f, k1, k2, k3, k4⟩ := g2 i' hi
  have k1' : fs[i']? = some f := by simpa using k1
  obtain ⟨pre, c, post, q0, q1, q2, q3⟩ := RelAs_get hf hr hi
  obtain ⟨u, p1, p2⟩ := run_part (w := w) k4 (xs := cs) q0 (show pre.length = f.offset by rw [k2, q1]; omega) (RelA.length _ _ _ q3 q2)
  exact gives_mk (v := u) (by simp [execOp, ho, e1, Instr.field, run_underlying hd, k1', asAgg, p1]) (Val.rel q3 q2 p2)

theorem vs_convS (hE : RelE w S mu H env a) {o : Oper} {b : Bool} {x : Ar} {av : AV} (hm : vOK P o.op (.convS b x) = true) (hv : VGives (.convS b x) env av) : Gives P w S mu H o a av := by
  cases ho : o.op <;> simp [ho, vOK] at hm
  rename_i src dst X
  obtain ⟨h0, h1⟩ := hm
  have r1 := arOK_rel hE h1
  split at h0
  · rename_i te hd hs
    simp at h0
    obtain ⟨rfl, h0⟩ := h0
    have hte : P.underlying te = some (.int .u8) := by
      split at h0
      · assumption
      · cases h0
    cases hx : x.ev env <;> first | (refine (hv.bad ?_).elim; simp [vop, hx]; done) | skip
    rename_i e xs tk
    cases e <;> first | (refine (hv.bad ?_).elim; simp [vop, hx]; done) | skip
    rename_i k
    cases k <;> first | (refine (hv.bad ?_).elim; simp [vop, hx]; done) | skip
    have := hv.ok (by simp only [vop, hx] <;> rfl)
    subst this
    rw [hx] at r1
    obtain ⟨ad, n, c, e1, hrs, _⟩ := r1.sl
    obtain ⟨hl, hnc, hcm, hel⟩ := hrs
    have hsz : (bytesOf xs).size ≤ maxLen := by simp [bytesOf, ByteArray.size]; omega
    have hrun : (convert src dst (.slice ad n c)).run P w = .ok (.string (bytesOf xs)) w := by
      rcases ad with _ | ad
      · have : xs = [] := by
          match xs, hl, hel with
          | [], _, _ => rfl
          | x :: xs, _, hel =>
            obtain ⟨_, _, _, h, _⟩ := hel 0 x rfl
            cases h
        subst this
        rw [run_convert_bytes_nil w src te hs hte n c dst hd]
        rfl
      · by_cases hn : xs = []
        · subst hn
          simp at hl
          subst hl
          obtain ⟨b, o', sp⟩ := ad
          have := run_convert_bytes_string w src dst te (some ⟨b, o', sp⟩) 0 c hs hte hd
          rw [this]
          simp [Conv.bytesToString, loadCells, loadCellsFrom, bytesOf]
          rfl
        · obtain ⟨x0, hx0⟩ : ∃ x0, xs[0]? = some x0 := by
            match xs, hn with
            | x :: xs, _ => exact ⟨x, rfl⟩
          obtain ⟨b, o', _, h3, _⟩ := hel 0 x0 hx0
          injection h3 with h3
          subst h3
          have := run_convert_bytes_arg (P := P) w src te hs hte b o' n c (xs.map D.int) (by simpa using hl) (fun i hi => by
            have hlt : i < xs.length := by omega
            obtain ⟨b2, o2, cs, h4, h5, h6, h7⟩ := hel i _ (getD_of hlt)
            injection h4 with h4
            injection h4 with h8 h9
            subst h8; subst h9
            simp only [RelD] at h7
            rw [h7.1] at h5
            have := (h5 0 _ rfl).1
            simp only [Ty.size, Nat.mul_one, Nat.add_zero] at this
            rw [this]
            simp [List.getD_eq_getElem?_getD, List.getElem?_eq_getElem hlt]) dst hd
          rw [this]
          simp [strOfNums, bytesOf]
    exact gives_mk (v := .string (bytesOf xs)) (by simp [execOp, ho, e1, hrun]) (relv_str hsz)
  · rename_i hd hs
    simp at h0
    subst h0
    cases hx : x.ev env <;> first | (refine (hv.bad ?_).elim; simp [vop, hx]; done) | skip
    rename_i s
    have := hv.ok (by simp only [vop, hx] <;> rfl)
    subst this
    rw [hx] at r1
    exact gives_mk (v := .string s) (by simp [execOp, ho, r1.str.1, convert, run_underlying hd, run_underlying hs]) (relv_str r1.str.2)
  · cases h0
end
end Go.Vc
