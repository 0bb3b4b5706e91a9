/- Part B: the check of value operations, and the numbers', bools', strings'. -/
import Derived.Test.YtiddoflcajgjjaaVcOpA
set_option linter.unusedVariables false
set_option linter.unusedSimpArgs false
namespace Go.Vc

def cmpOp : BinOp → Cmp → Bool
  | .eql, .eq => true | .neq, .ne => true | .lss, .lt => true | .leq, .le => true | .gtr, .gt => true | .geq, .ge => true
  | _, _ => false
def bitOp : BinOp → Bit → Bool
  | .and, .and => true | .or, .or => true | .xor, .xor => true | .andNot, .andNot => true
  | _, _ => false
mutual
/-- May it be compared as the model compares it? -/
def eqOK (P : Program) : TypeId → Ty → Bool
  | t, .st ts => !P.stoodInHeld t && (match P.underlying t with | some (.struct fs) => eqOKs P fs.toList ts | _ => false)
  | t, .arr _ e => (match P.underlying t with | some (.array _ te) => eqOK P te e | _ => false)
  | _, _ => true
def eqOKs (P : Program) : List Field → List Ty → Bool
  | f :: fs, t :: ts => eqOK P f.type t && eqOKs P fs ts
  | _, _ => true
end
/-- The depth at which a type is compared. -/
def deep : Ty → Nat
  | .st ts => deeps ts + 1
  | .arr _ e => deep e + 1
  | _ => 1
where deeps : List Ty → Nat
  | [] => 0
  | t :: ts => Nat.max (deep t) (deeps ts)
def optOK : Option Operand → Option Ar → Bool
  | none, none => true
  | some X, some x => arOK X x
  | _, _ => false
def partsOK : List (Nat × Operand) → List (Nat × Ar) → Bool
  | [], [] => true
  | (i, X) :: r, (j, x) :: s => Nat.beq i j && arOK X x && partsOK r s
  | _, _ => false
def arsOK : List Operand → List Ar → Bool
  | [], [] => true
  | X :: r, x :: s => arOK X x && arsOK r s
  | _, _ => false

/-- Does an operation of the program's say what a value operation says? -/
def vOK (P : Program) : Op → VOp → Bool
  | .move X, .move x => arOK X x
  | .assign X, .move x => arOK X x
  | .move X, .drop x => arOK X x
  | .assign X, .drop x => arOK X x
  | .pick C A B, .pick c a b => arOK C c && arOK A a && arOK B b
  | .binOp .add _ X Y _, .add x y => arOK X x && arOK Y y
  | .binOp .sub _ X Y _, .sub x y => arOK X x && arOK Y y
  | .binOp .mul _ X Y _, .mul x y => arOK X x && arOK Y y
  | .binOp .quo _ X Y _, .quo x y => arOK X x && arOK Y y
  | .binOp .rem _ X Y _, .rem x y => arOK X x && arOK Y y
  | .binOp o _ X Y _, .bit b x y => bitOp o b && arOK X x && arOK Y y
  | .binOp .shl _ X Y _, .shl x y => arOK X x && arOK Y y
  | .binOp .shr _ X Y _, .shr x y => arOK X x && arOK Y y
  | .binOp o _ X Y _, .cmp c x y => cmpOp o c && arOK X x && arOK Y y
  | .binOp o t X Y _, .eqT T neg x y => (match o with | .eql => !neg | .neq => neg | _ => false) && tyOK P t T && eqOK P t T && !(P.eqGuardType P.depth t) && Nat.ble (deep T) 9999 && arOK X x && arOK Y y
  | .unOp .not _ X, .not x => arOK X x
  | .unOp .neg _ X, .neg x => arOK X x
  | .convert src dst X, .conv k x => (P.underlying src).isSome && (match P.underlying dst with | some (.int j) => decide (j = k) | _ => false) && arOK X x
  | .convert src dst X, .convS b x => (match P.underlying dst, P.underlying src with | some .string, some (.slice e) => b && (match P.underlying e with | some (.int .u8) => true | _ => false) | some .string, some .string => !b | _, _ => false) && arOK X x
  | .extract X i, .ext x j => Nat.beq i j && arOK X x
  | .call c, .len s x => (match c.callee with | .builtin .len => true | _ => false) && (match c.args.toList, c.argTypes.toList with | [X], [t] => arOK X x && (match P.underlying t with | some .string => s | some (.slice _) => !s | _ => false) | _, _ => false)
  | .call c, .min x y => (match c.callee with | .builtin .min => true | _ => false) && (match c.args.toList with | [X, Y] => arOK X x && arOK Y y | _ => false)
  | .call c, .max x y => (match c.callee with | .builtin .max => true | _ => false) && (match c.args.toList with | [X, Y] => arOK X x && arOK Y y | _ => false)
  | .fieldAddr s X i, .fadr T j x => Nat.beq i j && arOK X x && tyOK P s T && (match T with | .st ts => Nat.blt 0 (ts.getD i .op).size | _ => false)
  | .indexAddr t X I, .iadr n e x i => arOK X x && arOK I i && Nat.blt 0 e.size && (match n with | none => tyOK P t (.sl e) | some n => tyOK P t (.arr n e))
  | .slice t X lo hi mx, .slice e x l h m => arOK X x && optOK lo l && optOK hi h && optOK mx m && tyOK P t (.sl e)
  | .slice t X none (some Hi) none, .slc e x h => arOK X x && arOK Hi h && tyOK P t (.sl e)
  | .slice t X lo hi mx, .sliceS x l h => arOK X x && optOK lo l && optOK hi h && mx.isNone && (match P.underlying t with | some .string => true | _ => false)
  | .slice t X lo hi mx, .sliceA n e x l h => arOK X x && optOK lo l && optOK hi h && mx.isNone && tyOK P t (.arr n e) && Nat.ble n maxLen
  | .load t X, .loadC T x => tyOK P t T && arOK X x
  | .build t ps, .build T qs => tyOK P t T && zeroOK P t T && zokA T && partsOK ps.toList qs
  | .makeFunc (.func f) first caps, .mkfn g cs => Nat.beq f g && first.isEmpty && arsOK caps.toList cs
  | .nilCheck X, .nilck x => arOK X x
  | .sliceToArrayPointer t X, .sarr n e x => tyOK P t (.arr n e) && arOK X x
  | .index t X I, .sidx x i => arOK X x && arOK I i && (match P.underlying t with | some .string => true | _ => false)
  | .index t X I, .aidx n e x i => arOK X x && arOK I i && tyOK P t (.arr n e)
  | .field t X i, .fieldv T j x => Nat.beq i j && arOK X x && tyOK P t T
  | _, _ => false

section
variable {P : Program} {w : World} {S : Nat → Nat → Prop} {mu : Mu} {H : Heap} {env : Env} {a : Act}

/-- What a value operation comes to in the model. -/
def Gives (P : Program) (w : World) (S : Nat → Nat → Prop) (mu : Mu) (H : Heap) (o : Oper) (a : Act) (av : AV) : Prop :=
  ∃ v, (execOp a.eval o).run P w = .ok (.value v) w ∧ RelV w S mu H av v

theorem gives_mk {o : Oper} {av : AV} {v : Value} (h : (execOp a.eval o).run P w = .ok (.value v) w) (hr : RelV w S mu H av v) : Gives P w S mu H o a av := ⟨v, h, hr⟩

theorem run_guard_num (op : BinOp) (t : TypeId) (x y : Operand) (u v : Value) (h1 : ∀ cs, u ≠ .agg cs) (h2 : u ≠ .nilIface) : (eqGuard op t x y u v).run P w = .ok () w := by
  unfold eqGuard
  cases op <;> first | rfl | skip
  all_goals (cases u <;> first | rfl | exact absurd rfl (h1 _) | exact absurd rfl h2)

theorem vs_move (hE : RelE w S mu H env a) {o : Oper} {x : Ar} (hm : vOK P o.op (.move x) = true) : Gives P w S mu H o a (x.ev env) := by
  cases ho : o.op <;> simp [ho, vOK] at hm
  all_goals exact gives_mk (by simp [execOp, ho]) (arOK_rel hE hm)

theorem noTok_rel {v : AV} {u : Value} (h : RelV w S mu H v u) : RelV w S mu H (noTok v) u := by
  cases v with
  | sl e xs t =>
    simp only [RelV, RelA] at h
    obtain ⟨a, n, c, h1, h2, _⟩ := h
    simp only [noTok, RelV, RelA]
    exact ⟨a, n, c, h1, h2, trivial⟩
  | _ => exact h
theorem vs_drop (hE : RelE w S mu H env a) {o : Oper} {x : Ar} (hm : vOK P o.op (.drop x) = true) : Gives P w S mu H o a (noTok (x.ev env)) := by
  cases ho : o.op <;> simp [ho, vOK] at hm
  all_goals exact gives_mk (by simp [execOp, ho]) (noTok_rel (arOK_rel hE hm))
theorem unk_rel {v : AV} {u : Value} (h : RelV w S mu H v u) : RelV w S mu H (unk v) u := by
  cases v with
  | tup vs =>
    cases vs with
    | nil => simp only [unk, RelV]
    | cons => exact h
  | _ => exact h
theorem vs_pick (hE : RelE w S mu H env a) {o : Oper} {c x y : Ar} {av : AV} (hm : vOK P o.op (.pick c x y) = true)
    (hv : vop (.pick c x y) env = .ok av ∨ ∃ C : Prop, vop (.pick c x y) env = .iff C av ∧ C) : Gives P w S mu H o a av := by
  cases ho : o.op <;> simp [ho, vOK] at hm
  rename_i C A B
  obtain ⟨⟨h1, h2⟩, h3⟩ := hm
  have r1 := arOK_rel hE h1
  have r2 := unk_rel (arOK_rel hE h2)
  have r3 := unk_rel (arOK_rel hE h3)
  cases hc : c.ev env with
  | bool cb =>
    rw [hc] at r1
    have e1 := r1.bool
    have hrun : (execOp a.eval o).run P w = .ok (.value (if cb then a.eval A else a.eval B)) w := by
      simp [execOp, ho, e1, asBool]
    simp only [vop, hc] at hv
    split at hv
    · rename_i p q hp hq
      rcases hv with hv | ⟨C, hv, _⟩
      · injection hv with hv
        subst hv
        rw [hp] at r2; rw [hq] at r3
        refine gives_mk hrun ?_
        rw [r2.bool, r3.bool]
        cases cb <;> exact relv_bool _
      · cases hv
    · rename_i b hb
      rcases hv with hv | ⟨C, hv, hC⟩
      · cases hv
      · injection hv with e f
        subst e; subst f
        subst hC
        exact gives_mk hrun r3
    · rcases hv with hv | ⟨C, hv, hC⟩
      · cases hv
      · injection hv with e f
        subst e; subst f
        subst hC
        exact gives_mk hrun r2
    · rcases hv with hv | ⟨_, hv, _⟩ <;> cases hv
  | _ => simp only [vop, hc] at hv; rcases hv with hv | ⟨_, hv, _⟩ <;> cases hv

/-- 'vop' gives it. -/
def VGives (vo : VOp) (env : Env) (av : AV) : Prop := vop vo env = .ok av ∨ ∃ C : Prop, vop vo env = .iff C av ∧ C
theorem VGives.ok {vo : VOp} {env : Env} {av av' : AV} (h : VGives vo env av) (e : vop vo env = .ok av') : av = av' := by
  rcases h with h | ⟨_, h, _⟩
  · rw [e] at h; injection h with h; exact h.symm
  · rw [e] at h; cases h
theorem VGives.iff {vo : VOp} {env : Env} {av av' : AV} {C : Prop} (h : VGives vo env av) (e : vop vo env = .iff C av') : av = av' ∧ C := by
  rcases h with h | ⟨_, h, hc⟩
  · rw [e] at h; cases h
  · rw [e] at h; injection h with h1 h2; subst h1; exact ⟨h2.symm, hc⟩
theorem VGives.bad {vo : VOp} {env : Env} {av : AV} (h : VGives vo env av) (e : vop vo env = .bad) : False := by
  rcases h with h | ⟨_, h, _⟩ <;> (rw [e] at h; cases h)

theorem run_bin {o : Oper} {op : BinOp} {t yt : TypeId} {X Y : Operand} (ho : o.op = .binOp op t X Y yt) {k j : IntKind} {m n : Int} (hx : a.eval X = .int k m) (hy : a.eval Y = .int j n) :
    (execOp a.eval o).run P w = ((binOp op t (.int k m) (.int j n)).run P w).andThen fun v w' => .ok (.value v) w' := by
  simp [execOp, ho, hx, hy, run_guard_num]

theorem vs_arith (hE : RelE w S mu H env a) {o : Oper} {op : BinOp} {t yt : TypeId} {X Y : Operand} {x y : Ar} (ho : o.op = .binOp op t X Y yt) (h1 : arOK X x = true) (h2 : arOK Y y = true)
    {k j : IntKind} {m n : Int} (hx : x.ev env = .int k m) (hy : y.ev env = .int j n) {av : AV} {v : Value} (hrun : (binOp op t (.int k m) (.int j n)).run P w = .ok v w) (hr : RelV w S mu H av v) : Gives P w S mu H o a av := by
  have r1 := arOK_rel hE h1
  have r2 := arOK_rel hE h2
  rw [hx] at r1; rw [hy] at r2
  exact gives_mk (by rw [run_bin ho r1.int.1 r2.int.1, hrun]; rfl) hr

theorem vs_addsubmul (hE : RelE w S mu H env a) {o : Oper} {x y : Ar} {av : AV} {vo : VOp} (hm : vOK P o.op vo = true) (hv : VGives vo env av) (hvo : vo = .sub x y ∨ vo = .mul x y) : Gives P w S mu H o a av := by
  rcases hvo with rfl | rfl
  all_goals
    cases ho : o.op <;> simp [ho, vOK] at hm
    rename_i op t X Y yt
    cases op <;> simp [vOK] at hm
    obtain ⟨h1, h2⟩ := hm
    cases hx : x.ev env <;> first | (refine (hv.bad ?_).elim; simp [vop, hx]; done) | skip
    cases hy : y.ev env <;> first | (refine (hv.bad ?_).elim; simp [vop, hx, hy]; done) | skip
    rename_i k m j n
    by_cases hk : k = j
    · subst hk
      have := hv.ok (by simp [vop, hx, hy] <;> rfl)
      subst this
      exact vs_arith hE ho h1 h2 hx hy (by simp [binOp, Op.intArith] <;> rfl) (relv_int (has_wrap _ _))
    · exact (hv.bad (by simp [vop, hx, hy, hk])).elim

theorem size_append (x y : ByteArray) : (x ++ y).size = x.size + y.size := by simp

theorem vs_add (hE : RelE w S mu H env a) {o : Oper} {x y : Ar} {av : AV} (hm : vOK P o.op (.add x y) = true) (hv : VGives (.add x y) env av) : Gives P w S mu H o a av := by
  cases ho : o.op <;> simp [ho, vOK] at hm
  rename_i op t X Y yt
  cases op <;> simp [vOK] at hm
  obtain ⟨h1, h2⟩ := hm
  cases hx : x.ev env <;> first | (refine (hv.bad ?_).elim; simp [vop, hx]; done) | skip
  · cases hy : y.ev env <;> first | (refine (hv.bad ?_).elim; simp [vop, hx, hy]; done) | skip
    rename_i k m j n
    by_cases hk : k = j
    · subst hk
      have := hv.ok (by simp [vop, hx, hy] <;> rfl)
      subst this
      exact vs_arith hE ho h1 h2 hx hy (by simp [binOp, Op.intArith] <;> rfl) (relv_int (has_wrap _ _))
    · exact (hv.bad (by simp [vop, hx, hy, hk])).elim
  · cases hy : y.ev env <;> first | (refine (hv.bad ?_).elim; simp [vop, hx, hy]; done) | skip
    rename_i p q
    obtain ⟨e1, e2⟩ := hv.iff (by simp only [vop, hx, hy, decide_true, cond_true] <;> rfl)
    subst e1
    have r1 := arOK_rel hE h1
    have r2 := arOK_rel hE h2
    rw [hx] at r1; rw [hy] at r2
    refine gives_mk (v := .string (p ++ q)) ?_ (relv_str (by rw [size_append]; simpa [maxLen] using e2))
    have hn : ¬ ((p.size : Int) + (q.size : Int) > IntKind.i64.max) := by
      have : IntKind.i64.max = 9223372036854775807 := by decide
      omega
    simp [execOp, ho, r1.str.1, r2.str.1, run_guard_num, binOp, Op.stringOp, hn]
    omega

theorem vs_quorem (hE : RelE w S mu H env a) {o : Oper} {x y : Ar} {av : AV} {vo : VOp} (hm : vOK P o.op vo = true) (hv : VGives vo env av) (hvo : vo = .quo x y ∨ vo = .rem x y) : Gives P w S mu H o a av := by
  rcases hvo with rfl | rfl
  all_goals
    cases ho : o.op <;> simp [ho, vOK] at hm
    rename_i op t X Y yt
    cases op <;> simp [vOK] at hm
    obtain ⟨h1, h2⟩ := hm
    cases hx : x.ev env <;> first | (refine (hv.bad ?_).elim; simp [vop, hx]; done) | skip
    cases hy : y.ev env <;> first | (refine (hv.bad ?_).elim; simp [vop, hx, hy]; done) | skip
    rename_i k m j n
    by_cases hk : k = j
    · subst hk
      obtain ⟨e1, e2⟩ := hv.iff (by simp only [vop, hx, hy, decide_true, cond_true] <;> rfl)
      subst e1
      have r1 := arOK_rel hE h1
      rw [hx] at r1
      refine vs_arith hE ho h1 h2 hx hy (by simp [binOp, Op.intDiv, e2] <;> rfl) ?_
      first | exact relv_int (has_wrap _ _) | exact relv_int (has_tmod r1.int.2 e2)
    · exact (hv.bad (by simp [vop, hx, hy, hk])).elim

theorem vs_bit (hE : RelE w S mu H env a) {o : Oper} {x y : Ar} {b : Bit} {av : AV} (hm : vOK P o.op (.bit b x y) = true) (hv : VGives (.bit b x y) env av) : Gives P w S mu H o a av := by
  cases ho : o.op <;> simp [ho, vOK] at hm
  rename_i op t X Y yt
  have hm' : bitOp op b = true ∧ arOK X x = true ∧ arOK Y y = true := by
    cases op <;> cases b <;> simp [vOK, bitOp] at hm ⊢ <;> exact hm
  obtain ⟨hb, h1, h2⟩ := hm'
  cases hx : x.ev env <;> first | (refine (hv.bad ?_).elim; simp [vop, hx]; done) | skip
  cases hy : y.ev env <;> first | (refine (hv.bad ?_).elim; simp [vop, hx, hy]; done) | skip
  rename_i k m j n
  by_cases hk : k = j
  · subst hk
    have := hv.ok (by simp [vop, hx, hy] <;> rfl)
    subst this
    refine vs_arith hE ho h1 h2 hx hy (v := .int k (bitI b k m n)) ?_ (relv_int (has_bit _ _ _ _))
    cases op <;> cases b <;> simp [bitOp] at hb <;> simp [binOp, Op.intBits, bitI]
  · exact (hv.bad (by simp [vop, hx, hy, hk])).elim

theorem vs_shl (hE : RelE w S mu H env a) {o : Oper} {x y : Ar} {av : AV} (hm : vOK P o.op (.shl x y) = true) (hv : VGives (.shl x y) env av) : Gives P w S mu H o a av := by
  cases ho : o.op <;> simp [ho, vOK] at hm
  rename_i op t X Y yt
  cases op <;> simp [vOK] at hm
  obtain ⟨h1, h2⟩ := hm
  cases hx : x.ev env <;> first | (refine (hv.bad ?_).elim; simp [vop, hx]; done) | skip
  cases hy : y.ev env <;> first | (refine (hv.bad ?_).elim; simp [vop, hx, hy]; done) | skip
  rename_i k m j n
  obtain ⟨e1, e2⟩ := hv.iff (by simp only [vop, hx, hy, decide_true, cond_true] <;> rfl)
  subst e1
  refine vs_arith hE ho h1 h2 hx hy (v := .int k (k.wrap (m * 2 ^ (Nat.min n.toNat k.bits)))) ?_ (relv_int (has_wrap _ _))
  have : ¬ n < 0 := by omega
  simp [binOp, Op.shift, this] <;> rfl

theorem vs_shr (hE : RelE w S mu H env a) {o : Oper} {x y : Ar} {av : AV} (hm : vOK P o.op (.shr x y) = true) (hv : VGives (.shr x y) env av) : Gives P w S mu H o a av := by
  cases ho : o.op <;> simp [ho, vOK] at hm
  rename_i op t X Y yt
  cases op <;> simp [vOK] at hm
  obtain ⟨h1, h2⟩ := hm
  cases hx : x.ev env <;> first | (refine (hv.bad ?_).elim; simp [vop, hx]; done) | skip
  cases hy : y.ev env <;> first | (refine (hv.bad ?_).elim; simp [vop, hx, hy]; done) | skip
  rename_i k m j n
  obtain ⟨e1, e2⟩ := hv.iff (by simp only [vop, hx, hy, decide_true, cond_true] <;> rfl)
  subst e1
  have r1 := arOK_rel hE h1
  rw [hx] at r1
  refine vs_arith hE ho h1 h2 hx hy (v := .int k (m.fdiv (2 ^ (Nat.min n.toNat k.bits)))) ?_ (relv_int (has_shr r1.int.2 _))
  have : ¬ n < 0 := by omega
  simp [binOp, Op.shift, this] <;> rfl

theorem vs_cmp (hE : RelE w S mu H env a) {o : Oper} {x y : Ar} {c : Cmp} {av : AV} (hm : vOK P o.op (.cmp c x y) = true) (hv : VGives (.cmp c x y) env av) : Gives P w S mu H o a av := by
  cases ho : o.op <;> simp [ho, vOK] at hm
  rename_i op t X Y yt
  have hm' : cmpOp op c = true ∧ arOK X x = true ∧ arOK Y y = true := by
    cases op <;> cases c <;> simp [vOK, cmpOp] at hm ⊢ <;> exact hm
  obtain ⟨hb, h1, h2⟩ := hm'
  cases hx : x.ev env <;> first | (refine (hv.bad ?_).elim; simp [vop, hx]; done) | skip
  cases hy : y.ev env <;> first | (refine (hv.bad ?_).elim; simp [vop, hx, hy]; done) | skip
  rename_i k m j n
  by_cases hk : k = j
  · subst hk
    have := hv.ok (by simp [vop, hx, hy] <;> rfl)
    subst this
    refine vs_arith hE ho h1 h2 hx hy (v := .bool (cmpI c m n)) ?_ (relv_bool _)
    cases op <;> cases c <;> simp [cmpOp] at hb <;> simp [binOp, Op.intCmp, cmpI] <;> rfl
  · exact (hv.bad (by simp [vop, hx, hy, hk])).elim

theorem vs_not (hE : RelE w S mu H env a) {o : Oper} {x : Ar} {av : AV} (hm : vOK P o.op (.not x) = true) (hv : VGives (.not x) env av) : Gives P w S mu H o a av := by
  cases ho : o.op <;> simp [ho, vOK] at hm
  rename_i op t X
  cases op <;> simp [vOK] at hm
  cases hx : x.ev env <;> first | (refine (hv.bad ?_).elim; simp [vop, hx]; done) | skip
  have := hv.ok (by simp [vop, hx] <;> rfl)
  subst this
  have r1 := arOK_rel hE hm
  rw [hx] at r1
  exact gives_mk (by simp [execOp, ho, r1.bool, Op.unary] <;> rfl) (relv_bool _)

theorem vs_neg (hE : RelE w S mu H env a) {o : Oper} {x : Ar} {av : AV} (hm : vOK P o.op (.neg x) = true) (hv : VGives (.neg x) env av) : Gives P w S mu H o a av := by
  cases ho : o.op <;> simp [ho, vOK] at hm
  rename_i op t X
  cases op <;> simp [vOK] at hm
  cases hx : x.ev env <;> first | (refine (hv.bad ?_).elim; simp [vop, hx]; done) | skip
  have := hv.ok (by simp [vop, hx] <;> rfl)
  subst this
  have r1 := arOK_rel hE hm
  rw [hx] at r1
  exact gives_mk (by simp [execOp, ho, r1.int.1, Op.unary, Op.intArith] <;> rfl) (relv_int (has_wrap _ _))

theorem vs_conv (hE : RelE w S mu H env a) {o : Oper} {k : IntKind} {x : Ar} {av : AV} (hm : vOK P o.op (.conv k x) = true) (hv : VGives (.conv k x) env av) : Gives P w S mu H o a av := by
  cases ho : o.op <;> simp [ho, vOK] at hm
  rename_i src dst X
  obtain ⟨⟨h1, h2⟩, h3⟩ := hm
  cases hx : x.ev env <;> first | (refine (hv.bad ?_).elim; simp [vop, hx]; done) | skip
  have := hv.ok (by simp [vop, hx] <;> rfl)
  subst this
  have r1 := arOK_rel hE h3
  rw [hx] at r1
  cases hs : P.underlying src with
  | none => simp [hs] at h1
  | some ds =>
    cases hd : P.underlying dst with
    | none => simp [hd] at h2
    | some dd =>
      cases dd <;> simp [hd] at h2
      subst h2
      exact gives_mk (by simp [execOp, ho, r1.int.1, convert, run_underlying hs, run_underlying hd, Conv.intToInt] <;> rfl) (relv_int (has_wrap _ _))

theorem RelVs_get : ∀ {vs : List AV} {us : List Value} {i : Nat}, RelVs w S mu H vs us → i < vs.length → ∃ u, us[i]? = some u ∧ RelV w S mu H (vs.getD i .undef) u
  | [], _, _, _, h => by simp at h
  | v :: vs, us, i, hr, h => by
    simp only [RelVs] at hr
    obtain ⟨u, us', rfl, h1, h2⟩ := hr
    cases i with
    | zero => exact ⟨u, rfl, by simpa using h1⟩
    | succ i =>
      obtain ⟨u', k1, k2⟩ := RelVs_get h2 (by simpa using h)
      exact ⟨u', by simpa using k1, by simpa using k2⟩

theorem vs_ext (hE : RelE w S mu H env a) {o : Oper} {x : Ar} {i : Nat} {av : AV} (hm : vOK P o.op (.ext x i) = true) (hv : VGives (.ext x i) env av) : Gives P w S mu H o a av := by
  cases ho : o.op <;> simp [ho, vOK] at hm
  rename_i X i'
  obtain ⟨rfl, h1⟩ := hm
  cases hx : x.ev env <;> first | (refine (hv.bad ?_).elim; simp [vop, hx]; done) | skip
  rename_i vs
  by_cases hi : i' < vs.length
  · have hb : Nat.blt i' vs.length = true := by simpa using hi
    have := hv.ok (show vop (.ext x i') env = .ok (vs.getD i' .undef) by simp only [vop, hx, hb, cond_true])
    subst this
    have r1 := arOK_rel hE h1
    rw [hx] at r1
    obtain ⟨us, e1, e2⟩ := r1.tup
    obtain ⟨u, k1, k2⟩ := RelVs_get e2 hi
    refine gives_mk (v := u) ?_ k2
    have k1' : us[i']? = some u := by simpa using k1
    simp [execOp, ho, e1, Instr.extract, k1']
  · have hb : Nat.blt i' vs.length = false := by
      cases h : Nat.blt i' vs.length with
      | false => rfl
      | true => exact absurd (by simpa using h) hi
    refine (hv.bad ?_).elim
    simp only [vop, hx, hb, cond_false]

theorem vs_minmax (hE : RelE w S mu H env a) {o : Oper} {x y : Ar} {av : AV} {vo : VOp} (hm : vOK P o.op vo = true) (hv : VGives vo env av) (hvo : vo = .min x y ∨ vo = .max x y) : Gives P w S mu H o a av := by
  rcases hvo with rfl | rfl
  all_goals
    cases ho : o.op <;> simp [ho, vOK] at hm
    rename_i c
    obtain ⟨callee, args, ats⟩ := c
    cases callee <;> simp at hm
    rename_i b
    cases b <;> simp at hm
    split at hm <;> simp at hm
    rename_i X Y hargs
    obtain ⟨h1, h2⟩ := hm
    have hargs' : args = #[X, Y] := by rw [← Array.toList_inj]; simpa using hargs
    subst hargs'
    cases hx : x.ev env <;> first | (refine (hv.bad ?_).elim; simp [vop, hx]; done) | skip
    cases hy : y.ev env <;> first | (refine (hv.bad ?_).elim; simp [vop, hx, hy]; done) | skip
    rename_i k m j n
    by_cases hk : k = j
    · subst hk
      have := hv.ok (by simp [vop, hx, hy] <;> rfl)
      subst this
      have r1 := arOK_rel hE h1
      have r2 := arOK_rel hE h2
      rw [hx] at r1; rw [hy] at r2
      refine gives_mk (by simp [execOp, ho, resolve, invoke, builtin, Builtin.min_, Builtin.max_, Builtin.min2, Builtin.max2, r1.int.1, r2.int.1] <;> rfl) ?_
      split
      · exact relv_int (by first | exact r2.int.2 | exact r1.int.2)
      · exact relv_int (by first | exact r1.int.2 | exact r2.int.2)
    · exact (hv.bad (by simp [vop, hx, hy, hk])).elim

theorem has_len (n : Nat) (hn : n ≤ maxLen) : IntKind.i64.has (n : Int) := by
  simp [IntKind.has, IntKind.min, IntKind.max, IntKind.signed, IntKind.bits, maxLen] at hn ⊢; omega

theorem vs_len (hE : RelE w S mu H env a) {o : Oper} {x : Ar} {st : Bool} {av : AV} (hm : vOK P o.op (.len st x) = true) (hv : VGives (.len st x) env av) : Gives P w S mu H o a av := by
  cases ho : o.op <;> simp [ho, vOK] at hm
  rename_i c
  obtain ⟨callee, args, ats⟩ := c
  obtain ⟨hb, hm⟩ := hm
  cases callee <;> simp at hb
  rename_i b
  cases b <;> simp at hb
  simp only at hm
  split at hm <;> simp at hm
  rename_i X t hargs hats
  obtain ⟨h1, h2⟩ := hm
  have hargs' : args = #[X] := by rw [← Array.toList_inj]; simpa using hargs
  have hats' : ats = #[t] := by rw [← Array.toList_inj]; simpa using hats
  subst hargs'
  subst hats'
  have r1 := arOK_rel hE h1
  cases hd : P.underlying t with
  | none => simp [hd] at h2
  | some d =>
    cases d <;> simp [hd] at h2
    · subst h2
      cases hx : x.ev env <;> first | (refine (hv.bad ?_).elim; simp [vop, hx]; done) | skip
      have := hv.ok (by simp [vop, hx] <;> rfl)
      subst this
      rw [hx] at r1
      exact gives_mk (by simp [execOp, ho, resolve, invoke, builtin, Builtin.len_, run_underlying hd, r1.str.1, goInt] <;> rfl) (relv_int (has_len _ r1.str.2))
    · subst h2
      cases hx : x.ev env <;> first | (refine (hv.bad ?_).elim; simp [vop, hx]; done) | skip
      · have := hv.ok (by simp [vop, hx] <;> rfl)
        subst this
        rw [hx] at r1
        obtain ⟨ad, n, c, e1, e2, e3⟩ := r1.sl
        have hl := e2.1
        subst hl
        exact gives_mk (by simp [execOp, ho, resolve, invoke, builtin, Builtin.len_, run_underlying hd, e1, goInt] <;> rfl) (relv_int (has_len _ (by have := e2.2.1; have := e2.2.2.1; omega)))
      · have := hv.ok (by simp [vop, hx] <;> rfl)
        subst this
        rw [hx] at r1
        obtain ⟨ad, c, e1, e2⟩ := r1.rsl
        simp only [RelA] at e2
        obtain ⟨_, _, e3, e4, e5, _⟩ := e2
        injection e3 with e3
        injection e3 with _ _ e6
        exact gives_mk (by simp [execOp, ho, resolve, invoke, builtin, Builtin.len_, run_underlying hd, e1, goInt] <;> rfl) (relv_int (has_len _ (by omega)))
end
end Go.Vc
