/- Types of a program, resolved: what the check asks, and what follows for the model's own steps. -/
import Derived.Test.YtiddoflcajgjjaaVcRel
import Derived.WalkKit
set_option linter.unusedVariables false
set_option linter.unusedSimpArgs false
namespace Go.Vc

def sizeOK (P : Program) (t : TypeId) (n : Nat) : Bool := match P.info? t with
  | some i => Nat.beq i.size n
  | none => false

mutual
def tyOK (P : Program) : TypeId → Ty → Bool
  | t, .int k => sizeOK P t 1 && (match P.underlying t with | some (.int j) => decide (j = k) | _ => false)
  | t, .bool => sizeOK P t 1 && (match P.underlying t with | some .bool => true | _ => false)
  | t, .str => sizeOK P t 1 && (match P.underlying t with | some .string => true | _ => false)
  | t, .sl e => sizeOK P t 1 && (match P.underlying t with | some (.slice te) => tyOK P te e | _ => false)
  | t, .st ts => sizeOK P t (Ty.sizes ts) && (match P.underlying t with | some (.struct fs) => tyOKs P fs.toList ts 0 | _ => false)
  | t, .arr n e => sizeOK P t (n * e.size) && (match P.underlying t with | some (.array m te) => Nat.beq m n && tyOK P te e | _ => false)
  | t, .ptr => sizeOK P t 1 && (match P.underlying t with | some (.pointer _) => true | _ => false)
  | t, .fn => sizeOK P t 1 && (match P.underlying t with | some (.func ..) => true | _ => false)
  | _, .op => false
def tyOKs (P : Program) : List Field → List Ty → Nat → Bool
  | [], [], _ => true
  | f :: fs, t :: ts, off => Nat.beq f.offset off && !(f.name == "_") && tyOK P f.type t && tyOKs P fs ts (off + t.size)
  | _, _, _ => false
end

variable {P : Program}

theorem sizeOK_run {t : TypeId} {n : Nat} (h : sizeOK P t n = true) (w : World) : (sizeOf t).run P w = .ok n w := by
  unfold sizeOK at h
  cases hi : P.info? t with
  | none => simp [hi] at h
  | some i =>
    simp [hi] at h
    rw [run_sizeOf w hi]
    simp [Program.cellsOf, hi, h]

theorem tyOK_size {t : TypeId} {T : Ty} (h : tyOK P t T = true) (w : World) : (sizeOf t).run P w = .ok T.size w := by
  cases T <;> simp only [tyOK, Bool.and_eq_true] at h <;> first | exact sizeOK_run h.1 w | (simp at h)

/-- Is it a struct or an array? -/
def Ty.isAgg : Ty → Bool
  | .st _ => true | .arr .. => true | _ => false

def Und (P : Program) : Ty → TypeDesc → Prop
  | .int k, d => d = .int k
  | .bool, d => d = .bool
  | .str, d => d = .string
  | .sl e, d => ∃ te, d = .slice te ∧ tyOK P te e = true
  | .st ts, d => ∃ fs, d = .struct fs ∧ tyOKs P fs.toList ts 0 = true
  | .arr n e, d => ∃ te, d = .array n te ∧ tyOK P te e = true
  | .ptr, d => ∃ e, d = .pointer e
  | .fn, d => ∃ a b c, d = .func a b c
  | .op, _ => False
theorem tyOK_und {t : TypeId} {T : Ty} (h : tyOK P t T = true) : ∃ d, P.underlying t = some d ∧ Und P T d := by
  cases T <;> simp only [tyOK, Bool.and_eq_true] at h
  case op => cases h
  all_goals
    obtain ⟨_, h⟩ := h
    cases hd : P.underlying t with
    | none => simp [hd] at h
    | some d =>
      refine ⟨d, rfl, ?_⟩
      simp only [hd] at h
      cases d <;> simp at h <;> first
        | (subst h; rfl; done)
        | (exact rfl)
        | (exact ⟨_, rfl, h⟩)
        | (obtain ⟨rfl, h⟩ := h; exact ⟨_, rfl, h⟩)
        | (exact ⟨_, rfl⟩)
        | (exact ⟨_, _, _, rfl⟩)

theorem tyOK_isAgg {t : TypeId} {T : Ty} (h : tyOK P t T = true) (w : World) : (isAgg t).run P w = .ok T.isAgg w := by
  obtain ⟨d, hd, hT⟩ := tyOK_und h
  have hu := run_underlying hd w
  cases T <;> simp only [Ty.isAgg] <;> simp only [isAgg, Sem.run_bind, hu, Result.andThen_ok] <;> simp only [Und] at hT
  · subst hT; rfl
  · subst hT; rfl
  · subst hT; rfl
  · obtain ⟨_, rfl, _⟩ := hT; rfl
  · obtain ⟨_, rfl, _⟩ := hT; rfl
  · obtain ⟨_, rfl, _⟩ := hT; rfl
  · obtain ⟨_, rfl⟩ := hT; rfl
  · obtain ⟨_, _, _, rfl⟩ := hT; rfl

/-- A struct's fields: the i-th. -/
theorem tyOKs_get : ∀ {fs : List Field} {ts : List Ty} {off : Nat}, tyOKs P fs ts off = true → fs.length = ts.length ∧ ∀ i (h : i < ts.length), ∃ f, fs[i]? = some f ∧ f.offset = off + Ty.sizes (ts.take i) ∧ f.name ≠ "_" ∧ tyOK P f.type (ts.getD i .op) = true
  | [], [], _, _ => ⟨rfl, fun i h => by simp at h⟩
  | [], _ :: _, _, h => by simp [tyOKs] at h
  | _ :: _, [], _, h => by simp [tyOKs] at h
  | f :: fs, t :: ts, off, h => by
    simp [tyOKs] at h
    obtain ⟨⟨⟨h1, h2⟩, h3⟩, h4⟩ := h
    obtain ⟨g1, g2⟩ := tyOKs_get h4
    refine ⟨by simp [g1], fun i hi => ?_⟩
    cases i with
    | zero => exact ⟨f, rfl, by simp [Ty.sizes, h1], h2, by simpa using h3⟩
    | succ i =>
      obtain ⟨f', k1, k2, k3, k4⟩ := g2 i (by simpa using hi)
      exact ⟨f', by simpa using k1, by simp [Ty.sizes]; omega, k3, by simpa using k4⟩

/-! ### Zero values -/
mutual
def zcells : Ty → List Value
  | .int k => [.int k 0]
  | .bool => [.bool false]
  | .str => [.string ⟨#[]⟩]
  | .sl _ => [.slice none 0 0]
  | .st ts => zcellss ts
  | .arr n e => (List.replicate n (zcells e)).flatten
  | .ptr => [.pointer none]
  | .fn => [.nilFunc]
  | .op => []
def zcellss : List Ty → List Value
  | [] => []
  | t :: ts => zcells t ++ zcellss ts
end
def zEq1 : Value → Value → Bool
  | .int j a, .int k b => decide (j = k) && decide (a = b)
  | .bool a, .bool b => a == b
  | .string a, .string b => decide (a.data.toList = b.data.toList)
  | .slice none 0 0, .slice none 0 0 => true
  | .pointer none, .pointer none => true
  | .nilFunc, .nilFunc => true
  | _, _ => false
def zEq : List Value → List Value → Bool
  | [], [] => true
  | a :: as, b :: bs => zEq1 a b && zEq as bs
  | _, _ => false
theorem zEq1_eq {a b : Value} (h : zEq1 a b = true) : a = b := by
  unfold zEq1 at h
  split at h <;> simp at h <;> try rfl
  · obtain ⟨rfl, rfl⟩ := h; rfl
  · subst h; rfl
  · rename_i a b
    cases a; cases b
    rename_i x y
    cases x; cases y
    simp at h
    rw [h]
theorem zEq_eq : ∀ {as bs : List Value}, zEq as bs = true → as = bs
  | [], [], _ => rfl
  | [], _ :: _, h => by simp [zEq] at h
  | _ :: _, [], h => by simp [zEq] at h
  | a :: as, b :: bs, h => by simp [zEq] at h; rw [zEq1_eq h.1, zEq_eq h.2]

def zeroOK (P : Program) (t : TypeId) (T : Ty) : Bool := match P.info? t with
  | some i => (match i.zero with
    | some z => (match T.isAgg, z with
      | true, .agg cs => zEq cs.toList (zcells T)
      | false, .agg _ => false
      | false, v => zEq [v] (zcells T)
      | _, _ => false)
    | none => false)
  | none => false

theorem zeroOK_run {t : TypeId} {T : Ty} (h : zeroOK P t T = true) (w : World) : ∃ z, (zeroValue t).run P w = .ok z w ∧ z.cells.toList = zcells T ∧ (T.isAgg = true → ∃ cs, z = .agg cs) ∧ (T.isAgg = false → zcells T = [z]) := by
  unfold zeroOK at h
  cases hi : P.info? t with
  | none => simp [hi] at h
  | some i =>
    simp only [hi] at h
    cases hz : i.zero with
    | none => simp [hz] at h
    | some z =>
      simp only [hz] at h
      have hr : (zeroValue t).run P w = .ok z w := by
        simp only [zeroValue, Sem.run_bind, run_typeInfo w hi, Result.andThen_ok, hz, Sem.run_pure]
      refine ⟨z, hr, ?_⟩
      cases hT : T.isAgg with
      | true =>
        rw [hT] at h
        cases z <;> simp at h
        exact ⟨by simpa [Value.cells] using zEq_eq h, fun _ => ⟨_, rfl⟩, fun hh => by cases hh⟩
      | false =>
        rw [hT] at h
        cases z <;> simp at h <;> exact ⟨by rw [← zEq_eq h]; rfl, fun hh => by simp at hh, fun _ => (zEq_eq h).symm⟩

theorem has_zero (k : IntKind) : k.has 0 := by
  cases k <;> simp [IntKind.has, IntKind.min, IntKind.max, IntKind.signed, IntKind.bits]

mutual
/-- Data alone. -/
def zok : Ty → Bool
  | .st ts => zoks ts
  | .arr _ e => zok e
  | .ptr => false
  | .fn => false
  | .op => false
  | _ => true
def zoks : List Ty → Bool
  | [] => true
  | t :: ts => zok t && zoks ts
end

theorem zeroDs_get : ∀ (ts : List Ty) (j : Nat), j < ts.length → (zeroDs ts).getD j (.i 0) = zeroD (ts.getD j .op)
  | [], j, h => by simp at h
  | t :: ts, 0, _ => by simp [zeroDs]
  | t :: ts, j + 1, h => by simpa [zeroDs] using zeroDs_get ts j (by simpa using h)

section
variable {w : World} {S : Nat → Nat → Prop} {mu : Mu} {H : Heap}

theorem RelL_replicate {sz : Nat} {R : List Value → D → Prop} {cs : List Value} {d : D} (hl : cs.length = sz) (hr : R cs d) : ∀ n : Nat, RelL sz R (List.replicate n cs).flatten (List.replicate n d)
  | 0 => by simp [RelL]
  | n + 1 => by
    simp only [List.replicate_succ, List.flatten_cons, RelL]
    exact ⟨cs, _, rfl, hl, hr, RelL_replicate hl hr n⟩

mutual
theorem zeroD_rel : ∀ (T : Ty), zok T = true → RelD w S T (zcells T) (zeroD T)
  | .int k, _ => by simp [zeroD, RelD, zcells, D.int, has_zero]
  | .bool, _ => by simp [zeroD, RelD, zcells, D.bool]
  | .str, _ => by simp [zeroD, RelD, zcells, D.str, maxLen, ByteArray.size]
  | .sl e, _ => by
    simp only [zeroD, RelD, zcells, D.list]
    exact ⟨none, 0, 0, rfl, rfl, Nat.le_refl _, by simp [maxLen], fun j x h => by simp at h⟩
  | .ptr, h => by simp [zok] at h
  | .fn, h => by simp [zok] at h
  | .op, h => by simp [zok] at h
  | .st ts, h => by
    simp only [zeroD, RelD, zcells]
    exact zeroDs_rel ts 0 _ (by simpa [zok] using h) (fun j hj => by rw [Nat.zero_add]; exact zeroDs_get ts j hj)
  | .arr n e, h => by
    have he := zeroD_rel e (by simpa [zok] using h)
    simp only [zeroD, RelD, zcells, D.fs, List.length_replicate, true_and]
    exact RelL_replicate he.length he n
theorem zeroDs_rel : ∀ (ts : List Ty) (i : Nat) (d : D), zoks ts = true → (∀ j, j < ts.length → d.fld (i + j) = zeroD (ts.getD j .op)) → RelDs w S ts i (zcellss ts) d
  | [], _, _, _, _ => by simp [RelDs, zcellss]
  | t :: ts, i, d, h, hd => by
    simp [zoks] at h
    simp only [RelDs, zcellss]
    refine ⟨_, _, rfl, ?_, zeroDs_rel ts (i + 1) d h.2 (fun j hj => ?_)⟩
    · have := hd 0 (by simp)
      rw [Nat.add_zero] at this
      rw [this]
      exact zeroD_rel t h.1
    · rw [show i + 1 + j = i + (j + 1) by omega, hd (j + 1) (by simpa using hj)]
      simp
end

mutual
/-- Data, pointers and functions. -/
def zokA : Ty → Bool
  | .st ts => zokAs ts
  | .arr _ e => zok e
  | .op => false
  | _ => true
def zokAs : List Ty → Bool
  | [] => true
  | t :: ts => zokA t && zokAs ts
end

mutual
theorem zeroA_rel' : ∀ (T : Ty) (d : D), zokA T = true → d = zeroD T → RelA w S mu H (ofD T d) (zcells T)
  | .int k, d, _, e => by subst e; exact ofD_rel _ _ _ (zeroD_rel (.int k) rfl)
  | .bool, d, _, e => by subst e; exact ofD_rel _ _ _ (zeroD_rel .bool rfl)
  | .str, d, _, e => by subst e; exact ofD_rel _ _ _ (zeroD_rel .str rfl)
  | .sl f, d, _, e => by subst e; exact ofD_rel _ _ _ (zeroD_rel (.sl f) rfl)
  | .ptr, d, _, _ => by simp [ofD, RelA, zcells]
  | .fn, d, _, _ => by simp [ofD, RelA, zcells]
  | .op, d, h, _ => by simp [zokA] at h
  | .arr n f, d, h, e => by subst e; exact ofD_rel _ _ _ (zeroD_rel (.arr n f) (by simpa [zok, zokA] using h))
  | .st ts, d, h, e => by
    subst e
    simp only [zeroD, ofD, RelA, zcells]
    exact zeroAs_rel' ts 0 _ (by simpa [zokA] using h) (fun j hj => by rw [Nat.zero_add]; exact zeroDs_get ts j hj)
theorem zeroAs_rel' : ∀ (ts : List Ty) (i : Nat) (d : D), zokAs ts = true → (∀ j, j < ts.length → d.fld (i + j) = zeroD (ts.getD j .op)) → RelAs w S mu H (ofDs ts i d) (zcellss ts)
  | [], _, _, _, _ => by simp [RelAs, ofDs, zcellss]
  | t :: ts, i, d, h, hd => by
    simp [zokAs] at h
    simp only [RelAs, ofDs, zcellss]
    refine ⟨_, _, rfl, zeroA_rel' t _ h.1 ?_, zeroAs_rel' ts (i + 1) d h.2 (fun j hj => ?_)⟩
    · have := hd 0 (by simp)
      simpa using this
    · rw [show i + 1 + j = i + (j + 1) by omega, hd (j + 1) (by simpa using hj)]
      simp
end
theorem zeroA_rel (T : Ty) (h : zokA T = true) : RelA w S mu H (zeroA T) (zcells T) := zeroA_rel' T _ h rfl

mutual
theorem zeroA_fits : ∀ (T : Ty) (d : D), zokA T = true → fitsV (ofD T d) T = true
  | .int k, d, _ => by simp [ofD, fitsV]
  | .bool, d, _ => by simp [ofD, fitsV]
  | .str, d, _ => by simp [ofD, fitsV]
  | .sl f, d, _ => by simp [ofD, fitsV, same_refl]
  | .ptr, d, _ => by simp [ofD, fitsV]
  | .fn, d, _ => by simp [ofD, fitsV]
  | .op, d, h => by simp [zokA] at h
  | .arr n f, d, h => by simp [ofD, fitsV, same_refl]
  | .st ts, d, h => by simp only [ofD, fitsV]; exact zeroAs_fits ts 0 d (by simpa [zokA] using h)
theorem zeroAs_fits : ∀ (ts : List Ty) (i : Nat) (d : D), zokAs ts = true → fitsVs (ofDs ts i d) ts = true
  | [], _, _, _ => by simp [ofDs, fitsVs]
  | t :: ts, i, d, h => by
    simp [zokAs] at h
    simp [ofDs, fitsVs, zeroA_fits t _ h.1, zeroAs_fits ts (i + 1) d h.2]
end
end
end Go.Vc
