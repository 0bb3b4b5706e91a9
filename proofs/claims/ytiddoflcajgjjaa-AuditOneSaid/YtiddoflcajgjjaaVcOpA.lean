/- Operations that give a value out of values: the check against the program's own operation, and that it comes to what 'vop' says. Part A: operands, numbers, bools, strings. -/
import Derived.Test.YtiddoflcajgjjaaVcTy
set_option linter.unusedVariables false
set_option linter.unusedSimpArgs false
namespace Go.Vc

def constOK : Value → AV → Bool
  | .int k n, .int j m => decide (k = j) && decide (n = m) && decide (k.min ≤ n) && decide (n ≤ k.max)
  | .bool a, .bool b => a == b
  | .string a, .str b => decide (a.data.toList = b.data.toList) && decide (a.size ≤ maxLen)
  | .slice none 0 0, .sl _ [] .no => true
  | .slice none 0 0, .sl _ [] .full => true
  | .pointer none, .nilp => true
  | .nilFunc, .nilfn => true
  | _, _ => false
def arOK : Operand → Ar → Bool
  | .tmp n, .t m => Nat.beq n m
  | .const v, .k av => constOK v av
  | .func f, .k (.fn g []) => Nat.beq f g
  | _, _ => false

def RelE (w : World) (S : Nat → Nat → Prop) (mu : Mu) (H : Heap) (env : Env) (a : Act) : Prop := ∀ t, RelV w S mu H (get env t) (a.tmps.getD t undef)

section
variable {P : Program} {w : World} {S : Nat → Nat → Prop} {mu : Mu} {H : Heap} {env : Env} {a : Act}

theorem constOK_rel {v : Value} {av : AV} (h : constOK v av = true) : RelV w S mu H av v := by
  unfold constOK at h
  split at h <;> simp at h
  · obtain ⟨⟨⟨rfl, rfl⟩, h1⟩, h2⟩ := h
    simp [RelV, RelA, IntKind.has, h1, h2]
  · subst h; simp [RelV, RelA]
  · rename_i x y
    obtain ⟨h1, h2⟩ := h
    have : x = y := by cases x; cases y; rename_i p q; cases p; cases q; simp at h1; rw [h1]
    subst this
    simp [RelV, RelA, h2]
  · simp only [RelV, RelA]
    exact ⟨none, 0, 0, rfl, ⟨rfl, Nat.le_refl _, by simp [maxLen], fun j x hj => by simp at hj⟩, trivial⟩
  · simp only [RelV, RelA]
    exact ⟨none, 0, 0, rfl, ⟨rfl, Nat.le_refl _, by simp [maxLen], fun j x hj => by simp at hj⟩, rfl⟩
  · simp [RelV, RelA]
  · simp [RelV, RelA]

theorem arOK_rel (hE : RelE w S mu H env a) {X : Operand} {x : Ar} (h : arOK X x = true) : RelV w S mu H (x.ev env) (a.eval X) := by
  unfold arOK at h
  split at h
  · simp at h; subst h; exact hE _
  · exact constOK_rel h
  · simp at h; subst h
    simp only [Ar.ev, Act.eval, RelV, RelA]
    exact ⟨#[], rfl, by simp [RelC]⟩
  · cases h

/-! ### What a value's form says -/
theorem RelV.int {k : IntKind} {n : Int} {v : Value} (h : RelV w S mu H (.int k n) v) : v = .int k n ∧ k.has n := by
  simp only [RelV, RelA] at h
  obtain ⟨h, hk⟩ := h
  injection h with h
  exact ⟨h, hk⟩
theorem RelV.bool {b : Bool} {v : Value} (h : RelV w S mu H (.bool b) v) : v = .bool b := by
  simp only [RelV, RelA] at h
  injection h with h
theorem RelV.str {s : ByteArray} {v : Value} (h : RelV w S mu H (.str s) v) : v = .string s ∧ s.size ≤ maxLen := by
  simp only [RelV, RelA] at h
  obtain ⟨h, hk⟩ := h
  injection h with h
  exact ⟨h, hk⟩
theorem RelV.sl {e : Ty} {xs : List D} {t : Tok} {v : Value} (h : RelV w S mu H (.sl e xs t) v) : ∃ a n c, v = .slice a n c ∧ RelS w S e.size (RelD w S e) a n c xs ∧ RelT w mu H e a n c t := by
  simp only [RelV, RelA] at h
  obtain ⟨a, n, c, h, h1⟩ := h
  injection h with h
  exact ⟨a, n, c, h, h1⟩
theorem RelV.st {vs : List AV} {v : Value} (h : RelV w S mu H (.st vs) v) : ∃ cs, v = .agg cs ∧ RelAs w S mu H vs cs.toList := by
  simpa only [RelV, RelA] using h
theorem RelV.arr {n : Nat} {e : Ty} {xs : List D} {v : Value} (h : RelV w S mu H (.arr n e xs) v) : ∃ cs, v = .agg cs ∧ xs.length = n ∧ RelL e.size (RelD w S e) cs.toList xs := by
  simpa only [RelV, RelA] using h
theorem RelV.ptr {id : Nat} {p : List PStep} {t : Ty} {v : Value} (h : RelV w S mu H (.ptr id p t) v) : ∃ b o, v = .pointer (some ⟨b, o, none⟩) ∧ ∃ blk, H[id]? = some blk ∧ blk.used = true ∧
      ((∃ t v fz, blk = .var t v fz) ∨ (∃ e xs fz, blk = .fix e xs fz) → mu id = some b ∧ blk.place p = some o ∧ blk.ty p = t) := by
  simp only [RelV, RelA] at h
  obtain ⟨b, o, h, h1⟩ := h
  injection h with h
  exact ⟨b, o, h, h1⟩
theorem RelV.cptr {t : Ty} {d : D} {v : Value} (h : RelV w S mu H (.cptr t d) v) : ∃ b o, v = .pointer (some ⟨b, o, none⟩) ∧ ∃ cells, Lies w S b o cells ∧ RelD w S t cells d := by
  simp only [RelV, RelA] at h
  obtain ⟨b, o, h, h1⟩ := h
  injection h with h
  exact ⟨b, o, h, h1⟩
theorem RelV.nilp {v : Value} (h : RelV w S mu H .nilp v) : v = .pointer none := by
  simp only [RelV, RelA] at h
  injection h with h
theorem RelV.tup {vs : List AV} {v : Value} (h : RelV w S mu H (.tup vs) v) : ∃ us, v = .tuple us ∧ RelVs w S mu H vs us.toList := by
  simpa only [RelV] using h
theorem RelV.rsl {id : Nat} {e : Ty} {off len : Nat} {v : Value} (h : RelV w S mu H (.rsl id e off len) v) : ∃ a c, v = .slice a len c ∧ RelA w S mu H (.rsl id e off len) [.slice a len c] := by
  simp only [RelV] at h
  have h' := h
  simp only [RelA] at h'
  obtain ⟨a, c, h', _⟩ := h'
  injection h' with h'
  subst h'
  exact ⟨a, c, rfl, h⟩
theorem RelV.fn {f : FuncId} {caps : List AV} {v : Value} (h : RelV w S mu H (.fn f caps) v) : ∃ vs, v = .func (.func f) #[] vs ∧ RelC w S mu H caps vs.toList := by
  simp only [RelV, RelA] at h
  obtain ⟨vs, h, h1⟩ := h
  injection h with h
  exact ⟨vs, h, h1⟩

theorem relv_int {k : IntKind} {n : Int} (h : k.has n) : RelV w S mu H (.int k n) (.int k n) := by simp [RelV, RelA, h]
theorem relv_bool (b : Bool) : RelV w S mu H (.bool b) (.bool b) := by simp [RelV, RelA]
theorem relv_str {s : ByteArray} (h : s.size ≤ maxLen) : RelV w S mu H (.str s) (.string s) := by simp [RelV, RelA, h]

theorem has_wrap (k : IntKind) (n : Int) : k.has (k.wrap n) := by
  cases k <;> simp only [IntKind.has, IntKind.min, IntKind.max, IntKind.wrap, IntKind.signed, IntKind.bits] <;> simp <;> (try split) <;> omega
theorem has_bit (o : Bit) (k : IntKind) (x y : Int) : k.has (bitI o k x y) := by
  cases o <;> exact has_wrap _ _
theorem has_tmod {k : IntKind} {a b : Int} (ha : k.has a) (hb : b ≠ 0) : k.has (a.tmod b) := by
  have h1 : 0 ≤ a → 0 ≤ a.tmod b ∧ a.tmod b ≤ a := fun h => ⟨Int.tmod_nonneg b h, by
    have := Int.tmod_add_mul_tdiv a b
    have hq : 0 ≤ b * a.tdiv b := by
      rw [Int.mul_comm]
      rcases Int.lt_trichotomy b 0 with hb' | hb' | hb'
      · have := Int.tdiv_nonpos_of_nonneg_of_nonpos h (Int.le_of_lt hb')
        exact Int.mul_nonneg_of_nonpos_of_nonpos this (Int.le_of_lt hb')
      · exact absurd hb' hb
      · exact Int.mul_nonneg (Int.tdiv_nonneg h (Int.le_of_lt hb')) (Int.le_of_lt hb')
    omega⟩
  have h2 : a ≤ 0 → a.tmod b ≤ 0 ∧ a ≤ a.tmod b := fun h => by
    have := Int.tmod_add_mul_tdiv a b
    have h3 := Int.tmod_nonneg b (show 0 ≤ -a by omega)
    rw [Int.neg_tmod] at h3
    refine ⟨by omega, ?_⟩
    have h4 := Int.tmod_add_mul_tdiv (-a) b
    have hq : 0 ≤ b * (-a).tdiv b := by
      rw [Int.mul_comm]
      rcases Int.lt_trichotomy b 0 with hb' | hb' | hb'
      · have := Int.tdiv_nonpos_of_nonneg_of_nonpos (show 0 ≤ -a by omega) (Int.le_of_lt hb')
        exact Int.mul_nonneg_of_nonpos_of_nonpos this (Int.le_of_lt hb')
      · exact absurd hb' hb
      · exact Int.mul_nonneg (Int.tdiv_nonneg (show 0 ≤ -a by omega) (Int.le_of_lt hb')) (Int.le_of_lt hb')
    rw [Int.neg_tmod] at h4
    omega
  cases k <;> simp only [IntKind.has, IntKind.min, IntKind.max, IntKind.signed, IntKind.bits] at ha ⊢ <;> simp at ha ⊢ <;> (rcases Int.le_total 0 a with h | h <;> first | (have := h1 h; omega) | (have := h2 h; omega))
theorem has_shr {k : IntKind} {a : Int} (ha : k.has a) (n : Nat) : k.has (a.fdiv (2 ^ n)) := by
  have hp : (0 : Int) < 2 ^ n := by exact Int.pow_pos (by decide)
  have he : a.fdiv (2 ^ n) = a / (2 ^ n) := by rw [Int.fdiv_eq_ediv_of_nonneg _ (Int.le_of_lt hp)]
  rw [he]
  have hp1 : (1 : Int) ≤ 2 ^ n := hp
  have h1 : 0 ≤ a → 0 ≤ a / 2 ^ n ∧ a / 2 ^ n ≤ a := fun h => ⟨Int.ediv_nonneg h (Int.le_of_lt hp), Int.ediv_le_self _ h⟩
  have h2 : a < 0 → a ≤ a / 2 ^ n ∧ a / 2 ^ n < 0 := fun h => ⟨by
    refine Int.le_ediv_of_mul_le hp ?_
    have := Int.mul_le_mul_of_nonpos_left (Int.le_of_lt h) hp1
    omega, Int.ediv_neg_of_neg_of_pos h hp⟩
  cases k <;> simp only [IntKind.has, IntKind.min, IntKind.max, IntKind.signed, IntKind.bits] at ha ⊢ <;> simp at ha ⊢ <;> (rcases Int.lt_or_le a 0 with h | h <;> first | (have := h1 h; omega) | (have := h2 h; omega) | omega)
end
end Go.Vc
