/- Numbers: wraps and bits. -/
import Derived.Test.YtgcakbnkeiajeaaVcStep
set_option linter.unusedVariables false
namespace Go.Vc

theorem w8 (n : Int) : IntKind.u8.wrap n = n % 256 := by simp [IntKind.wrap, IntKind.bits, IntKind.signed]
theorem w16 (n : Int) : IntKind.u16.wrap n = n % 65536 := by simp [IntKind.wrap, IntKind.bits, IntKind.signed]
theorem w32 (n : Int) : IntKind.u32.wrap n = n % 4294967296 := by simp [IntKind.wrap, IntKind.bits, IntKind.signed]
theorem w64 (n : Int) : IntKind.u64.wrap n = n % 18446744073709551616 := by simp [IntKind.wrap, IntKind.bits, IntKind.signed]
theorem wi64 (n : Int) : IntKind.i64.wrap n = (n + 9223372036854775808) % 18446744073709551616 - 9223372036854775808 := by
  simp only [IntKind.wrap, IntKind.bits, IntKind.signed]
  simp
  split <;> omega
theorem wi64_in {n : Int} (h1 : -9223372036854775808 ≤ n) (h2 : n ≤ 9223372036854775807) : IntKind.i64.wrap n = n := by rw [wi64]; omega
theorem has_i64 {n : Int} (h : IntKind.i64.has n) : -9223372036854775808 ≤ n ∧ n ≤ 9223372036854775807 := by
  simpa [IntKind.has, IntKind.min, IntKind.max, IntKind.signed, IntKind.bits] using h
theorem has_u8 {n : Int} (h : IntKind.u8.has n) : 0 ≤ n ∧ n ≤ 255 := by simpa [IntKind.has, IntKind.min, IntKind.max, IntKind.signed, IntKind.bits] using h
theorem has_u16 {n : Int} (h : IntKind.u16.has n) : 0 ≤ n ∧ n ≤ 65535 := by simpa [IntKind.has, IntKind.min, IntKind.max, IntKind.signed, IntKind.bits] using h
theorem has_u32 {n : Int} (h : IntKind.u32.has n) : 0 ≤ n ∧ n ≤ 4294967295 := by simpa [IntKind.has, IntKind.min, IntKind.max, IntKind.signed, IntKind.bits] using h
theorem has_u64 {n : Int} (h : IntKind.u64.has n) : 0 ≤ n ∧ n ≤ 18446744073709551615 := by simpa [IntKind.has, IntKind.min, IntKind.max, IntKind.signed, IntKind.bits] using h

theorem ofInt_nat {w : Nat} {n : Nat} (h : n < 2 ^ w) : (BitVec.ofInt w (n : Int)).toNat = n := by
  rw [BitVec.toNat_ofInt]
  have : ((n : Int) % ((2 ^ w : Nat) : Int)) = ((n % 2 ^ w : Nat) : Int) := by simp
  rw [this, Int.toNat_natCast, Nat.mod_eq_of_lt h]
theorem wrap_nat {k : IntKind} (hk : k.signed = false) {n : Nat} (h : n < 2 ^ k.bits) : k.wrap (n : Int) = n := by
  simp only [IntKind.wrap, hk, Bool.false_and, Bool.false_eq_true, if_false]
  have : ((n : Int) % ((2 : Int) ^ k.bits)) = ((n % 2 ^ k.bits : Nat) : Int) := by simp
  rw [this, Nat.mod_eq_of_lt h]
theorem bit_or_nat {k : IntKind} (hk : k.signed = false) {a b i : Nat} (hb : b < 2 ^ i) (hs : a * 2 ^ i + b < 2 ^ k.bits) : bitI .or k ((a * 2 ^ i : Nat) : Int) (b : Int) = ((a * 2 ^ i + b : Nat) : Int) := by
  simp only [bitI]
  rw [BitVec.toNat_or, ofInt_nat (by omega), ofInt_nat (by omega)]
  have : a * 2 ^ i ||| b = a * 2 ^ i + b := by
    have := Nat.shiftLeft_add_eq_or_of_lt hb a
    rw [Nat.shiftLeft_eq] at this
    exact this.symm
  rw [this]
  exact wrap_nat hk hs
theorem bit_and_nat {k : IntKind} (hk : k.signed = false) {a i : Nat} (hi : i ≤ k.bits) (ha : a < 2 ^ k.bits) : bitI .and k (a : Int) ((2 ^ i - 1 : Nat) : Int) = ((a % 2 ^ i : Nat) : Int) := by
  simp only [bitI]
  have h1 : 2 ^ i ≤ 2 ^ k.bits := Nat.pow_le_pow_right (by decide) hi
  have h0 : 0 < 2 ^ i := Nat.pow_pos (by decide)
  rw [BitVec.toNat_and, ofInt_nat ha, ofInt_nat (by omega), Nat.and_two_pow_sub_one_eq_mod]
  exact wrap_nat hk (Nat.lt_of_le_of_lt (Nat.mod_le _ _) ha)

/-- Bits put beside each other. -/
theorem bit_or {k : IntKind} (hk : k.signed = false) (i : Nat) {x b : Int} (q : Int) (hq : 0 ≤ q) (hx : x = q * 2 ^ i) (h0 : 0 ≤ b) (hb : b < 2 ^ i) (hs : x + b < 2 ^ k.bits) : bitI .or k x b = x + b := by
  subst hx
  obtain ⟨a, rfl⟩ := Int.eq_ofNat_of_zero_le hq
  obtain ⟨c, rfl⟩ := Int.eq_ofNat_of_zero_le h0
  have e1 : (a : Int) * 2 ^ i = ((a * 2 ^ i : Nat) : Int) := by simp
  have e2 : (2 : Int) ^ i = ((2 ^ i : Nat) : Int) := by simp
  have e3 : (2 : Int) ^ k.bits = ((2 ^ k.bits : Nat) : Int) := by simp
  rw [e1, e3] at hs
  rw [e2] at hb
  rw [e1, bit_or_nat hk (Int.ofNat_lt.1 hb) (by omega)]
  simp
theorem bit_and {k : IntKind} (hk : k.signed = false) (i : Nat) {x y : Int} (hi : i ≤ k.bits) (hx : 0 ≤ x) (hx' : x < 2 ^ k.bits) (hy : y = 2 ^ i - 1) : bitI .and k x y = x % 2 ^ i := by
  obtain ⟨a, rfl⟩ := Int.eq_ofNat_of_zero_le hx
  have e2 : (2 : Int) ^ i = ((2 ^ i : Nat) : Int) := by simp
  have e3 : (2 : Int) ^ k.bits = ((2 ^ k.bits : Nat) : Int) := by simp
  have h0 : 0 < 2 ^ i := Nat.pow_pos (by decide)
  rw [e3] at hx'
  have e4 : y = ((2 ^ i - 1 : Nat) : Int) := by rw [hy, e2]; omega
  rw [e4, bit_and_nat hk hi (Int.ofNat_lt.1 hx')]
  simp
theorem pow2_pos (a : Nat) : (0 : Int) < 2 ^ a := Int.pow_pos (by decide)
theorem pow2_le {a b : Nat} (h : a ≤ b) : (2 : Int) ^ a ≤ 2 ^ b := by
  have := Nat.pow_le_pow_right (n := 2) (by decide) h
  have e1 : (2 : Int) ^ a = ((2 ^ a : Nat) : Int) := by simp
  have e2 : (2 : Int) ^ b = ((2 ^ b : Nat) : Int) := by simp
  rw [e1, e2]
  exact Int.ofNat_le.2 this
theorem pow256 (i : Nat) : (2 : Int) ^ (8 * i) = 256 ^ i := by rw [Int.pow_mul]; rfl
theorem fdiv_pow (n : Int) (i : Nat) : n.fdiv (2 ^ i) = n / 2 ^ i := Int.fdiv_eq_ediv_of_nonneg _ (Int.le_of_lt (pow2_pos i))
/-! ### Tests that are known -/
theorem ct_eq (a b : Int) : (true = cmpI .eq a b) = (a = b) := by simp [cmpI]
theorem cf_eq (a b : Int) : (false = cmpI .eq a b) = (a ≠ b) := by simp [cmpI, eq_comm (a := false)]
theorem ct_ne (a b : Int) : (true = cmpI .ne a b) = (a ≠ b) := by simp [cmpI, eq_comm (a := true)]
theorem cf_ne (a b : Int) : (false = cmpI .ne a b) = (a = b) := by simp [cmpI, eq_comm (a := false)]
theorem ct_lt (a b : Int) : (true = cmpI .lt a b) = (a < b) := by simp [cmpI, eq_comm (a := true)]
theorem cf_lt (a b : Int) : (false = cmpI .lt a b) = (b ≤ a) := by simp [cmpI, eq_comm (a := false)]
theorem ct_le (a b : Int) : (true = cmpI .le a b) = (a ≤ b) := by simp [cmpI, eq_comm (a := true)]
theorem cf_le (a b : Int) : (false = cmpI .le a b) = (b < a) := by simp [cmpI, eq_comm (a := false)]
theorem ct_gt (a b : Int) : (true = cmpI .gt a b) = (b < a) := by simp [cmpI, eq_comm (a := true)]
theorem cf_gt (a b : Int) : (false = cmpI .gt a b) = (a ≤ b) := by simp [cmpI, eq_comm (a := false)]
theorem ct_ge (a b : Int) : (true = cmpI .ge a b) = (b ≤ a) := by simp [cmpI, eq_comm (a := true)]
theorem cf_ge (a b : Int) : (false = cmpI .ge a b) = (a < b) := by simp [cmpI, eq_comm (a := false)]
theorem ct_not (b : Bool) : (true = !b) = (b = false) := by cases b <;> simp
theorem cf_not (b : Bool) : (false = !b) = (b = true) := by cases b <;> simp
theorem ct_and (a b : Bool) : (true = (a && b)) = (a = true ∧ b = true) := by cases a <;> cases b <;> simp
theorem cf_and (a b : Bool) : (false = (a && b)) = (a = true → b = false) := by cases a <;> cases b <;> simp
theorem ct_dec (p : Prop) [Decidable p] : (true = decide p) = p := by by_cases h : p <;> simp [h]
theorem cf_dec (p : Prop) [Decidable p] : (false = decide p) = ¬ p := by by_cases h : p <;> simp [h]
theorem i_nil {α : Type} : ((([] : List α).length : Nat) : Int) = 0 := rfl
theorem dInt (n : Int) : (D.i n).int = n := rfl
theorem dBool (b : Bool) : (D.b b).bool = b := rfl
theorem dStr (b : ByteArray) : (D.s b).str = b := rfl
theorem dList (xs : List D) : (D.l xs).list = xs := rfl
theorem dFs (xs : List D) : (D.a xs).fs = xs := rfl
theorem dFld (xs : List D) (i : Nat) : (D.a xs).fld i = xs.getD i (.i 0) := rfl
end Go.Vc
