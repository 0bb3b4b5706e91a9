/- A part of the proof of the seat's laws: BcPfTag2. It states no claim by itself. -/
import Derived.Test.YtghpaogagolagaaBcPfTag
set_option linter.unusedVariables false
set_option linter.unusedSimpArgs false
namespace Go.Vc.Seat
open Go.Vc Go.Proofs.Try

theorem tagOK_iff {p v : Int} : tagOK p v = true ↔ (0 ≤ p ∧ p ≤ 7 ∧ 1 ≤ v ∧ v ≤ 4094) := by simp [tagOK]; omega
theorem itagOK_iff {p v : Int} : itagOK p v = true ↔ (0 ≤ p ∧ p ≤ 7 ∧ 0 ≤ v ∧ v ≤ 16777215) := by simp [itagOK]; omega
theorem tagNum_bits {p v : Int} {d : Bool} (h : tagOK p v = true) :
    bitI .or .u32 (bitI .or .u32 (IntKind.u32.wrap (IntKind.u32.wrap p * 8192)) (if d = true then 4096 else 0)) (IntKind.u32.wrap v) = tagNum p d v := by
  have h := tagOK_iff.1 h
  have e1 : IntKind.u32.wrap (IntKind.u32.wrap p * 8192) = p * 8192 := by simp only [w32]; omega
  have e2 : IntKind.u32.wrap v = v := by simp only [w32]; omega
  have e3 : bitI .or .u32 (p * 8192) (if d = true then 4096 else 0) = p * 8192 + (if d = true then 4096 else 0) :=
    bit_or (k := .u32) rfl 13 p (by omega) (by omega) (by split <;> omega) (by split <;> omega) (by simp [IntKind.bits]; split <;> omega)
  have e4 := bit_or (k := .u32) rfl 12 (x := p * 8192 + (if d = true then 4096 else 0)) (b := v) (p * 2 + (if d = true then 1 else 0)) (by split <;> omega) (by split <;> omega) (by omega) (by omega) (by simp [IntKind.bits]; split <;> omega)
  rw [e1, e2, e3, e4]
  rfl
theorem tag_bytes {p v : Int} {d : Bool} (h : tagOK p v = true) : [D.i (IntKind.u8.wrap (IntKind.i64.wrap ((IntKind.i64.wrap (IntKind.i64.wrap (IntKind.i64.wrap (p * 8192) + if d = true then 4096 else 0) + v)).tdiv 256))),
    D.i (IntKind.u8.wrap ((IntKind.i64.wrap (IntKind.i64.wrap (IntKind.i64.wrap (p * 8192) + if d = true then 4096 else 0) + v)).tmod 256))] = be (tagNum p d v) 2 := by
  have h := tagOK_iff.1 h
  have e1 : IntKind.i64.wrap (p * 8192) = p * 8192 := wi64_in (by omega) (by omega)
  have e2 : IntKind.i64.wrap (IntKind.i64.wrap (IntKind.i64.wrap (p * 8192) + if d = true then 4096 else 0) + v) = tagNum p d v := by
    unfold tagNum
    rw [e1]
    split <;> (rw [wi64_in (n := p * 8192 + _) (by omega) (by omega), wi64_in (by omega) (by omega)])
  have e3 : 0 ≤ tagNum p d v ∧ tagNum p d v < 65536 := by unfold tagNum; split <;> omega
  rw [e2, Int.tdiv_eq_ediv_of_nonneg e3.1, Int.tmod_eq_emod_of_nonneg e3.1, w8, w8, wi64_in (by omega) (by omega)]
  simp only [be]
  have : tagNum p d v / 256 ^ 1 = tagNum p d v / 256 := by simp
  rw [this]
  simp
end Go.Vc.Seat
