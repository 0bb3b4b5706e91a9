/- A part of the proof of the seat's laws: BcPfTag3. It states no claim by itself. -/
import Derived.Test.YtghpaogagolagaaBcPfTag2
set_option linter.unusedVariables false
set_option linter.unusedSimpArgs false
namespace Go.Vc.Seat
open Go.Vc Go.Proofs.Try

theorem cat_take (xs : List D) (i : Nat) (h : i < xs.length) : cat (xs.take (i + 1)) = cat (xs.take i) ++ (xs.getD i (.i 0)).list := by
  unfold cat
  rw [List.take_succ_eq_append_getElem h, List.flatMap_append]
  simp [h]
theorem cat_take_le (xs : List D) (i : Nat) : (cat (xs.take i)).length ≤ (cat xs).length := by
  unfold cat
  conv => rhs; rw [← List.take_append_drop i xs, List.flatMap_append]
  simp
theorem itagNum_bits {p i : Int} {d u : Bool} (h : itagOK p i = true) :
    bitI .or .u32 (bitI .or .u32 (bitI .or .u32 (IntKind.u32.wrap (IntKind.u32.wrap p * 536870912)) (if d = true then 268435456 else 0)) (if u = true then 134217728 else 0)) (IntKind.u32.wrap i) = itagNum p d u i := by
  have h := itagOK_iff.1 h
  have e1 : IntKind.u32.wrap (IntKind.u32.wrap p * 536870912) = p * 536870912 := by simp only [w32]; omega
  have e2 : IntKind.u32.wrap i = i := by simp only [w32]; omega
  have e3 : bitI .or .u32 (p * 536870912) (if d = true then 268435456 else 0) = p * 536870912 + (if d = true then 268435456 else 0) :=
    bit_or (k := .u32) rfl 29 p (by omega) (by omega) (by split <;> omega) (by split <;> omega) (by simp [IntKind.bits]; split <;> omega)
  have e4 : bitI .or .u32 (p * 536870912 + (if d = true then 268435456 else 0)) (if u = true then 134217728 else 0) = p * 536870912 + (if d = true then 268435456 else 0) + (if u = true then 134217728 else 0) :=
    bit_or (k := .u32) rfl 28 (p * 2 + (if d = true then 1 else 0)) (by split <;> omega) (by split <;> omega) (by split <;> omega) (by split <;> omega) (by simp [IntKind.bits]; split <;> split <;> omega)
  have e5 := bit_or (k := .u32) rfl 24 (x := p * 536870912 + (if d = true then 268435456 else 0) + (if u = true then 134217728 else 0)) (b := i) (p * 32 + (if d = true then 16 else 0) + (if u = true then 8 else 0)) (by split <;> split <;> omega) (by split <;> split <;> omega) (by omega) (by omega) (by simp [IntKind.bits]; split <;> split <;> omega)
  rw [e1, e2, e3, e4, e5]
  rfl
theorem itag_bytes {p i : Int} {d u : Bool} (h : itagOK p i = true) :
    [D.i (IntKind.u8.wrap (IntKind.i64.wrap (IntKind.i64.wrap (IntKind.i64.wrap (p * 32) + if d = true then 16 else 0) + if u = true then 8 else 0))), D.i (IntKind.u8.wrap (IntKind.i64.wrap (i.tdiv 65536))),
      D.i (IntKind.u8.wrap ((IntKind.i64.wrap (i.tdiv 256)).tmod 256)), D.i (IntKind.u8.wrap (i.tmod 256))] = be (itagNum p d u i) 4 := by
  have h := itagOK_iff.1 h
  have e1 : IntKind.i64.wrap (p * 32) = p * 32 := wi64_in (by omega) (by omega)
  have e2 : IntKind.i64.wrap (IntKind.i64.wrap (IntKind.i64.wrap (p * 32) + if d = true then 16 else 0) + if u = true then 8 else 0) = p * 32 + (if d = true then 16 else 0) + (if u = true then 8 else 0) := by
    rw [e1, wi64_in (n := p * 32 + _) (by split <;> omega) (by split <;> omega), wi64_in (by split <;> split <;> omega) (by split <;> split <;> omega)]
  rw [e2, Int.tdiv_eq_ediv_of_nonneg h.2.2.1, Int.tdiv_eq_ediv_of_nonneg h.2.2.1, wi64_in (n := i / 65536) (by omega) (by omega), wi64_in (n := i / 256) (by omega) (by omega), Int.tmod_eq_emod_of_nonneg (by omega), Int.tmod_eq_emod_of_nonneg (by omega), w8, w8, w8, w8]
  simp only [be, itagNum]
  have f3 : (256 : Int) ^ 3 = 16777216 := by decide
  have f2 : (256 : Int) ^ 2 = 65536 := by decide
  have f1 : (256 : Int) ^ 1 = 256 := by decide
  have f0 : (256 : Int) ^ 0 = 1 := by decide
  rw [f3, f2, f1, f0]
  have g1 : (p * 32 + (if d = true then 16 else 0) + (if u = true then 8 else 0)) % 256 = (p * 536870912 + (if d = true then 268435456 else 0) + (if u = true then 134217728 else 0) + i) / 16777216 % 256 := by split <;> split <;> omega
  have g2 : i / 65536 % 256 = (p * 536870912 + (if d = true then 268435456 else 0) + (if u = true then 134217728 else 0) + i) / 65536 % 256 := by split <;> split <;> omega
  have g3 : i / 256 % 256 % 256 = (p * 536870912 + (if d = true then 268435456 else 0) + (if u = true then 134217728 else 0) + i) / 256 % 256 := by split <;> split <;> omega
  have g4 : i % 256 % 256 = (p * 536870912 + (if d = true then 268435456 else 0) + (if u = true then 134217728 else 0) + i) / 1 % 256 := by split <;> split <;> omega
  rw [g1, g2, g3, g4]
end Go.Vc.Seat
