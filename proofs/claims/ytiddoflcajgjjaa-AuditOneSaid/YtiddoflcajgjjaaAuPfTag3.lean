/- A part of the proof of the seat's laws: AuPfTag, AuPfTag2, AuPfTag3. It states no claim by itself. -/
import Derived.Test.YtiddoflcajgjjaaAuA
set_option linter.unusedVariables false
set_option linter.unusedSimpArgs false
namespace Go.Vc.Seat
open Go.Vc Go.Proofs.Try

theorem pok_tag_within : POK prog orc f_tag_within := by
  refine pok_of ok_tag_within mixed (by simp [ac_tag_within, acP, callsP]) (by simp [ac_tag_within, acS, callsS]) fun args hok => ?_
  show Fits orc nt_tag_within rs_tag_within ac_tag_within args (pWithin args)
  unfold ac_tag_within
  unfold pWithin
  split
  · rename_i x a b
    refine ⟨rfl, ?_⟩
    repeat' (first | (with_reducible first | refine st_seq (fun K' hn he hr => ?_) | refine st_block (fun K' hn he hr => ?_) | refine st_region ?_ | refine st_draw ?_ | refine st_cond ?_ | refine st_loop ?_ | refine st_op (fun G gn => ?_) | refine st_gop ?_ | refine st_dop (fun G gn => ?_) | refine st_gdop ?_ | refine st_tl ?_) | ((conv => whnf); first | (with_reducible first | (refine gn _ _ ?_; clear gn G) | (refine gn _ _ _ _ ?_; clear gn G) | refine Wr.mk ?_ | (refine hn _ _ ?_; clear hn he hr K') | (refine he _ _ _ ?_; clear hn he hr K') | (refine hr _ _ ?_; clear hn he hr K') | refine Bo.yes (by decide) ?_ | refine Bo.no (by decide) ?_ | refine Nd.mk trivial ?_ | refine Nd.mk (by decide) ?_ | refine Nd.mk ?_ ?_ | refine Leaf.mk rfl ?_ | refine Fin.mk ?_ rfl | refine Fin.mk ?_ ?_) | ((with_reducible refine Eqn.mk (fun hq => ?_) ?_) <;> try contradiction) | ((with_reducible refine Bo.gen (fun c hb => ?_)) <;> (try simp only [Nat.reduceAdd, Int.reduceToNat, toD, toDs, bl0] at hb) <;> (try simp only [↓reduceIte, reduceCtorEq, Int.reduceEq, Int.reduceLT, Int.reduceLE, eqA, eqAs, cmpI, bl1, toD, toDs, bl0] at hb) <;> first | (obtain rfl : c = true := hb) | (obtain rfl : c = false := hb) | skip) | ((with_reducible refine Br.cs (fun hq => ?_) (fun hq => ?_)) <;> (try simp only [↓reduceIte, reduceCtorEq, Int.reduceEq, Int.reduceLT, Int.reduceLE, eqA, eqAs, cmpI, bl1, toD, toDs, bl0] at hq) <;> first | contradiction | subst hq | skip) | ((with_reducible refine Nx.mk ?_ ?_ ?_ ?_) <;> try rfl)))
    all_goals (simp_all [toD, toDs, D.fld, D.fs, D.int, D.bool, D.list, Ar.ev, argE, get, cmpI]; try omega)
  · trivial
theorem pok_tag_Check : POK prog orc f_tag_Check := by
  refine pok_of ok_tag_Check mixed (by simp [ac_tag_Check, acP, callsP, pok_tag_within]) (by simp [ac_tag_Check, acS, callsS]) fun args hok => ?_
  show Fits orc nt_tag_Check rs_tag_Check ac_tag_Check args (pTagCheck args)
  unfold ac_tag_Check
  unfold pTagCheck
  split
  · rename_i p d v
    refine ⟨rfl, ?_⟩
    repeat' (first | (with_reducible first | refine st_seq (fun K' hn he hr => ?_) | refine st_block (fun K' hn he hr => ?_) | refine st_region ?_ | refine st_draw ?_ | refine st_cond ?_ | refine st_loop ?_ | refine st_op (fun G gn => ?_) | refine st_gop ?_ | refine st_dop (fun G gn => ?_) | refine st_gdop ?_ | refine st_tl ?_) | ((conv => whnf); first | (with_reducible first | (refine gn _ _ ?_; clear gn G) | (refine gn _ _ _ _ ?_; clear gn G) | refine Wr.mk ?_ | (refine hn _ _ ?_; clear hn he hr K') | (refine he _ _ _ ?_; clear hn he hr K') | (refine hr _ _ ?_; clear hn he hr K') | refine Bo.yes (by decide) ?_ | refine Bo.no (by decide) ?_ | refine Nd.mk trivial ?_ | refine Nd.mk (by decide) ?_ | refine Nd.mk ?_ ?_ | refine Leaf.mk rfl ?_ | refine Fin.mk ?_ rfl | refine Fin.mk ?_ ?_) | ((with_reducible refine Eqn.mk (fun hq => ?_) ?_) <;> try contradiction) | ((with_reducible refine Bo.gen (fun c hb => ?_)) <;> (try simp only [Nat.reduceAdd, Int.reduceToNat, toD, toDs, bl0] at hb) <;> (try simp only [↓reduceIte, reduceCtorEq, Int.reduceEq, Int.reduceLT, Int.reduceLE, eqA, eqAs, cmpI, bl1, toD, toDs, bl0] at hb) <;> first | (obtain rfl : c = true := hb) | (obtain rfl : c = false := hb) | skip) | ((with_reducible refine Br.cs (fun hq => ?_) (fun hq => ?_)) <;> (try simp only [↓reduceIte, reduceCtorEq, Int.reduceEq, Int.reduceLT, Int.reduceLE, eqA, eqAs, cmpI, bl1, toD, toDs, bl0] at hq) <;> first | contradiction | subst hq | skip) | ((with_reducible refine Nx.mk ?_ ?_ ?_ ?_) <;> try rfl)))
    all_goals (simp_all [toD, toDs, D.fld, D.fs, D.int, D.bool, D.list, Ar.ev, argE, get, cmpI, tagOK]; try omega)
  · trivial
theorem pok_r02_Is : POK prog orc f_r02_Is := by
  refine pok_of ok_r02_Is mixed (by simp [ac_r02_Is, acP, callsP]) (by simp [ac_r02_Is, acS, callsS]) fun args hok => ?_
  show Fits orc nt_r02_Is rs_r02_Is ac_r02_Is args (pTagIs args)
  unfold ac_r02_Is
  unfold pTagIs
  split
  · rename_i p d v
    refine ⟨rfl, ?_⟩
    repeat' (first | (with_reducible first | refine st_seq (fun K' hn he hr => ?_) | refine st_block (fun K' hn he hr => ?_) | refine st_region ?_ | refine st_draw ?_ | refine st_cond ?_ | refine st_loop ?_ | refine st_op (fun G gn => ?_) | refine st_gop ?_ | refine st_dop (fun G gn => ?_) | refine st_gdop ?_ | refine st_tl ?_) | ((conv => whnf); first | (with_reducible first | (refine gn _ _ ?_; clear gn G) | (refine gn _ _ _ _ ?_; clear gn G) | refine Wr.mk ?_ | (refine hn _ _ ?_; clear hn he hr K') | (refine he _ _ _ ?_; clear hn he hr K') | (refine hr _ _ ?_; clear hn he hr K') | refine Bo.yes (by decide) ?_ | refine Bo.no (by decide) ?_ | refine Nd.mk trivial ?_ | refine Nd.mk (by decide) ?_ | refine Nd.mk ?_ ?_ | refine Leaf.mk rfl ?_ | refine Fin.mk ?_ rfl | refine Fin.mk ?_ ?_) | ((with_reducible refine Eqn.mk (fun hq => ?_) ?_) <;> try contradiction) | ((with_reducible refine Bo.gen (fun c hb => ?_)) <;> (try simp only [Nat.reduceAdd, Int.reduceToNat, toD, toDs, bl0] at hb) <;> (try simp only [↓reduceIte, reduceCtorEq, Int.reduceEq, Int.reduceLT, Int.reduceLE, eqA, eqAs, cmpI, bl1, toD, toDs, bl0] at hb) <;> first | (obtain rfl : c = true := hb) | (obtain rfl : c = false := hb) | skip) | ((with_reducible refine Br.cs (fun hq => ?_) (fun hq => ?_)) <;> (try simp only [↓reduceIte, reduceCtorEq, Int.reduceEq, Int.reduceLT, Int.reduceLE, eqA, eqAs, cmpI, bl1, toD, toDs, bl0] at hq) <;> first | contradiction | subst hq | skip) | ((with_reducible refine Nx.mk ?_ ?_ ?_ ?_) <;> try rfl)))
    all_goals (simp_all [toD, toDs, D.fld, D.fs, D.int, D.bool, D.list, Ar.ev, argE, get, cmpI, tagOK]; try omega)
  · trivial
theorem pok_r02_Check : POK prog orc f_r02_Check := by
  refine pok_of ok_r02_Check mixed (by simp [ac_r02_Check, acP, callsP, pok_r02_Is]) (by simp [ac_r02_Check, acS, callsS]) fun args hok => ?_
  show Fits orc nt_r02_Check rs_r02_Check ac_r02_Check args (pTagCheck args)
  unfold ac_r02_Check
  unfold pTagCheck
  split
  · rename_i p d v
    refine ⟨rfl, ?_⟩
    repeat' (first | (with_reducible first | refine st_seq (fun K' hn he hr => ?_) | refine st_block (fun K' hn he hr => ?_) | refine st_region ?_ | refine st_draw ?_ | refine st_cond ?_ | refine st_loop ?_ | refine st_op (fun G gn => ?_) | refine st_gop ?_ | refine st_dop (fun G gn => ?_) | refine st_gdop ?_ | refine st_tl ?_) | ((conv => whnf); first | (with_reducible first | (refine gn _ _ ?_; clear gn G) | (refine gn _ _ _ _ ?_; clear gn G) | refine Wr.mk ?_ | (refine hn _ _ ?_; clear hn he hr K') | (refine he _ _ _ ?_; clear hn he hr K') | (refine hr _ _ ?_; clear hn he hr K') | refine Bo.yes (by decide) ?_ | refine Bo.no (by decide) ?_ | refine Nd.mk trivial ?_ | refine Nd.mk (by decide) ?_ | refine Nd.mk ?_ ?_ | refine Leaf.mk rfl ?_ | refine Fin.mk ?_ rfl | refine Fin.mk ?_ ?_) | ((with_reducible refine Eqn.mk (fun hq => ?_) ?_) <;> try contradiction) | ((with_reducible refine Bo.gen (fun c hb => ?_)) <;> (try simp only [Nat.reduceAdd, Int.reduceToNat, toD, toDs, bl0] at hb) <;> (try simp only [↓reduceIte, reduceCtorEq, Int.reduceEq, Int.reduceLT, Int.reduceLE, eqA, eqAs, cmpI, bl1, toD, toDs, bl0] at hb) <;> first | (obtain rfl : c = true := hb) | (obtain rfl : c = false := hb) | skip) | ((with_reducible refine Br.cs (fun hq => ?_) (fun hq => ?_)) <;> (try simp only [↓reduceIte, reduceCtorEq, Int.reduceEq, Int.reduceLT, Int.reduceLE, eqA, eqAs, cmpI, bl1, toD, toDs, bl0] at hq) <;> first | contradiction | subst hq | skip) | ((with_reducible refine Nx.mk ?_ ?_ ?_ ?_) <;> try rfl)))
    all_goals (simp_all [toD, toDs, D.fld, D.fs, D.int, D.bool, D.list, Ar.ev, argE, get, cmpI]; try omega)
  · trivial
theorem pok_r02_bit : POK prog orc f_r02_bit := by
  refine pok_of ok_r02_bit mixed (by simp [ac_r02_bit, acP, callsP]) (by simp [ac_r02_bit, acS, callsS]) fun args hok => ?_
  show Fits orc nt_r02_bit rs_r02_bit ac_r02_bit args (pRBit args)
  unfold ac_r02_bit
  unfold pRBit
  split
  · rename_i b k
    refine ⟨rfl, ?_⟩
    repeat' (first | (with_reducible first | refine st_seq (fun K' hn he hr => ?_) | refine st_block (fun K' hn he hr => ?_) | refine st_region ?_ | refine st_draw ?_ | refine st_cond ?_ | refine st_loop ?_ | refine st_op (fun G gn => ?_) | refine st_gop ?_ | refine st_dop (fun G gn => ?_) | refine st_gdop ?_ | refine st_tl ?_) | ((conv => whnf); first | (with_reducible first | (refine gn _ _ ?_; clear gn G) | (refine gn _ _ _ _ ?_; clear gn G) | refine Wr.mk ?_ | (refine hn _ _ ?_; clear hn he hr K') | (refine he _ _ _ ?_; clear hn he hr K') | (refine hr _ _ ?_; clear hn he hr K') | refine Bo.yes (by decide) ?_ | refine Bo.no (by decide) ?_ | refine Nd.mk trivial ?_ | refine Nd.mk (by decide) ?_ | refine Nd.mk ?_ ?_ | refine Leaf.mk rfl ?_ | refine Fin.mk ?_ rfl | refine Fin.mk ?_ ?_) | ((with_reducible refine Eqn.mk (fun hq => ?_) ?_) <;> try contradiction) | ((with_reducible refine Bo.gen (fun c hb => ?_)) <;> (try simp only [Nat.reduceAdd, Int.reduceToNat, toD, toDs, bl0] at hb) <;> (try simp only [↓reduceIte, reduceCtorEq, Int.reduceEq, Int.reduceLT, Int.reduceLE, eqA, eqAs, cmpI, bl1, toD, toDs, bl0] at hb) <;> first | (obtain rfl : c = true := hb) | (obtain rfl : c = false := hb) | skip) | ((with_reducible refine Br.cs (fun hq => ?_) (fun hq => ?_)) <;> (try simp only [↓reduceIte, reduceCtorEq, Int.reduceEq, Int.reduceLT, Int.reduceLE, eqA, eqAs, cmpI, bl1, toD, toDs, bl0] at hq) <;> first | contradiction | subst hq | skip) | ((with_reducible refine Nx.mk ?_ ?_ ?_ ?_) <;> try rfl)))
    all_goals (simp_all [toD, toDs, D.fld, D.fs, D.int, D.bool, D.list, Ar.ev, argE, get, cmpI]; try omega)
  · trivial
end Go.Vc.Seat
set_option linter.unusedVariables false
set_option linter.unusedSimpArgs false
namespace Go.Vc.Seat
open Go.Vc Go.Proofs.Try

theorem tagOK_iff {p v : Int} : tagOK p v = true ↔ (0 ≤ p ∧ p ≤ 7 ∧ 1 ≤ v ∧ v ≤ 4094) := by simp [tagOK]; omega
theorem itagOK_iff {p v : Int} : itagOK p v = true ↔ (0 ≤ p ∧ p ≤ 7 ∧ 0 ≤ v ∧ v ≤ 16777215) := by simp [itagOK]; omega
theorem tagNum_bits {p v : Int} {d : Bool} (h : tagOK p v = true) :
    bitI .or .u32 (bitI .or .u32 (IntKind.u32.wrap (IntKind.u32.wrap p * 8192)) (if d = true then 4096 else 0)) (IntKind.u32.wrap v) = tagNum p d v := by
  have h := tagOK_iff.1 h
  have e1 : IntKind.u32.wrap (IntKind.u32.wrap p * 8192) = p * 8192 := by simp only [w32]; omega
  have e2 : IntKind.u32.wrap v = v := by simp only [w32]; omega
  have e3 : bitI .or .u32 (p * 8192) (if d = true then 4096 else 0) = p * 8192 + (if d = true then 4096 else 0) :=
    bit_or (k := .u32) rfl 13 p (by omega) (by omega) (by split <;> omega) (by split <;> omega) (by simp [IntKind.bits]; split <;> omega)
  have e4 := bit_or (k := .u32) rfl 12 (x := p * 8192 + (if d = true then 4096 else 0)) (b := v) (p * 2 + (if d = true then 1 else 0)) (by split <;> omega) (by split <;> omega) (by omega) (by omega) (by simp [IntKind.bits]; split <;> omega)
  rw [e1, e2, e3, e4]
  rfl
theorem tag_bytes {p v : Int} {d : Bool} (h : tagOK p v = true) : [D.i (IntKind.u8.wrap (IntKind.i64.wrap ((IntKind.i64.wrap (IntKind.i64.wrap (IntKind.i64.wrap (p * 8192) + if d = true then 4096 else 0) + v)).tdiv 256))),
    D.i (IntKind.u8.wrap ((IntKind.i64.wrap (IntKind.i64.wrap (IntKind.i64.wrap (p * 8192) + if d = true then 4096 else 0) + v)).tmod 256))] = be (tagNum p d v) 2 := by
  have h := tagOK_iff.1 h
  have e1 : IntKind.i64.wrap (p * 8192) = p * 8192 := wi64_in (by omega) (by omega)
  have e2 : IntKind.i64.wrap (IntKind.i64.wrap (IntKind.i64.wrap (p * 8192) + if d = true then 4096 else 0) + v) = tagNum p d v := by
    unfold tagNum
    rw [e1]
    split <;> (rw [wi64_in (n := p * 8192 + _) (by omega) (by omega), wi64_in (by omega) (by omega)])
  have e3 : 0 ≤ tagNum p d v ∧ tagNum p d v < 65536 := by unfold tagNum; split <;> omega
  rw [e2, Int.tdiv_eq_ediv_of_nonneg e3.1, Int.tmod_eq_emod_of_nonneg e3.1, w8, w8, wi64_in (by omega) (by omega)]
  simp only [be]
  have : tagNum p d v / 256 ^ 1 = tagNum p d v / 256 := by simp
  rw [this]
  simp
theorem pok_r02_Bytes : POK prog orc f_r02_Bytes := by
  refine pok_of ok_r02_Bytes mixed (by simp [ac_r02_Bytes, acP, callsP, pok_r02_bit]) (by simp [ac_r02_Bytes, acS, callsS]) fun args hok => ?_
  show Fits orc nt_r02_Bytes rs_r02_Bytes ac_r02_Bytes args (pTagBytes args)
  unfold ac_r02_Bytes
  unfold pTagBytes
  split
  · rename_i p d v
    refine fun ht => ⟨rfl, ?_⟩
    have hn := tag_bytes (d := d) ht
    repeat' (first | (with_reducible first | refine st_seq (fun K' hn he hr => ?_) | refine st_block (fun K' hn he hr => ?_) | refine st_region ?_ | refine st_draw ?_ | refine st_cond ?_ | refine st_loop ?_ | refine st_op (fun G gn => ?_) | refine st_gop ?_ | refine st_dop (fun G gn => ?_) | refine st_gdop ?_ | refine st_tl ?_) | ((conv => whnf); first | (with_reducible first | (refine gn _ _ ?_; clear gn G) | (refine gn _ _ _ _ ?_; clear gn G) | refine Wr.mk ?_ | (refine hn _ _ ?_; clear hn he hr K') | (refine he _ _ _ ?_; clear hn he hr K') | (refine hr _ _ ?_; clear hn he hr K') | refine Bo.yes (by decide) ?_ | refine Bo.no (by decide) ?_ | refine Nd.mk trivial ?_ | refine Nd.mk (by decide) ?_ | refine Nd.mk ?_ ?_ | refine Leaf.mk rfl ?_ | refine Fin.mk ?_ rfl | refine Fin.mk ?_ ?_) | ((with_reducible refine Eqn.mk (fun hq => ?_) ?_) <;> try contradiction) | ((with_reducible refine Bo.gen (fun c hb => ?_)) <;> (try simp only [Nat.reduceAdd, Int.reduceToNat, toD, toDs, bl0] at hb) <;> (try simp only [↓reduceIte, reduceCtorEq, Int.reduceEq, Int.reduceLT, Int.reduceLE, eqA, eqAs, cmpI, bl1, toD, toDs, bl0] at hb) <;> first | (obtain rfl : c = true := hb) | (obtain rfl : c = false := hb) | skip) | ((with_reducible refine Br.cs (fun hq => ?_) (fun hq => ?_)) <;> (try simp only [↓reduceIte, reduceCtorEq, Int.reduceEq, Int.reduceLT, Int.reduceLE, eqA, eqAs, cmpI, bl1, toD, toDs, bl0] at hq) <;> first | contradiction | subst hq | skip) | ((with_reducible refine Nx.mk ?_ ?_ ?_ ?_) <;> try rfl)))
    all_goals (try simp only [toD, toDs, dInt, dBool, dStr, dList, dFs, dFld, List.getD_cons_zero, List.getD_cons_succ, Nat.zero_add, Int.reduceToNat, Nat.reduceAdd, setPartsD, zeroDs, List.replicate, List.set_cons_zero, List.set_cons_succ, zeroD, Nat.reduceMul, Nat.reducePow, Int.reducePow, Int.reduceMul, Nat.min_def, IntKind.bits, Nat.reduceLeDiff, ct_eq, cf_eq, ct_ne, cf_ne, ct_lt, cf_lt, ct_le, cf_le, ct_gt, cf_gt, ct_ge, cf_ge, ct_not, cf_not, ct_and, cf_and, ct_dec, cf_dec, cond_true, cond_false, i_nil, Int.toNat_natCast, Nat.sub_zero, List.drop_zero, ↓reduceIte, Bool.false_eq_true, Int.sub_zero, Int.add_zero] at *)
    all_goals first | contradiction | (exfalso; omega) | (exfalso; simp_all only [Bool.false_eq_true, reduceCtorEq]; done) | skip
    simp only [*]
  · trivial
theorem pok_r02_Put : POK prog orc f_r02_Put := by
  refine pok_of ok_r02_Put mixed (by simp [ac_r02_Put, acP, callsP, pok_r02_Is, pok_r02_Bytes]) (by simp [ac_r02_Put, acS, callsS]) fun args hok => ?_
  show Fits orc nt_r02_Put rs_r02_Put ac_r02_Put args (pTagPut args)
  unfold ac_r02_Put
  unfold pTagPut
  split
  · rename_i p d v
    refine ⟨fun ht => ⟨rfl, ?_⟩, fun ht => ⟨rfl, ?_⟩⟩
    · repeat' (first | (with_reducible first | refine st_seq (fun K' hn he hr => ?_) | refine st_block (fun K' hn he hr => ?_) | refine st_region ?_ | refine st_draw ?_ | refine st_cond ?_ | refine st_loop ?_ | refine st_op (fun G gn => ?_) | refine st_gop ?_ | refine st_dop (fun G gn => ?_) | refine st_gdop ?_ | refine st_tl ?_) | ((conv => whnf); first | (with_reducible first | (refine gn _ _ ?_; clear gn G) | (refine gn _ _ _ _ ?_; clear gn G) | refine Wr.mk ?_ | (refine hn _ _ ?_; clear hn he hr K') | (refine he _ _ _ ?_; clear hn he hr K') | (refine hr _ _ ?_; clear hn he hr K') | refine Bo.yes (by decide) ?_ | refine Bo.no (by decide) ?_ | refine Nd.mk trivial ?_ | refine Nd.mk (by decide) ?_ | refine Nd.mk ?_ ?_ | refine Leaf.mk rfl ?_ | refine Fin.mk ?_ rfl | refine Fin.mk ?_ ?_) | ((with_reducible refine Eqn.mk (fun hq => ?_) ?_) <;> try contradiction) | ((with_reducible refine Bo.gen (fun c hb => ?_)) <;> (try simp only [Nat.reduceAdd, Int.reduceToNat, toD, toDs, bl0] at hb) <;> (try simp only [↓reduceIte, reduceCtorEq, Int.reduceEq, Int.reduceLT, Int.reduceLE, eqA, eqAs, cmpI, bl1, toD, toDs, bl0] at hb) <;> first | (obtain rfl : c = true := hb) | (obtain rfl : c = false := hb) | skip) | ((with_reducible refine Br.cs (fun hq => ?_) (fun hq => ?_)) <;> (try simp only [↓reduceIte, reduceCtorEq, Int.reduceEq, Int.reduceLT, Int.reduceLE, eqA, eqAs, cmpI, bl1, toD, toDs, bl0] at hq) <;> first | contradiction | subst hq | skip) | ((with_reducible refine Nx.mk ?_ ?_ ?_ ?_) <;> try rfl)))
      all_goals (try simp only [toD, toDs, dInt, dBool, dStr, dList, dFs, dFld, List.getD_cons_zero, List.getD_cons_succ, Nat.zero_add, Int.reduceToNat, Nat.reduceAdd, setPartsD, zeroDs, List.replicate, List.set_cons_zero, List.set_cons_succ, zeroD, Nat.reduceMul, Nat.reducePow, Int.reducePow, Int.reduceMul, Nat.min_def, IntKind.bits, Nat.reduceLeDiff, ct_eq, cf_eq, ct_ne, cf_ne, ct_lt, cf_lt, ct_le, cf_le, ct_gt, cf_gt, ct_ge, cf_ge, ct_not, cf_not, ct_and, cf_and, ct_dec, cf_dec, cond_true, cond_false, i_nil, Int.toNat_natCast, Nat.sub_zero, List.drop_zero, ↓reduceIte, Bool.false_eq_true, Int.sub_zero, Int.add_zero, ht] at *)
      all_goals first | contradiction | (exfalso; omega) | (exfalso; simp_all only [Bool.false_eq_true, reduceCtorEq]; done) | skip
    · repeat' (first | (with_reducible first | refine st_seq (fun K' hn he hr => ?_) | refine st_block (fun K' hn he hr => ?_) | refine st_region ?_ | refine st_draw ?_ | refine st_cond ?_ | refine st_loop ?_ | refine st_op (fun G gn => ?_) | refine st_gop ?_ | refine st_dop (fun G gn => ?_) | refine st_gdop ?_ | refine st_tl ?_) | ((conv => whnf); first | (with_reducible first | (refine gn _ _ ?_; clear gn G) | (refine gn _ _ _ _ ?_; clear gn G) | refine Wr.mk ?_ | (refine hn _ _ ?_; clear hn he hr K') | (refine he _ _ _ ?_; clear hn he hr K') | (refine hr _ _ ?_; clear hn he hr K') | refine Bo.yes (by decide) ?_ | refine Bo.no (by decide) ?_ | refine Nd.mk trivial ?_ | refine Nd.mk (by decide) ?_ | refine Nd.mk ?_ ?_ | refine Leaf.mk rfl ?_ | refine Fin.mk ?_ rfl | refine Fin.mk ?_ ?_) | ((with_reducible refine Eqn.mk (fun hq => ?_) ?_) <;> try contradiction) | ((with_reducible refine Bo.gen (fun c hb => ?_)) <;> (try simp only [Nat.reduceAdd, Int.reduceToNat, toD, toDs, bl0] at hb) <;> (try simp only [↓reduceIte, reduceCtorEq, Int.reduceEq, Int.reduceLT, Int.reduceLE, eqA, eqAs, cmpI, bl1, toD, toDs, bl0] at hb) <;> first | (obtain rfl : c = true := hb) | (obtain rfl : c = false := hb) | skip) | ((with_reducible refine Br.cs (fun hq => ?_) (fun hq => ?_)) <;> (try simp only [↓reduceIte, reduceCtorEq, Int.reduceEq, Int.reduceLT, Int.reduceLE, eqA, eqAs, cmpI, bl1, toD, toDs, bl0] at hq) <;> first | contradiction | subst hq | skip) | ((with_reducible refine Nx.mk ?_ ?_ ?_ ?_) <;> try rfl)))
      all_goals (try simp only [toD, toDs, dInt, dBool, dStr, dList, dFs, dFld, List.getD_cons_zero, List.getD_cons_succ, Nat.zero_add, Int.reduceToNat, Nat.reduceAdd, setPartsD, zeroDs, List.replicate, List.set_cons_zero, List.set_cons_succ, zeroD, Nat.reduceMul, Nat.reducePow, Int.reducePow, Int.reduceMul, Nat.min_def, IntKind.bits, Nat.reduceLeDiff, ct_eq, cf_eq, ct_ne, cf_ne, ct_lt, cf_lt, ct_le, cf_le, ct_gt, cf_gt, ct_ge, cf_ge, ct_not, cf_not, ct_and, cf_and, ct_dec, cf_dec, cond_true, cond_false, i_nil, Int.toNat_natCast, Nat.sub_zero, List.drop_zero, ↓reduceIte, Bool.false_eq_true, Int.sub_zero, Int.add_zero, ht] at *)
      all_goals first | contradiction | (exfalso; omega) | (exfalso; simp_all only [Bool.false_eq_true, reduceCtorEq]; done) | skip
  · trivial
end Go.Vc.Seat
set_option linter.unusedVariables false
set_option linter.unusedSimpArgs false
namespace Go.Vc.Seat
open Go.Vc Go.Proofs.Try

theorem cat_take (xs : List D) (i : Nat) (h : i < xs.length) : cat (xs.take (i + 1)) = cat (xs.take i) ++ (xs.getD i (.i 0)).list := by
  unfold cat
  rw [List.take_succ_eq_append_getElem h, List.flatMap_append]
  simp [h]
theorem cat_take_le (xs : List D) (i : Nat) : (cat (xs.take i)).length ≤ (cat xs).length := by
  unfold cat
  conv => rhs; rw [← List.take_append_drop i xs, List.flatMap_append]
  simp
theorem itagNum_bits {p i : Int} {d u : Bool} (h : itagOK p i = true) :
    bitI .or .u32 (bitI .or .u32 (bitI .or .u32 (IntKind.u32.wrap (IntKind.u32.wrap p * 536870912)) (if d = true then 268435456 else 0)) (if u = true then 134217728 else 0)) (IntKind.u32.wrap i) = itagNum p d u i := by
  have h := itagOK_iff.1 h
  have e1 : IntKind.u32.wrap (IntKind.u32.wrap p * 536870912) = p * 536870912 := by simp only [w32]; omega
  have e2 : IntKind.u32.wrap i = i := by simp only [w32]; omega
  have e3 : bitI .or .u32 (p * 536870912) (if d = true then 268435456 else 0) = p * 536870912 + (if d = true then 268435456 else 0) :=
    bit_or (k := .u32) rfl 29 p (by omega) (by omega) (by split <;> omega) (by split <;> omega) (by simp [IntKind.bits]; split <;> omega)
  have e4 : bitI .or .u32 (p * 536870912 + (if d = true then 268435456 else 0)) (if u = true then 134217728 else 0) = p * 536870912 + (if d = true then 268435456 else 0) + (if u = true then 134217728 else 0) :=
    bit_or (k := .u32) rfl 28 (p * 2 + (if d = true then 1 else 0)) (by split <;> omega) (by split <;> omega) (by split <;> omega) (by split <;> omega) (by simp [IntKind.bits]; split <;> split <;> omega)
  have e5 := bit_or (k := .u32) rfl 24 (x := p * 536870912 + (if d = true then 268435456 else 0) + (if u = true then 134217728 else 0)) (b := i) (p * 32 + (if d = true then 16 else 0) + (if u = true then 8 else 0)) (by split <;> split <;> omega) (by split <;> split <;> omega) (by omega) (by omega) (by simp [IntKind.bits]; split <;> split <;> omega)
  rw [e1, e2, e3, e4, e5]
  rfl
theorem itag_bytes {p i : Int} {d u : Bool} (h : itagOK p i = true) :
    [D.i (IntKind.u8.wrap (IntKind.i64.wrap (IntKind.i64.wrap (IntKind.i64.wrap (p * 32) + if d = true then 16 else 0) + if u = true then 8 else 0))), D.i (IntKind.u8.wrap (IntKind.i64.wrap (i.tdiv 65536))),
      D.i (IntKind.u8.wrap ((IntKind.i64.wrap (i.tdiv 256)).tmod 256)), D.i (IntKind.u8.wrap (i.tmod 256))] = be (itagNum p d u i) 4 := by
  have h := itagOK_iff.1 h
  have e1 : IntKind.i64.wrap (p * 32) = p * 32 := wi64_in (by omega) (by omega)
  have e2 : IntKind.i64.wrap (IntKind.i64.wrap (IntKind.i64.wrap (p * 32) + if d = true then 16 else 0) + if u = true then 8 else 0) = p * 32 + (if d = true then 16 else 0) + (if u = true then 8 else 0) := by
    rw [e1, wi64_in (n := p * 32 + _) (by split <;> omega) (by split <;> omega), wi64_in (by split <;> split <;> omega) (by split <;> split <;> omega)]
  rw [e2, Int.tdiv_eq_ediv_of_nonneg h.2.2.1, Int.tdiv_eq_ediv_of_nonneg h.2.2.1, wi64_in (n := i / 65536) (by omega) (by omega), wi64_in (n := i / 256) (by omega) (by omega), Int.tmod_eq_emod_of_nonneg (by omega), Int.tmod_eq_emod_of_nonneg (by omega), w8, w8, w8, w8]
  simp only [be, itagNum]
  have f3 : (256 : Int) ^ 3 = 16777216 := by decide
  have f2 : (256 : Int) ^ 2 = 65536 := by decide
  have f1 : (256 : Int) ^ 1 = 256 := by decide
  have f0 : (256 : Int) ^ 0 = 1 := by decide
  rw [f3, f2, f1, f0]
  have g1 : (p * 32 + (if d = true then 16 else 0) + (if u = true then 8 else 0)) % 256 = (p * 536870912 + (if d = true then 268435456 else 0) + (if u = true then 134217728 else 0) + i) / 16777216 % 256 := by split <;> split <;> omega
  have g2 : i / 65536 % 256 = (p * 536870912 + (if d = true then 268435456 else 0) + (if u = true then 134217728 else 0) + i) / 65536 % 256 := by split <;> split <;> omega
  have g3 : i / 256 % 256 % 256 = (p * 536870912 + (if d = true then 268435456 else 0) + (if u = true then 134217728 else 0) + i) / 256 % 256 := by split <;> split <;> omega
  have g4 : i % 256 % 256 = (p * 536870912 + (if d = true then 268435456 else 0) + (if u = true then 134217728 else 0) + i) / 1 % 256 := by split <;> split <;> omega
  rw [g1, g2, g3, g4]
end Go.Vc.Seat
