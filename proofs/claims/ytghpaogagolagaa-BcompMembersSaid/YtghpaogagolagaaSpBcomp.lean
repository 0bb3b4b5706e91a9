/- What the functions of the layers 'prov' (what is asked) and 'bcomp' come to. -/
import Derived.Test.YtghpaogagolagaaSpEth
set_option linter.unusedVariables false
namespace Go.Vc
abbrev I64 : Ty := .int .i64
abbrev TyMap : Ty := .st [I64, I64, I64]
abbrev TyCarry : Ty := .st [I64, I64]
abbrev TyMember : Ty := .st [I64, .sl I64]
abbrev TyGate : Ty := .st [.bool, .bool]
abbrev TyM6 : Ty := .arr 6 (.int .u8)
abbrev TyProv : Ty := .st [TyM6, .sl I64, .sl TyMap, .sl TyCarry, .sl TyMember]
abbrev TyTagB : Ty := .st [I64, .bool, I64]
abbrev TyITag : Ty := .st [I64, .bool, .bool, I64, TyM6, TyM6]
abbrev TyBFr : Ty := .st [TyM6, TyM6, TyTagB, TyITag, .sl (.int .u8)]
abbrev TyPort : Ty := .st [.int .u16, .int .u32, .bool, .bool, .bool, .bool, .bool, .bool, .bool, .bool, .bool, .bool, .bool, .bool, .bool]
def getI (xs : List D) (i : Nat) : Int := (xs.getD i (.i 0)).int
/-- The place of the first whose field is a number; the length, where there is none. -/
def firstV (xs : List D) (i : Nat) (v : Int) : Nat := xs.findIdx fun d => decide ((d.fld i).int = v)
def hasV (xs : List D) (i : Nat) (v : Int) : Bool := decide (firstV xs i v < xs.length)
def atV (xs : List D) (i : Nat) (v : Int) : D := xs.getD (firstV xs i v) (.i 0)
def idxV (xs : List D) (i : Nat) (v : Int) : Int := if hasV xs i v = true then (firstV xs i v : Nat) else -1
def portsOf (ms : List D) (v : Int) : List D := ((atV ms 0 v).fld 1).list
def carrierOf (cs : List D) (s : Int) : Int := ((atV cs 0 s).fld 1).int
def firstI (xs : List D) (v : Int) : Nat := xs.findIdx fun d => decide (d.int = v)
def hasI (xs : List D) (v : Int) : Bool := decide (firstI xs v < xs.length)
def idxI (xs : List D) (v : Int) : Int := if hasI xs v = true then (firstI xs v : Nat) else -1
-- SPEC r18_Ports p pRPorts
def pRPorts : List AV → PR
  | [.st [.arr 6 (.int .u8) own, .sl (.int .i64) ks .no, .sl (.st [.int .i64, .int .i64, .int .i64]) mp .no, .sl (.st [.int .i64, .int .i64]) cs .no, .sl (.st [.int .i64, .sl (.int .i64)]) ms .no], .int .i64 v] =>
    .br (hasV ms 0 v) (.ok (.tup [.sl (.int .i64) (portsOf ms v) .no, .bool true]) []) (.ok (.tup [.sl (.int .i64) [] .full, .bool false]) [])
  | _ => .bad
def sameInts (xs ys : List D) : Bool := decide (xs.length = ys.length ∧ ∀ i, i < xs.length → getI xs i = getI ys i)
-- SPEC r18_SameInts p pSameInts
def pSameInts : List AV → PR
  | [.sl (.int .i64) xs .no, .sl (.int .i64) ys .no] => .ok (.bool (sameInts xs ys)) []
  | _ => .bad
def riseD (xs : List D) : Bool := decide (∀ i, i < xs.length → 0 < i → getI xs (i - 1) < getI xs i)
-- SPEC r18_rise p pRise
def pRise : List AV → PR
  | [.sl (.int .i64) xs .no] => .ok (.bool (riseD xs)) []
  | _ => .bad
-- SPEC slices_Index_int_int p pIndexI
def pIndexI : List AV → PR
  | [.sl (.int .i64) xs .no, .int .i64 v] => .ok (.int .i64 (idxI xs v)) []
  | _ => .bad
-- SPEC slices_Contains_int_int p pContainsI
def pContainsI : List AV → PR
  | [.sl (.int .i64) xs .no, .int .i64 v] => .ok (.bool (hasI xs v)) []
  | _ => .bad
-- SPEC slices_Clone_int_int p pCloneI
def pCloneI : List AV → PR
  | [.sl (.int .i64) xs .no] => .iff (xs.length ≤ 1000) (.sl (.int .i64) xs (.own 0)) [.ext I64 xs.length]
  | _ => .bad
-- SPEC prov_Ports_1 s sVidIs
def sVidIs : List AV → Heap → SR
  | [.st [.int .i64 w, .sl (.int .i64) ps .no], .ptr 0 [] (.int .i64)], [.var (.int .i64) (.int .i64 v) false] => .ok (.bool (decide (w = v))) [.var (.int .i64) (.int .i64 v) false]
  | _, _ => .bad
-- SPEC prov_Carrier_1 s sIsidIs
def sIsidIs : List AV → Heap → SR
  | [.st [.int .i64 w, .int .i64 x], .ptr 0 [] (.int .i64)], [.var (.int .i64) (.int .i64 v) false] => .ok (.bool (decide (w = v))) [.var (.int .i64) (.int .i64 v) false]
  | _, _ => .bad
-- SPEC slices_IndexFunc_api_Member_api_Member s sIdxM
def sIdxM : List AV → Heap → SR
  | [.sl (.st [.int .i64, .sl (.int .i64)]) ms .no, .fn 30 [.ptr 0 [] (.int .i64)]], [.var (.int .i64) (.int .i64 v) false] => .ok (.int .i64 (idxV ms 0 v)) [.var (.int .i64) (.int .i64 v) false]
  | _, _ => .bad
-- SPEC slices_IndexFunc_api_Carry_api_Carry s sIdxC
def sIdxC : List AV → Heap → SR
  | [.sl (.st [.int .i64, .int .i64]) cs .no, .fn 41 [.ptr 0 [] (.int .i64)]], [.var (.int .i64) (.int .i64 v) false] => .ok (.int .i64 (idxV cs 0 v)) [.var (.int .i64) (.int .i64 v) false]
  | _, _ => .bad
def memA (d : D) : AV := .st [.int .i64 (d.fld 0).int, .sl (.int .i64) (d.fld 1).list .no]
def carA (d : D) : AV := .st [.int .i64 (d.fld 0).int, .int .i64 (d.fld 1).int]
-- SPEC prov_first_api_Member s sFirstM
def sFirstM : List AV → Heap → SR
  | [.sl (.st [.int .i64, .sl (.int .i64)]) ms .no, .fn 30 [.ptr 0 [] (.int .i64)]], [.var (.int .i64) (.int .i64 v) false] => .ok (.tup [memA (atV ms 0 v), .bool (hasV ms 0 v)]) [.var (.int .i64) (.int .i64 v) false]
  | _, _ => .bad
-- SPEC prov_first_api_Carry s sFirstC
def sFirstC : List AV → Heap → SR
  | [.sl (.st [.int .i64, .int .i64]) cs .no, .fn 41 [.ptr 0 [] (.int .i64)]], [.var (.int .i64) (.int .i64 v) false] => .ok (.tup [carA (atV cs 0 v), .bool (hasV cs 0 v)]) [.var (.int .i64) (.int .i64 v) false]
  | _, _ => .bad
def fewP (xs : List D) : Prop := xs.length ≤ 1000
-- SPEC prov_Ports p pPPorts
def pPPorts : List AV → PR
  | [.st [.arr 6 (.int .u8) own, .sl (.int .i64) ks .no, .sl (.st [.int .i64, .int .i64, .int .i64]) mp .no, .sl (.st [.int .i64, .int .i64]) cs .no, .sl (.st [.int .i64, .sl (.int .i64)]) ms .no], .int .i64 v] =>
    .iff (fewP (portsOf ms v)) (.tup [.sl (.int .i64) (portsOf ms v) (.own 0), .bool (hasV ms 0 v)]) [.ext I64 (portsOf ms v).length]
  | _ => .bad
-- SPEC prov_Carrier p pPCarrier
def pPCarrier : List AV → PR
  | [.st [.arr 6 (.int .u8) own, .sl (.int .i64) ks .no, .sl (.st [.int .i64, .int .i64, .int .i64]) mp .no, .sl (.st [.int .i64, .int .i64]) cs .no, .sl (.st [.int .i64, .sl (.int .i64)]) ms .no], .int .i64 v] =>
    .ok (.tup [.int .i64 (carrierOf cs v), .bool (hasV cs 0 v)]) []
  | _ => .bad
def gateIn (g : List D) (p : Int) : Bool := decide (0 ≤ p ∧ p < g.length)
def gateB (g : List D) (p : Int) (i : Nat) : Bool := gateIn g p && ((g.getD p.toNat (.i 0)).fld i).bool
-- SPEC bcomp_gate p pGate
def pGate : List AV → PR
  | [.sl (.st [.bool, .bool]) g .no, .int .i64 p] => .ok (.st [.bool (gateB g p 0), .bool (gateB g p 1)]) []
  | _ => .bad
def gatesD (ps : List D) : List D := ps.map fun d => .a [.b (d.fld 10).bool, .b (d.fld 8).bool]
-- SPEC bcomp_member p pMember
def pMember : List AV → PR
  | [.st [.arr 6 (.int .u8) own, .sl (.int .i64) ks .no, .sl (.st [.int .i64, .int .i64, .int .i64]) mp .no, .sl (.st [.int .i64, .int .i64]) cs .no, .sl (.st [.int .i64, .sl (.int .i64)]) ms .no], .int .i64 p,
      .st [.arr 6 (.int .u8) da, .arr 6 (.int .u8) sa, .st [.int .i64 bp, .bool bd, .int .i64 bv], .st [.int .i64 ip, .bool id, .bool iu, .int .i64 is, .arr 6 (.int .u8) cda, .arr 6 (.int .u8) csa], .sl (.int .u8) rest .no]] =>
    .iff (fewP (portsOf ms bv)) (.bool (hasI (portsOf ms bv) p)) []
  | _ => .bad
def sameM (a b : List D) : Bool := eqDn (eqD (.int .u8)) 6 a b
def inWhy (mem own : Bool) (k : Int) (fw : Bool) : Int := if mem then (if own then 11 else if k = 4 then 10 else if fw then 0 else 9) else 8
-- SPEC bcomp_In p pBIn
def pBIn : List AV → PR
  | [.st [.arr 6 (.int .u8) own, .sl (.int .i64) ks .no, .sl (.st [.int .i64, .int .i64, .int .i64]) mp .no, .sl (.st [.int .i64, .int .i64]) cs .no, .sl (.st [.int .i64, .sl (.int .i64)]) ms .no], .sl (.st [.bool, .bool]) g .no, .int .i64 p,
      .st [.arr 6 (.int .u8) da, .arr 6 (.int .u8) sa, .st [.int .i64 bp, .bool bd, .int .i64 bv], .st [.int .i64 ip, .bool id, .bool iu, .int .i64 is, .arr 6 (.int .u8) cda, .arr 6 (.int .u8) csa], .sl (.int .u8) rest .no]] =>
    .iff (fewP (portsOf ms bv)) (.int .i64 (inWhy (hasI (portsOf ms bv) p) (sameM sa own) (macKind da) (gateB g p 1))) []
  | _ => .bad
-- SPEC bcomp_Learns p pBLearns
def pBLearns : List AV → PR
  | [.st [.arr 6 (.int .u8) own, .sl (.int .i64) ks .no, .sl (.st [.int .i64, .int .i64, .int .i64]) mp .no, .sl (.st [.int .i64, .int .i64]) cs .no, .sl (.st [.int .i64, .sl (.int .i64)]) ms .no], .sl (.st [.bool, .bool]) g .no, .int .i64 p,
      .st [.arr 6 (.int .u8) da, .arr 6 (.int .u8) sa, .st [.int .i64 bp, .bool bd, .int .i64 bv], .st [.int .i64 ip, .bool id, .bool iu, .int .i64 is, .arr 6 (.int .u8) cda, .arr 6 (.int .u8) csa], .sl (.int .u8) rest .no]] =>
    .iff (fewP (portsOf ms bv)) (.bool (hasI (portsOf ms bv) p && (gateB g p 0 && (!sameM sa own && decide (macKind sa = 1))))) []
  | _ => .bad
-- SPEC bcomp_Accept p pBAccept
def pBAccept : List AV → PR
  | [.st [.arr 6 (.int .u8) own, .sl (.int .i64) ks .no, .sl (.st [.int .i64, .int .i64, .int .i64]) mp .no, .sl (.st [.int .i64, .int .i64]) cs .no, .sl (.st [.int .i64, .sl (.int .i64)]) ms .no],
      .st [.arr 6 (.int .u8) da, .arr 6 (.int .u8) sa, .st [.int .i64 bp, .bool bd, .int .i64 bv], .st [.int .i64 ip, .bool id, .bool iu, .int .i64 is, .arr 6 (.int .u8) cda, .arr 6 (.int .u8) csa], .sl (.int .u8) rest .no]] =>
    .ok (.int .i64 (if hasV cs 0 is = true ∧ carrierOf cs is = bv then 0 else 7)) []
  | _ => .bad
def goesB (own many has : Bool) (at' p : Int) : Bool := !own && (many || (!has || decide (p = at')))
-- SPEC bcomp_Out_1 s sGoes
def sGoes : List AV → Heap → SR
  | [.int .i64 p, .ptr 0 [] .bool, .ptr 1 [] .bool, .ptr 2 [] .bool, .ptr 3 [] (.int .i64)], [.var .bool (.bool own) false, .var .bool (.bool many) false, .var .bool (.bool has) false, .var (.int .i64) (.int .i64 a) false] =>
    .ok (.bool (goesB own many has a p)) [.var .bool (.bool own) false, .var .bool (.bool many) false, .var .bool (.bool has) false, .var (.int .i64) (.int .i64 a) false]
  | _, _ => .bad
def outOK (g : List D) (fr : Int) (own many has : Bool) (at' : Int) (p : Int) : Bool := !decide (p = fr) && (gateB g p 1 && goesB own many has at' p)
def outD (g : List D) (fr : Int) (own many has : Bool) (at' : Int) (ps : List D) : List D := (ps.filter fun d => outOK g fr own many has at' d.int).map fun d => .i d.int
-- SPEC bcomp_Out p pBOut
def pBOut : List AV → PR
  | [.st [.arr 6 (.int .u8) own, .sl (.int .i64) ks .no, .sl (.st [.int .i64, .int .i64, .int .i64]) mp .no, .sl (.st [.int .i64, .int .i64]) cs .no, .sl (.st [.int .i64, .sl (.int .i64)]) ms .no], .sl (.st [.bool, .bool]) g .no, .int .i64 fr,
      .st [.arr 6 (.int .u8) da, .arr 6 (.int .u8) sa, .st [.int .i64 bp, .bool bd, .int .i64 bv], .st [.int .i64 ip, .bool id, .bool iu, .int .i64 is, .arr 6 (.int .u8) cda, .arr 6 (.int .u8) csa], .sl (.int .u8) rest .no], .int .i64 a, .bool has] =>
    .iff (fewP (portsOf ms bv)) (.tup [.sl (.int .i64) (outD g fr (sameM da own) (odd0 da) has a (portsOf ms bv)) (.own 0), .bool (decide (0 ≤ fr) && (sameM da own || odd0 da))]) [.ext I64 (outD g fr (sameM da own) (odd0 da) has a (portsOf ms bv)).length]
  | _ => .bad
-- SPEC l19_awake p pYes19
def pYes19 : List AV → PR
  | [] => .ok (.bool true) []
  | _ => .bad
end Go.Vc
