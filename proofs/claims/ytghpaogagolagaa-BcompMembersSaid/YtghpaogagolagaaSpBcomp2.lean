/- What the gates, what is cut, and the statements of the layer 'bcomp' come to. -/
import Derived.Test.YtghpaogagolagaaSpBcomp
set_option linter.unusedVariables false
namespace Go.Vc
abbrev TyPortF : Ty := .st [.int .u16, .int .u32, .bool, .bool, .bool, .bool, .bool, .bool, .bool, .bool, .bool, .bool, .bool, .bool, .bool, .bool, .bool, .bool, .bool, .bool, .bool, .bool, .bool, .bool, .bool, .bool, .bool, .bool, .bool, .int .i64, .int .i64, .int .i64, .st [.int .u64, .int .u32, .int .u64, .int .u16], .st [.int .u64, .int .u32, .int .u64, .int .u16], .st [.int .u8, .int .u8, .int .u8, .int .u8], .st [.int .u8, .int .u8, .int .u8, .int .u8], .st [.int .i64, .bool, .bool, .bool, .bool, .bool, .bool, .int .i64, .st [.int .u64, .int .u32, .int .u64, .int .u16], .st [.int .u8, .int .u8, .int .u8, .int .u8]], .int .u8, .int .u8, .int .u8, .int .u8, .int .u8, .int .u8, .int .u8, .int .u8, .int .i64, .int .i64, .int .i64, .int .i64, .int .i64]
-- SPEC bcomp_Gates p pGates
-- SPEC r19_Gates p pGates
def pGates : List AV → PR
  | [.st [.int .u64 a0, .st [.int .u8 a1, .int .u8 a2, .int .u8 a3, .int .u8 a4], .int .u8 a5, .bool a6, .int .u16 a7, .st [.int .u64 b0, .int .u32 b1, .int .u64 b2, .int .u16 b3], .st [.int .u8 a8, .int .u8 a9, .int .u8 a10, .int .u8 a11], .sl ty ps .no]] => bif Ty.same ty TyPortF then .iff (ps.length ≤ 1000) (.sl (.st [.bool, .bool]) (gatesD ps) (.own 0)) [.ext TyGate (gatesD ps).length] else .bad
  | _ => .bad
-- SPEC l19_BcompGates p pLGates
def pLGates : List AV → PR
  | [.st [.int .u64 a0, .st [.int .u8 a1, .int .u8 a2, .int .u8 a3, .int .u8 a4], .int .u8 a5, .bool a6, .int .u16 a7, .st [.int .u64 b0, .int .u32 b1, .int .u64 b2, .int .u16 b3], .st [.int .u8 a8, .int .u8 a9, .int .u8 a10, .int .u8 a11], .sl ty ps .no]] => bif Ty.same ty TyPortF then .ok (.bool true) [] else .bad
  | _ => .bad
def fewM (d : D) : D := .a [.i (d.fld 0).int, .l ((d.fld 1).list.take 10)]
def fewMs (ms : List D) : List D := (ms.take 12).map fewM
-- SPEC l19_Few p pFew19
def pFew19 : List AV → PR
  | [.st [.arr 6 (.int .u8) own, .sl (.int .i64) ks .no, .sl (.st [.int .i64, .int .i64, .int .i64]) mp .no, .sl (.st [.int .i64, .int .i64]) cs .no, .sl (.st [.int .i64, .sl (.int .i64)]) ms .no]] =>
    .ok (.st [.arr 6 (.int .u8) own, .sl (.int .i64) (ks.take 10) .no, .sl TyMap (mp.take 12) .no, .sl TyCarry (cs.take 12) .no, .sl TyMember (fewMs ms) (.own 0)]) [.ext TyMember (fewMs ms).length]
  | _ => .bad
def gcopy (d : D) : D := .a [.b (d.fld 0).bool, .b (d.fld 1).bool]
-- SPEC l19_cut p pCut19
def pCut19 : List AV → PR
  | [.sl (.st [.bool, .bool]) g .no] => .ok (.tup [.sl TyGate (g.take 10) .no, .sl TyGate ((g.take 10).map gcopy) (.own 0)]) [.ext TyGate ((g.take 10).map gcopy).length]
  | _ => .bad
-- SPEC l19_BcompMembers p pLMembers
def pLMembers : List AV → PR
  | [.st [.arr 6 (.int .u8) own, .sl (.int .i64) ks .no, .sl (.st [.int .i64, .int .i64, .int .i64]) mp .no, .sl (.st [.int .i64, .int .i64]) cs .no, .sl (.st [.int .i64, .sl (.int .i64)]) ms .no], .sl (.st [.bool, .bool]) g .no, .int .i64 fr, .st [.arr 6 (.int .u8) da, .arr 6 (.int .u8) sa, .st [.int .i64 bp, .bool bd, .int .i64 bv], .st [.int .i64 ip, .bool id, .bool iu, .int .i64 is, .arr 6 (.int .u8) cda, .arr 6 (.int .u8) csa], .sl (.int .u8) rest .no], .int .i64 a, .bool has] => .ok (.bool true) []
  | _ => .bad
-- SPEC l19_BcompApart p pLApart
def pLApart : List AV → PR
  | [.st [.arr 6 (.int .u8) own, .sl (.int .i64) ks .no, .sl (.st [.int .i64, .int .i64, .int .i64]) mp .no, .sl (.st [.int .i64, .int .i64]) cs .no, .sl (.st [.int .i64, .sl (.int .i64)]) ms .no], .sl (.st [.bool, .bool]) g .no, .int .i64 p, .st [.arr 6 (.int .u8) da, .arr 6 (.int .u8) sa, .st [.int .i64 bp, .bool bd, .int .i64 bv], .st [.int .i64 ip, .bool id, .bool iu, .int .i64 is, .arr 6 (.int .u8) cda, .arr 6 (.int .u8) csa], .sl (.int .u8) rest .no], .int .i64 a, .st [.int .i64 mv, .sl (.int .i64) mps .no], .st [.int .i64 ci, .int .i64 cv]] => .ok (.bool true) []
  | _ => .bad
end Go.Vc
