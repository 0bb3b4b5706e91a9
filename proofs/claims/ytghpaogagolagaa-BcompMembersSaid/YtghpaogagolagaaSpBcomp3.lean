/- What the reference's check of what is provisioned comes to. -/
import Derived.Test.YtghpaogagolagaaSpBcomp2
set_option linter.unusedVariables false
namespace Go.Vc
-- SPEC r18_vid p pVid18
def pVid18 : List AV → PR
  | [.int .i64 n] => .ok (.bool (inVid n)) []
  | _ => .bad
def inIsid (n : Int) : Bool := decide (1 ≤ n) && decide (n ≤ 16777215)
-- SPEC r18_isid p pIsid18
def pIsid18 : List AV → PR
  | [.int .i64 n] => .ok (.bool (inIsid n)) []
  | _ => .bad
def areB (ks l : List D) (k : Int) : Bool := decide (∀ i, i < l.length → 0 ≤ getI l i ∧ getI l i < ks.length ∧ getI ks (getI l i).toNat = k)
-- SPEC r18_are p pAre18
def pAre18 : List AV → PR
  | [.st [.arr 6 (.int .u8) own, .sl (.int .i64) ks .no, .sl (.st [.int .i64, .int .i64, .int .i64]) mp .no, .sl (.st [.int .i64, .int .i64]) cs .no, .sl (.st [.int .i64, .sl (.int .i64)]) ms .no], .sl (.int .i64) l .no, .int .i64 k] => .ok (.bool (areB ks l k)) []
  | _ => .bad
-- SPEC r18_Carrier p pRCarrier
def pRCarrier : List AV → PR
  | [.st [.arr 6 (.int .u8) own, .sl (.int .i64) ks .no, .sl (.st [.int .i64, .int .i64, .int .i64]) mp .no, .sl (.st [.int .i64, .int .i64]) cs .no, .sl (.st [.int .i64, .sl (.int .i64)]) ms .no], .int .i64 v] =>
    .ok (.tup [.int .i64 (carrierOf cs v), .bool (hasV cs 0 v)]) []
  | _ => .bad
def beforeB (p v p' v' : Int) : Bool := decide (p < p' ∨ (p = p' ∧ v < v'))
-- SPEC r18_before p pBefore18
def pBefore18 : List AV → PR
  | [.st [.int .i64 p, .int .i64 v, .int .i64 s], .st [.int .i64 p', .int .i64 v', .int .i64 s']] => .ok (.bool (beforeB p v p' v')) []
  | _ => .bad
def fld0 (ds : List D) : List D := ds.map fun d => .i (d.fld 0).int
def memOK (ks : List D) (d : D) : Bool := inVid (d.fld 0).int && (riseD (d.fld 1).list && areB ks (d.fld 1).list 2)
def memsOK (ks ms : List D) : Bool := decide (∀ i, i < ms.length → memOK ks (ms.getD i (.i 0)) = true) && riseD (fld0 ms)
-- SPEC r18_members p pMembers18
def pMembers18 : List AV → PR
  | [.st [.arr 6 (.int .u8) own, .sl (.int .i64) ks .no, .sl (.st [.int .i64, .int .i64, .int .i64]) mp .no, .sl (.st [.int .i64, .int .i64]) cs .no, .sl (.st [.int .i64, .sl (.int .i64)]) ms .no]] => .iff (ms.length ≤ 64) (.bool (memsOK ks ms)) []
  | _ => .bad
def carOK (ms : List D) (d : D) : Bool := inIsid (d.fld 0).int && hasV ms 0 (d.fld 1).int
def carsOK (ms cs : List D) : Bool := decide (∀ i, i < cs.length → carOK ms (cs.getD i (.i 0)) = true) && riseD (fld0 cs)
-- SPEC r18_carries p pCarries18
def pCarries18 : List AV → PR
  | [.st [.arr 6 (.int .u8) own, .sl (.int .i64) ks .no, .sl (.st [.int .i64, .int .i64, .int .i64]) mp .no, .sl (.st [.int .i64, .int .i64]) cs .no, .sl (.st [.int .i64, .sl (.int .i64)]) ms .no]] => .iff (cs.length ≤ 64) (.bool (carsOK ms cs)) []
  | _ => .bad
def mapOK (ks cs mp : List D) (i : Nat) : Bool :=
  decide (inVid ((mp.getD i (.i 0)).fld 1).int = true ∧ hasV cs 0 ((mp.getD i (.i 0)).fld 2).int = true ∧ areB ks [.i ((mp.getD i (.i 0)).fld 0).int] 1 = true ∧
    (∀ k, k < i → ¬ (((mp.getD k (.i 0)).fld 0).int = ((mp.getD i (.i 0)).fld 0).int ∧ ((mp.getD k (.i 0)).fld 2).int = ((mp.getD i (.i 0)).fld 2).int)) ∧
    (0 < i → beforeB ((mp.getD (i - 1) (.i 0)).fld 0).int ((mp.getD (i - 1) (.i 0)).fld 1).int ((mp.getD i (.i 0)).fld 0).int ((mp.getD i (.i 0)).fld 1).int = true))
def mapsOK (ks cs mp : List D) : Bool := decide (∀ i, i < mp.length → mapOK ks cs mp i = true)
-- SPEC r18_maps p pMaps18
def pMaps18 : List AV → PR
  | [.st [.arr 6 (.int .u8) own, .sl (.int .i64) ks .no, .sl (.st [.int .i64, .int .i64, .int .i64]) mp .no, .sl (.st [.int .i64, .int .i64]) cs .no, .sl (.st [.int .i64, .sl (.int .i64)]) ms .no]] => .iff (mp.length ≤ 64) (.bool (mapsOK ks cs mp)) []
  | _ => .bad
def kindsOK (ks : List D) : Bool := decide (∀ i, i < ks.length → getI ks i = 1 ∨ getI ks i = 2)
def chk18 (own ks mp cs ms : List D) : Bool := decide (macKind own = 1 ∧ 1 ≤ ks.length ∧ ks.length ≤ 8) && (kindsOK ks && (decide (ms.length ≤ 64 ∧ cs.length ≤ 64 ∧ mp.length ≤ 64) && (memsOK ks ms && (carsOK ms cs && mapsOK ks cs mp))))
-- SPEC r18_Check p pCheck18
def pCheck18 : List AV → PR
  | [.st [.arr 6 (.int .u8) own, .sl (.int .i64) ks .no, .sl (.st [.int .i64, .int .i64, .int .i64]) mp .no, .sl (.st [.int .i64, .int .i64]) cs .no, .sl (.st [.int .i64, .sl (.int .i64)]) ms .no]] => .ok (.int .i64 (if chk18 own ks mp cs ms = true then 0 else 180)) []
  | _ => .bad
end Go.Vc
