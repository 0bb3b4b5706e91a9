/- What the functions of the layers 'vector' and 'span' come to. -/
import Derived.Test.YtpdcgjpkcjhbjaaSpEth
set_option linter.unusedVariables false
namespace Go.Vc
abbrev I64 : Ty := .int .i64
abbrev TyVec : Ty := .st [.int .u64, .int .u32, .int .u64, .int .u16]
abbrev TyNode : Ty := .st [.int .u64, .int .u32, I64]
abbrev TyEdge : Ty := .st [I64, I64, I64, I64, .int .u32, .int .u32]
abbrev TySide : Ty := .st [I64, I64, .int .u32, I64, I64]
abbrev TyPlace : Ty := .st [I64, I64]
abbrev TyPSide : Ty := .st [.st [I64, I64], .int .u32, .st [I64, I64]]
def fi (d : D) (i : Nat) : Int := (d.fld i).int
def getI (xs : List D) (i : Nat) : Int := (xs.getD i (.i 0)).int
def vecA (r c b p : Int) : AV := .st [.int .u64 r, .int .u32 c, .int .u64 b, .int .u16 p]
def sideA (e : D) : D := .a [.i (fi e 0), .i (fi e 1), .i (fi e 4), .i (fi e 2), .i (fi e 3)]
def sideB (e : D) : D := .a [.i (fi e 2), .i (fi e 3), .i (fi e 5), .i (fi e 0), .i (fi e 1)]
/-- All edges, from both ends. -/
def sidesD (es : List D) : List D := es.flatMap fun e => [sideA e, sideB e]
-- SPEC span_sides p pSides2
def pSides2 : List AV → PR
  | [.st [.int .i64 a, .int .i64 pa, .int .i64 b, .int .i64 pb, .int .u32 ca, .int .u32 cb]] =>
    .ok (.arr 2 TyPSide [.a [.a [.i a, .i pa], .i ca, .a [.i b, .i pb]], .a [.a [.i b, .i pb], .i cb, .a [.i a, .i pa]]]) []
  | _ => .bad
-- SPEC r16_Sides p pSidesD
def pSidesD : List AV → PR
  | [.sl (.st [.int .i64, .int .i64, .int .i64, .int .i64, .int .u32, .int .u32]) es .no] => .iff (es.length ≤ 1000) (.sl TySide (sidesD es) (.own 0)) [.ext TySide (sidesD es).length]
  | _ => .bad
def portID (p : Int) : Int := IntKind.u16.wrap (IntKind.i64.wrap (32769 + p))
-- SPEC r16_PortID p pPortID
def pPortID : List AV → PR
  | [.int .i64 p] => .ok (.int .u16 (portID p)) []
  | _ => .bad
def sameAddr (a b : Int) : Bool := decide (a % 281474976710656 = b % 281474976710656)
-- SPEC r06_SameAddress p pSameAddr
def pSameAddr : List AV → PR
  | [.int .u64 a, .int .u64 b] => .ok (.bool (sameAddr a b)) []
  | _ => .bad
-- SPEC vector_Address p pAddr
def pAddr : List AV → PR
  | [.int .u64 a] => .ok (.arr 6 (.int .u8) (be a 6)) []
  | _ => .bad
-- SPEC span_within p pWithin
def betterV (r c b p r' c' b' p' : Int) : Bool := if r = r' then (if c = c' then (if b = b' then decide (p < p') else decide (b < b')) else decide (c < c')) else decide (r < r')
def cmpV (r c b p r' c' b' p' : Int) : Int := if betterV r c b p r' c' b' p' then -1 else if betterV r' c' b' p' r c b p then 1 else 0
-- SPEC r06_Better p pBetter
-- SPEC vector_Better p pBetter
def pBetter : List AV → PR
  | [.st [.int .u64 r, .int .u32 c, .int .u64 b, .int .u16 p], .st [.int .u64 r', .int .u32 c', .int .u64 b', .int .u16 p']] => .ok (.bool (betterV r c b p r' c' b' p')) []
  | _ => .bad
-- SPEC vector_Compare p pCompare
def pCompare : List AV → PR
  | [.st [.int .u64 r, .int .u32 c, .int .u64 b, .int .u16 p], .st [.int .u64 r', .int .u32 c', .int .u64 b', .int .u16 p']] => .ok (.int .i64 (cmpV r c b p r' c' b' p')) []
  | _ => .bad
-- SPEC r06_Add p pAddV
-- SPEC vector_Add p pAddV
def pAddV : List AV → PR
  | [.st [.int .u64 r, .int .u32 c, .int .u64 b, .int .u16 p], .int .u32 x] => .ok (.st [.int .u64 r, .int .u32 (IntKind.u32.wrap (c + x)), .int .u64 b, .int .u16 p]) []
  | _ => .bad
-- SPEC span_Nodes_1 s sLess
def lessB (r c r' c' : Int) : Bool := decide (r < r') || (decide (r = r') && decide (c < c'))
def sLess : List AV → Heap → SR
  | [.st [.int .u64 r, .int .u32 c, .int .i64 p], .st [.int .u64 r', .int .u32 c', .int .i64 p']], [] => .ok (.bool (lessB r c r' c')) []
  | _, _ => .bad
def toldA (ids ns : List D) (b p : Int) : AV := .st [.int .u64 (fi (ns.getD b.toNat (.i 0)) 0), .int .u32 (fi (ns.getD b.toNat (.i 0)) 1), .int .u64 (getI ids b.toNat), .int .u16 (portID p)]
-- SPEC span_told p pTold
def pTold : List AV → PR
  | [.sl (.int .u64) ids .no, .sl (.st [.int .u64, .int .u32, .int .i64]) ns .no, .st [.int .i64 b, .int .i64 p]] => .iff (0 ≤ b ∧ b < ids.length ∧ b < ns.length) (toldA ids ns b p) []
  | _ => .bad
-- SPEC r16_Told p pTold2
def pTold2 : List AV → PR
  | [.sl (.int .u64) ids .no, .sl (.st [.int .u64, .int .u32, .int .i64]) ns .no, .int .i64 b, .int .i64 p] => .iff (0 ≤ b ∧ b < ids.length ∧ b < ns.length) (toldA ids ns b p) []
  | _ => .bad
/-- May a side be? -/
def sideOK (n : Nat) (s : D) : Bool := decide (0 ≤ fi s 0 ∧ fi s 0 < n ∧ fi s 0 ≠ fi s 3 ∧ 0 ≤ fi s 1 ∧ fi s 1 ≤ 7 ∧ 1 ≤ fi s 2 ∧ fi s 2 ≤ 200000000)
def samePlace (s t : D) : Bool := decide (fi s 0 = fi t 0 ∧ fi s 1 = fi t 1)
def idsOK (ids : List D) : Bool := decide (∀ i, i < ids.length → ∀ k, k < i → sameAddr (getI ids i) (getI ids k) = false)
def sidesOK (n : Nat) (l : List D) : Bool := decide (∀ i, i < l.length → sideOK n (l.getD i (.i 0)) = true ∧ ∀ k, k < i → samePlace (l.getD k (.i 0)) (l.getD i (.i 0)) = false)
def spanOK (ids es : List D) : Bool := decide (1 ≤ ids.length ∧ ids.length ≤ 7 ∧ es.length ≤ 24) && (idsOK ids && sidesOK ids.length (sidesD es))
-- SPEC span_Check p pSpCheck
-- SPEC r16_Check p pSpCheck
def pSpCheck : List AV → PR
  | [.sl (.int .u64) ids .no, .sl (.st [.int .i64, .int .i64, .int .i64, .int .i64, .int .u32, .int .u32]) es .no] => .ok (.int .i64 (if spanOK ids es then 0 else 160)) []
  | _ => .bad
end Go.Vc
