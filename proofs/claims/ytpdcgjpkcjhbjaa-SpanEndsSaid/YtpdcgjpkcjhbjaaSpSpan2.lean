/- What the functions of the layer 'span' come to: nodes, ends, the tree. -/
import Derived.Test.YtpdcgjpkcjhbjaaSpSpan
import Derived.Test.YtpdcgjpkcjhbjaaSpanMath
set_option linter.unusedVariables false
namespace Go.Vc
abbrev TyEnd : Ty := .st [I64, I64, I64, .st [.int .u64, .int .u32, .int .u64, .int .u16]]
/-- A vector. -/
structure V4 where
  r : Int
  c : Int
  b : Int
  p : Int
deriving DecidableEq
def sideOf (s : D) : Span.Side := ⟨(fi s 0).toNat, (fi s 3).toNat, fi s 2⟩
/-- Each bridge's root and cost. -/
def labs (ids ss : List D) : Nat → Span.Lab := Span.B (ss.map sideOf) (getI ids) ids.length
def nodeD (x : Span.Lab) (p : Int) : D := .a [.i x.1, .i x.2, .i p]
def rowL (n : Nat) (L : Nat → Span.Lab) (P : Nat → Int) : List D := (List.range n).map fun v => nodeD (L v) (P v)
def labOf (ns : List D) (v : Nat) : Span.Lab := (fi (ns.getD v (.i 0)) 0, fi (ns.getD v (.i 0)) 1)
def bet (x y : V4) : Bool := betterV x.r x.c x.b x.p y.r y.c y.b y.p
/-- What a side hears, with its cost. -/
def addV (ids : List D) (L : Nat → Span.Lab) (s : D) : V4 := ⟨(L (fi s 3).toNat).1, IntKind.u32.wrap ((L (fi s 3).toNat).2 + fi s 2), getI ids (fi s 3).toNat, portID (fi s 4)⟩
def rpWins (a : Int × V4) (v : V4) (p : Int) : Bool := decide (a.1 < 0) || (bet v a.2 || decide (v = a.2 ∧ p < a.1))
def rpStep (ids : List D) (L : Nat → Span.Lab) (a : Int × V4) (s : D) : Int × V4 := if rpWins a (addV ids L s) (fi s 1) then (fi s 1, addV ids L s) else a
def rpS (ids : List D) (L : Nat → Span.Lab) (i : Int) (a : Int × V4) (s : D) : Int × V4 := if fi s 0 = i then rpStep ids L a s else a
/-- The best port of a bridge. -/
def rpOf (ids : List D) (L : Nat → Span.Lab) (i : Int) (ss : List D) : Int × V4 := ss.foldl (rpS ids L i) (-1, ⟨0, 0, 0, 0⟩)
/-- Sides that may be. -/
def goodS (n : Nat) (ss : List D) : Prop := 1 ≤ n ∧ n ≤ 7 ∧ ss.length ≤ 48 ∧ ∀ i, i < ss.length → 0 ≤ fi (ss.getD i (.i 0)) 0 ∧ fi (ss.getD i (.i 0)) 0 < n ∧ 0 ≤ fi (ss.getD i (.i 0)) 3 ∧ fi (ss.getD i (.i 0)) 3 < n ∧ 1 ≤ fi (ss.getD i (.i 0)) 2 ∧ fi (ss.getD i (.i 0)) 2 ≤ 200000000
-- SPEC r16_roots p pRoots
def pRoots : List AV → PR
  | [.sl (.int .u64) ids .no, .sl (.st [.int .i64, .int .i64, .int .u32, .int .i64, .int .i64]) ss .no] =>
    .iff (goodS ids.length ss) (.rsl 0 TyNode 0 ids.length) [.fix TyNode (rowL ids.length (labs ids ss) fun _ => -1) false]
  | _ => .bad
-- SPEC span_rootPort p pRootPort
def pRootPort : List AV → PR
  | [.sl (.int .u64) ids .no, .sl (.st [.int .i64, .int .i64, .int .i64, .int .i64, .int .u32, .int .u32]) es .no, .sl (.st [.int .u64, .int .u32, .int .i64]) ns .no, .int .i64 i] =>
    .iff (goodS ids.length (sidesD es) ∧ ns.length = ids.length) (.int .i64 (rpOf ids (labOf ns) i (sidesD es)).1) []
  | _ => .bad
def rpN (ids ss : List D) (v : Nat) : Int := if (labs ids ss v).1 = getI ids v then -1 else (rpOf ids (labs ids ss) v ss).1
def nodesD (ids es : List D) : List D := rowL ids.length (labs ids (sidesD es)) (rpN ids (sidesD es))
-- SPEC span_Nodes p pNodes
-- SPEC r16_Nodes p pNodes
def pNodes : List AV → PR
  | [.sl (.int .u64) ids .no, .sl (.st [.int .i64, .int .i64, .int .i64, .int .i64, .int .u32, .int .u32]) es .no] =>
    .br (spanOK ids es) (.ok (.tup [.sl TyNode (nodesD ids es) (.own 0), .int .i64 0]) [.ext TyNode (nodesD ids es).length]) (.ok (.tup [.sl TyNode [] .full, .int .i64 160]) [])
  | _ => .bad
def told4 (ids ns : List D) (b p : Int) : V4 := ⟨fi (ns.getD b.toNat (.i 0)) 0, fi (ns.getD b.toNat (.i 0)) 1, getI ids b.toNat, portID p⟩
def vD (x : V4) : D := .a [.i x.r, .i x.c, .i x.b, .i x.p]
def roleD (ids ns : List D) (s : D) : Int := if fi (ns.getD (fi s 0).toNat (.i 0)) 2 = fi s 1 then 3 else if bet (told4 ids ns (fi s 0) (fi s 1)) (told4 ids ns (fi s 3) (fi s 4)) then 4 else 1
def endD (ids ns : List D) (s : D) : D := .a [.i (fi s 0), .i (fi s 1), .i (roleD ids ns s), vD (if bet (told4 ids ns (fi s 0) (fi s 1)) (told4 ids ns (fi s 3) (fi s 4)) then told4 ids ns (fi s 0) (fi s 1) else told4 ids ns (fi s 3) (fi s 4))]
def endsD (ids es : List D) : List D := (sidesD es).map (endD ids (nodesD ids es))
-- SPEC span_Ends p pEnds
-- SPEC r16_Ends p pEnds
def pEnds : List AV → PR
  | [.sl (.int .u64) ids .no, .sl (.st [.int .i64, .int .i64, .int .i64, .int .i64, .int .u32, .int .u32]) es .no] =>
    .br (spanOK ids es) (.ok (.tup [.sl TyEnd (endsD ids es) (.own 0), .int .i64 0]) [.ext TyEnd (endsD ids es).length]) (.ok (.tup [.sl TyEnd [] .full, .int .i64 160]) [])
  | _ => .bad
def carries (l : List D) (i : Nat) : Bool := !decide (fi (l.getD (2 * i) (.i 0)) 2 = 1) && !decide (fi (l.getD (2 * i + 1) (.i 0)) 2 = 1)
def treeI (l : List D) (n : Nat) : List D := ((List.range n).filter (carries l)).map fun i => .i (i : Nat)
-- SPEC span_Tree p pTree
-- SPEC r16_Tree p pTree
def pTree : List AV → PR
  | [.sl (.int .u64) ids .no, .sl (.st [.int .i64, .int .i64, .int .i64, .int .i64, .int .u32, .int .u32]) es .no] =>
    .br (spanOK ids es) (.ok (.tup [.sl I64 (treeI (endsD ids es) es.length) (.own 0), .int .i64 0]) [.ext I64 (treeI (endsD ids es) es.length).length]) (.ok (.tup [.sl I64 [] .full, .int .i64 160]) [])
  | _ => .bad
-- SPEC l16_edge p pEdge
def pEdge : List AV → PR
  | [.int .i64 a, .int .i64 pa, .int .i64 b, .int .i64 pb] => .ok (.st [.int .i64 a, .int .i64 pa, .int .i64 b, .int .i64 pb, .int .u32 10, .int .u32 10]) []
  | _ => .bad
-- SPEC l16_few p pFewE
def pFewE : List AV → PR
  | [.sl (.st [.int .i64, .int .i64, .int .i64, .int .i64, .int .u32, .int .u32]) es .no] => .ok (.sl TyEdge (es.take 26) .no) []
  | _ => .bad
-- SPEC l16_short p pShortI
def pShortI : List AV → PR
  | [.sl (.int .u64) ids .no] => .ok (.sl (.int .u64) (ids.take 9) .no) []
  | _ => .bad
-- SPEC l16_awake p pAwakeS
def pAwakeS : List AV → PR
  | [] => .ok (.bool true) []
  | _ => .bad
def sameNs (xs ys : List D) : Bool := decide (xs.length = ys.length ∧ ∀ i, i < xs.length → fi (xs.getD i (.i 0)) 0 = fi (ys.getD i (.i 0)) 0 ∧ fi (xs.getD i (.i 0)) 1 = fi (ys.getD i (.i 0)) 1 ∧ fi (xs.getD i (.i 0)) 2 = fi (ys.getD i (.i 0)) 2)
-- SPEC l16_sameNodes p pSameNs
def pSameNs : List AV → PR
  | [.sl (.st [.int .u64, .int .u32, .int .i64]) xs .no, .sl (.st [.int .u64, .int .u32, .int .i64]) ys .no] => .ok (.bool (sameNs xs ys)) []
  | [.sl (.st [.int .u64, .int .u32, .int .i64]) [] .full, .sl (.st [.int .u64, .int .u32, .int .i64]) [] .full] => .ok (.bool true) []
  | _ => .bad
def sameE (x y : D) : Bool := decide (fi x 0 = fi y 0 ∧ fi x 1 = fi y 1 ∧ fi x 2 = fi y 2 ∧ fi (x.fld 3) 0 = fi (y.fld 3) 0 ∧ fi (x.fld 3) 1 = fi (y.fld 3) 1 ∧ fi (x.fld 3) 2 = fi (y.fld 3) 2 ∧ fi (x.fld 3) 3 = fi (y.fld 3) 3)
def sameEs (xs ys : List D) : Bool := decide (xs.length = ys.length ∧ ∀ i, i < xs.length → sameE (xs.getD i (.i 0)) (ys.getD i (.i 0)) = true)
-- SPEC l16_sameEnds p pSameEs
def pSameEs : List AV → PR
  | [.sl (.st [.int .i64, .int .i64, .int .i64, .st [.int .u64, .int .u32, .int .u64, .int .u16]]) xs .no, .sl (.st [.int .i64, .int .i64, .int .i64, .st [.int .u64, .int .u32, .int .u64, .int .u16]]) ys .no] => .ok (.bool (sameEs xs ys)) []
  | [.sl (.st [.int .i64, .int .i64, .int .i64, .st [.int .u64, .int .u32, .int .u64, .int .u16]]) [] .full, .sl (.st [.int .i64, .int .i64, .int .i64, .st [.int .u64, .int .u32, .int .u64, .int .u16]]) [] .full] => .ok (.bool true) []
  | _ => .bad
def sameIs (xs ys : List D) : Bool := decide (xs.length = ys.length ∧ ∀ i, i < xs.length → getI xs i = getI ys i)
-- SPEC l16_sameInts p pSameIs
def pSameIs : List AV → PR
  | [.sl (.int .i64) xs .no, .sl (.int .i64) ys .no] => .ok (.bool (sameIs xs ys)) []
  | [.sl (.int .i64) [] .full, .sl (.int .i64) [] .full] => .ok (.bool true) []
  | _ => .bad
end Go.Vc
