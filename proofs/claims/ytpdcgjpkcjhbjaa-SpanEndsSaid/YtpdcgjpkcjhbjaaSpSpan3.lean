/- What the statements of the layer 'span' come to, and which nodes edges join. -/
import Derived.Test.YtpdcgjpkcjhbjaaSpSpan2
set_option linter.unusedVariables false
namespace Go.Vc
def jUpd (L : Nat → Int) (v : Nat) (x : Int) : Nat → Int := fun w => if w = v then x else L w
/-- An edge brings the less of its two to both. -/
def jS (L : Nat → Int) (e : D) : Nat → Int := jUpd (jUpd L (fi e 0).toNat (min (L (fi e 0).toNat) (L (fi e 2).toNat))) (fi e 2).toNat (min (L (fi e 0).toNat) (L (fi e 2).toNat))
def jR (es : List D) : Nat → Nat → Int
  | 0 => fun v => (v : Int)
  | k + 1 => es.foldl jS (jR es k)
def jRow (n : Nat) (L : Nat → Int) : List D := (List.range n).map fun v => .i (L v)
def joinD (n : Nat) (es : List D) : List D := jRow n (jR es n)
def jOK (n : Nat) (es : List D) : Prop := n ≤ 7 ∧ es.length ≤ 24 ∧ ∀ i, i < es.length → 0 ≤ fi (es.getD i (.i 0)) 0 ∧ fi (es.getD i (.i 0)) 0 < n ∧ 0 ≤ fi (es.getD i (.i 0)) 2 ∧ fi (es.getD i (.i 0)) 2 < n
-- SPEC l16_joined p pJoined
def pJoined : List AV → PR
  | [.int .i64 n, .sl (.st [.int .i64, .int .i64, .int .i64, .int .i64, .int .u32, .int .u32]) es .no] => .iff (0 ≤ n ∧ jOK n.toNat es) (.rsl 0 I64 0 n.toNat) [.fix I64 (joinD n.toNat es) false]
  | _ => .bad
-- SPEC l16_SpanNodes p pLSp
-- SPEC l16_SpanEnds p pLSp
-- SPEC l16_SpanTree p pLSp
-- SPEC l16_SpanFits p pLSp
-- SPEC l16_SpanLeast p pLSp
-- SPEC l16_SpanStable p pLSp
def pLSp : List AV → PR
  | [.sl (.int .u64) ids .no, .sl (.st [.int .i64, .int .i64, .int .i64, .int .i64, .int .u32, .int .u32]) es .no] => .ok (.bool true) []
  | _ => .bad
-- SPEC l16_SpanTurned p pLSpT
def pLSpT : List AV → PR
  | [.sl (.int .u64) ids .no, .sl (.st [.int .i64, .int .i64, .int .i64, .int .i64, .int .u32, .int .u32]) es .no, .int .u32 bits] => .ok (.bool true) []
  | _ => .bad
end Go.Vc
