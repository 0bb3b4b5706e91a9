/- What the functions of the layer 'tag' come to. -/
import Derived.Test.YtiddoflcajgjjaaVcExt
set_option linter.unusedVariables false
namespace Go.Vc

/-- Bytes of a number, the highest first. -/
def be (n : Int) : Nat → List D
  | 0 => []
  | k + 1 => .i (n / 256 ^ k % 256) :: be n k
theorem be_length (n : Int) : ∀ k, (be n k).length = k
  | 0 => rfl
  | k + 1 => by simp [be, be_length n k]
abbrev u8 : Ty := .int .u8
abbrev bytesA (xs : List D) (t : Tok) : AV := .sl u8 xs t

-- SPEC tag_within p pWithin
def pWithin : List AV → PR
  | [.int .i64 x, .int .i64 a, .int .i64 b] => .ok (.bool (decide (a ≤ x) && decide (x ≤ b))) []
  | _ => .bad
def tagOK (p v : Int) : Bool := decide (0 ≤ p) && decide (p ≤ 7) && decide (1 ≤ v) && decide (v ≤ 4094)
def itagOK (p v : Int) : Bool := decide (0 ≤ p) && decide (p ≤ 7) && decide (0 ≤ v) && decide (v ≤ 16777215)
-- SPEC tag_Check p pTagCheck
-- SPEC r02_Check p pTagCheck
def pTagCheck : List AV → PR
  | [.st [.int .i64 p, .bool d, .int .i64 v]] => .ok (.int .i64 (if tagOK p v then 0 else 20)) []
  | _ => .bad
-- SPEC r02_Is p pTagIs
def pTagIs : List AV → PR
  | [.st [.int .i64 p, .bool d, .int .i64 v]] => .ok (.bool (tagOK p v)) []
  | _ => .bad
-- SPEC tag_CheckI p pTagCheckI
-- SPEC r02_CheckI p pTagCheckI
def pTagCheckI : List AV → PR
  | [.st [.int .i64 p, .bool d, .bool u, .int .i64 v, .arr 6 (.int .u8) da, .arr 6 (.int .u8) sa]] => .ok (.int .i64 (if itagOK p v then 0 else 20)) []
  | _ => .bad
-- SPEC r02_IsI p pTagIsI
def pTagIsI : List AV → PR
  | [.st [.int .i64 p, .bool d, .bool u, .int .i64 v, .arr 6 (.int .u8) da, .arr 6 (.int .u8) sa]] => .ok (.bool (itagOK p v)) []
  | _ => .bad
-- SPEC tag_numbered p pNumbered
def pNumbered : List AV → PR
  | [.int .u32 n, .int .i64 k] => .iff (0 ≤ k ∧ k ≤ 4) (bytesA (be n k.toNat) (.own 0)) [.ext u8 k.toNat]
  | _ => .bad
-- SPEC tag_bit p pBit
def pBit : List AV → PR
  | [.bool b, .int .u64 k] => .iff (k ≤ 31) (.int .u32 (if b then 2 ^ k.toNat else 0)) []
  | _ => .bad
-- SPEC r02_bit p pRBit
def pRBit : List AV → PR
  | [.bool b, .int .i64 k] => .ok (.int .i64 (if b then k else 0)) []
  | _ => .bad
def tagNum (p : Int) (d : Bool) (v : Int) : Int := p * 8192 + (if d then 4096 else 0) + v
def itagNum (p : Int) (d u : Bool) (i : Int) : Int := p * 536870912 + (if d then 268435456 else 0) + (if u then 134217728 else 0) + i
def putRes (ok : Bool) (xs : List D) : PR := .br ok (.ok (.tup [bytesA xs (.own 0), .int .i64 0]) [.ext u8 xs.length]) (.ok (.tup [bytesA [] .full, .int .i64 20]) [])
-- SPEC tag_Put p pTagPut
-- SPEC r02_Put p pTagPut
def pTagPut : List AV → PR
  | [.st [.int .i64 p, .bool d, .int .i64 v]] => .br (tagOK p v) (.ok (.tup [bytesA (be (tagNum p d v) 2) (.own 0), .int .i64 0]) [.ext u8 2]) (.ok (.tup [bytesA [] .full, .int .i64 20]) [])
  | _ => .bad
-- SPEC r02_Bytes p pTagBytes
def pTagBytes : List AV → PR
  | [.st [.int .i64 p, .bool d, .int .i64 v]] => .iff (tagOK p v = true) (bytesA (be (tagNum p d v) 2) (.own 0)) [.ext u8 2]
  | _ => .bad
-- SPEC tag_PutI p pTagPutI
-- SPEC r02_PutI p pTagPutI
def pTagPutI : List AV → PR
  | [.st [.int .i64 p, .bool d, .bool u, .int .i64 i, .arr 6 (.int .u8) da, .arr 6 (.int .u8) sa]] => .br (itagOK p i) (.ok (.tup [bytesA (be (itagNum p d u i) 4 ++ da ++ sa) (.own 0), .int .i64 0]) [.ext u8 16]) (.ok (.tup [bytesA [] .full, .int .i64 20]) [])
  | _ => .bad
-- SPEC r02_BytesI p pTagBytesI
def pTagBytesI : List AV → PR
  | [.st [.int .i64 p, .bool d, .bool u, .int .i64 i, .arr 6 (.int .u8) da, .arr 6 (.int .u8) sa]] => .iff (itagOK p i = true) (bytesA (be (itagNum p d u i) 4 ++ da ++ sa) (.own 0)) [.ext u8 16]
  | _ => .bad
-- SPEC slices_Grow_u8 p pGrow8
-- SPECF slices_Grow_u8
def pGrow8 : List AV → PR
  | [.sl (.int .u8) [] .full, .int .i64 n] => .br (decide (0 < n)) (.iff (n ≤ 140737488355328) (bytesA [] (.own 0)) [.ext u8 0]) (.iff (0 ≤ n) (bytesA [] .full) [])
  | _ => .bad
def cat (xs : List D) : List D := xs.flatMap D.list
-- SPEC slices_Concat_u8 p pConcat8
def pConcat8 : List AV → PR
  | [.sl (.sl (.int .u8)) xs .no] => .iff ((cat xs).length ≤ 140737488355328) (bytesA (cat xs) (.own 0)) [.ext u8 (cat xs).length]
  | _ => .bad
-- SPEC l02_awake p pYes
def pYes : List AV → PR
  | [] => .ok (.bool true) []
  | _ => .bad
-- SPEC l02_TagPuts p pTagPuts
def pTagPuts : List AV → PR
  | [.st [.int .i64 p, .bool d, .int .i64 v], .st [.int .i64 q, .bool e, .bool u, .int .i64 i, .arr 6 (.int .u8) da, .arr 6 (.int .u8) sa]] => .ok (.bool true) []
  | _ => .bad
end Go.Vc
