/- What the functions of the layer 'tag' that take bytes apart come to. -/
import Derived.Test.YtiddoflcajgjjaaSpTag
set_option linter.unusedVariables false
namespace Go.Vc

/-- The number of some bytes. -/
def num (xs : List D) : Int := xs.foldl (fun n x => n * 256 + x.int) 0
/-- A byte. -/
def ato (xs : List D) (i : Nat) : Int := (xs.getD i (.i 0)).int
def nilB : AV := .sl (.int .u8) [] .full
def tagA (p : Int) (d : Bool) (v : Int) : AV := .st [.int .i64 p, .bool d, .int .i64 v]
def itagA (p : Int) (d u : Bool) (i : Int) (da sa : List D) : AV := .st [.int .i64 p, .bool d, .bool u, .int .i64 i, .arr 6 (.int .u8) da, .arr 6 (.int .u8) sa]
def six0 : List D := [.i 0, .i 0, .i 0, .i 0, .i 0, .i 0]

-- SPEC tag_number p pNumber
def pNumber : List AV → PR
  | [.sl (.int .u8) xs .no] => .iff (xs.length ≤ 4) (.int .u32 (num xs)) []
  | _ => .bad
-- SPEC slices_Clone_u8 p pClone8
def pClone8 : List AV → PR
  | [.sl (.int .u8) xs .no] => .iff (xs.length ≤ 140737488355328) (bytesA xs (.own 0)) [.ext u8 xs.length]
  | _ => .bad
-- SPEC tag_cutter p pCutter
def pCutter : List AV → PR
  | [.int .u32 n] => .ok (.fn 101 [.ptr 0 [] (.int .u32)]) [.var (.int .u32) (.int .u32 n) false]
  | _ => .bad
-- SPEC tag_cutter_1 s sCutter
def sCutter : List AV → Heap → SR
  | [.int .u64 k, .ptr 0 [] (.int .u32)], [.var (.int .u32) (.int .u32 n) false] => .iff (k ≤ 31 ∧ 0 ≤ n ∧ n < 4294967296) (.int .i64 (n % 2 ^ k.toNat)) [.var (.int .u32) (.int .u32 (n / 2 ^ k.toNat)) false]
  | _, _ => .bad
-- SPEC tag_Take p pTake
-- SPEC r02_Take p pTake
def pTake : List AV → PR
  | [.sl (.int .u8) xs .no] => .br (decide (xs.length < 2)) (.ok (.tup [tagA 0 false 0, nilB, .int .i64 6]) [])
      (.br (tagOK ((ato xs 0 * 256 + ato xs 1) / 8192) ((ato xs 0 * 256 + ato xs 1) % 4096))
        (.iff (xs.length ≤ 140737488355328) (.tup [tagA ((ato xs 0 * 256 + ato xs 1) / 8192) (decide ((ato xs 0 * 256 + ato xs 1) / 4096 % 2 = 1)) ((ato xs 0 * 256 + ato xs 1) % 4096), bytesA (xs.drop 2) (.own 0), .int .i64 0]) [.ext u8 (xs.length - 2)])
        (.ok (.tup [tagA 0 false 0, nilB, .int .i64 20]) []))
  | _ => .bad
-- SPEC tag_TakeI p pTakeI
-- SPEC r02_TakeI p pTakeI
def pTakeI : List AV → PR
  | [.sl (.int .u8) xs .no] => .br (decide (xs.length < 16)) (.ok (.tup [itagA 0 false false 0 six0 six0, nilB, .int .i64 6]) [])
      (.br (decide (ato xs 0 % 8 = 0))
        (.iff (xs.length ≤ 140737488355328) (.tup [itagA (ato xs 0 / 32) (decide (ato xs 0 / 16 % 2 = 1)) (decide (ato xs 0 / 8 % 2 = 1)) (ato xs 1 * 65536 + ato xs 2 * 256 + ato xs 3) ((xs.drop 4).take 6) ((xs.drop 10).take 6), bytesA (xs.drop 16) (.own 0), .int .i64 0]) [.ext u8 (xs.length - 16)])
        (.ok (.tup [itagA 0 false false 0 six0 six0, nilB, .int .i64 20]) []))
  | _ => .bad
-- SPEC tag_TakeType p pTakeType
-- SPEC r02_TakeType p pTakeType
def pTakeType : List AV → PR
  | [.sl (.int .u8) xs .no] => .br (decide (xs.length < 2)) (.ok (.tup [.int .i64 0, nilB, .int .i64 6]) [])
      (.iff (xs.length ≤ 140737488355328) (.tup [.int .i64 (ato xs 0 * 256 + ato xs 1), bytesA (xs.drop 2) (.own 0), .int .i64 0]) [.ext u8 (xs.length - 2)])
  | _ => .bad
-- SPEC tag_PutType p pPutType
-- SPEC r02_PutType p pPutType
def pPutType : List AV → PR
  | [.int .i64 n, .sl (.sl (.int .u8)) xs .no] => .br (decide (0 ≤ n) && decide (n ≤ 65535))
      (.iff ((cat xs).length ≤ 140737488355000) (.tup [bytesA (be n 2 ++ cat xs) (.own 0), .int .i64 0]) [.ext u8 (2 + (cat xs).length)])
      (.ok (.tup [nilB, .int .i64 1]) [])
  | _ => .bad
-- SPEC tag_Carried p pCarried
-- SPEC r02_Carried p pCarried
def pCarried : List AV → PR
  | [.st [.int .i64 p, .bool d, .int .i64 v], .int .i64 w] => .br (tagOK p v && tagOK p w) (.ok (.tup [tagA p d w, .int .i64 0]) []) (.ok (.tup [tagA 0 false 0, .int .i64 20]) [])
  | _ => .bad
-- SPEC l02_cut p pCut
def pCut : List AV → PR
  | [.sl (.int .u8) xs .no] => .ok (bytesA (xs.take 400) .no) []
  | _ => .bad
-- SPEC l02_TagTypes p pTagTypes
def pTagTypes : List AV → PR
  | [.int .i64 n, .sl (.int .u8) a .no, .sl (.int .u8) b .no, .st [.int .i64 p, .bool d, .int .i64 v], .int .i64 w] => .ok (.bool true) []
  | _ => .bad
-- SPEC l02_TagTakes p pTagTakes
def pTagTakes : List AV → PR
  | [.sl (.int .u8) a .no] => .ok (.bool true) []
  | _ => .bad
-- SPEC l02_TagBack p pTagBack
def pTagBack : List AV → PR
  | [.st [.int .i64 p, .bool d, .int .i64 v], .st [.int .i64 p', .bool d', .bool u', .int .i64 i', .arr 6 (.int .u8) da, .arr 6 (.int .u8) sa], .sl (.int .u8) m .no, .sl (.int .u8) b .no] => .ok (.bool true) []
  | _ => .bad
end Go.Vc
