/- What the functions of the layers 'mac' and 'ether' come to. -/
import Derived.Test.YtiddoflcajgjjaaAuSpTag2
set_option linter.unusedVariables false
namespace Go.Vc
abbrev TTag : Ty := .st [.int .i64, .bool, .int .i64]
abbrev TITag : Ty := .st [.int .i64, .bool, .bool, .int .i64, .arr 6 (.int .u8), .arr 6 (.int .u8)]
abbrev TMac : Ty := .arr 6 (.int .u8)
abbrev TFr : Ty := .st [TMac, TMac, .bool, TTag, .sl (.int .u8)]
abbrev macA (m : List D) : AV := .arr 6 (.int .u8) m
abbrev frA (da sa : List D) (t : Bool) (p : Int) (d : Bool) (v : Int) (rest : List D) (tok : Tok) : AV := .st [macA da, macA sa, .bool t, .st [.int .i64 p, .bool d, .int .i64 v], .sl (.int .u8) rest tok]
abbrev fr0 : AV := frA six0 six0 false 0 false 0 [] .no
def macKind (m : List D) : Int :=
  if ato m 0 = 0 ∧ ato m 1 = 0 ∧ ato m 2 = 0 ∧ ato m 3 = 0 ∧ ato m 4 = 0 ∧ ato m 5 = 0 then 6
  else if ato m 0 = 255 ∧ ato m 1 = 255 ∧ ato m 2 = 255 ∧ ato m 3 = 255 ∧ ato m 4 = 255 ∧ ato m 5 = 255 then 3
  else if ato m 0 = 1 ∧ ato m 1 = 128 ∧ ato m 2 = 194 ∧ ato m 3 = 0 ∧ ato m 4 = 0 ∧ ato m 5 < 16 then 4
  else if ato m 0 = 1 ∧ ato m 1 = 30 ∧ ato m 2 = 131 then 5
  else if ato m 0 % 2 = 1 then 2 else 1
def odd0 (m : List D) : Bool := decide (ato m 0 % 2 = 1)
def all6 (m : List D) (b : Int) : Bool := decide (ato m 0 = b ∧ ato m 1 = b ∧ ato m 2 = b ∧ ato m 3 = b ∧ ato m 4 = b ∧ ato m 5 = b)
def isZ (n : Int) : Bool := decide (n = 0)
def short (xs : List D) (n : Nat) : Bool := decide (xs.length < n)
def inVid (w : Int) : Bool := decide (1 ≤ w) && decide (w ≤ 4094)
theorem isZ_iff {n : Int} : isZ n = true ↔ n = 0 := by simp [isZ]
theorem short_iff {xs : List D} {n : Nat} : short xs n = true ↔ xs.length < n := by simp [short]
theorem short_f {xs : List D} {n : Nat} : short xs n = false ↔ ¬ xs.length < n := by simp [short]
theorem inVid_iff {w : Int} : inVid w = true ↔ 1 ≤ w ∧ w ≤ 4094 := by simp [inVid]
theorem all6_iff {m : List D} {b : Int} : all6 m b = true ↔ ato m 0 = b ∧ ato m 1 = b ∧ ato m 2 = b ∧ ato m 3 = b ∧ ato m 4 = b ∧ ato m 5 = b := by simp [all6]
-- SPEC mac_Many p pMany
def pMany : List AV → PR
  | [.arr 6 (.int .u8) m] => .ok (.bool (odd0 m)) []
  | _ => .bad
-- SPEC r01_same p pSame1
def pSame1 : List AV → PR
  | [.arr 6 (.int .u8) m, .int .u8 b] => .ok (.bool (all6 m b)) []
  | _ => .bad
-- SPEC mac_Kind p pKind
-- SPEC r01_Kind p pKind
def pKind : List AV → PR
  | [.arr 6 (.int .u8) m] => .ok (.int .i64 (macKind m)) []
  | _ => .bad
def marked (xs : List D) : Bool := decide (2 ≤ xs.length) && decide (ato xs 0 = 136) && decide (ato xs 1 = 168)
-- SPEC ether_marked p pMarked
-- SPEC r03_tagged p pMarked
def pMarked : List AV → PR
  | [.sl (.int .u8) xs .no] => .iff (xs.length ≤ 140737488355328) (.bool (marked xs)) []
  | _ => .bad
/-- Whether a frame may be. -/
def frOK (da sa : List D) (t : Bool) (p : Int) (d : Bool) (v : Int) (rest : List D) : Bool :=
  decide (macKind sa = 1) && !decide (macKind da = 6) && decide (2 ≤ rest.length) && (if t then tagOK p v else decide (p = 0) && !d && decide (v = 0) && !marked rest)
def frChk (da sa : List D) (t : Bool) (p : Int) (d : Bool) (v : Int) (rest : List D) : Int :=
  if 1502 < rest.length then 2 else if frOK da sa t p d v rest then 0 else 30
-- SPEC ether_Check p pFrCheck
-- SPEC r03_Check p pFrCheck
def pFrCheck : List AV → PR
  | [.st [.arr 6 (.int .u8) da, .arr 6 (.int .u8) sa, .bool t, .st [.int .i64 p, .bool d, .int .i64 v], .sl (.int .u8) rest .no]] => .ok (.int .i64 (frChk da sa t p d v rest)) []
  | _ => .bad
def frB (da sa : List D) (t : Bool) (p : Int) (d : Bool) (v : Int) (rest : List D) : List D :=
  da ++ sa ++ (if t then [.i 136, .i 168] ++ be (tagNum p d v) 2 else []) ++ rest
-- SPEC ether_Encode p pFrEnc
-- SPEC r03_Encode p pFrEnc
def pFrEnc : List AV → PR
  | [.st [.arr 6 (.int .u8) da, .arr 6 (.int .u8) sa, .bool t, .st [.int .i64 p, .bool d, .int .i64 v], .sl (.int .u8) rest .no]] =>
    .br (isZ (frChk da sa t p d v rest)) (.ok (.tup [bytesA (frB da sa t p d v rest) (.own 0), .int .i64 0]) [.ext u8 (frB da sa t p d v rest).length])
      (.ok (.tup [nilB, .int .i64 (frChk da sa t p d v rest)]) [])
  | _ => .bad
def sameB (xs ys : List D) : Bool := decide (bytesOf xs = bytesOf ys)
-- SPEC slices_Equal_u8 p pEqual8
def pEqual8 : List AV → PR
  | [.sl (.int .u8) xs .no, .sl (.int .u8) ys .no] => .ok (.bool (sameB xs ys)) []
  | _ => .bad
def eq6 (xs ys : List D) : Bool := eqDn (eqD (.int .u8)) 6 xs ys
def eqTag (p : Int) (d : Bool) (v : Int) (p' : Int) (d' : Bool) (v' : Int) : Bool := decide (p = p') && ((d == d') && decide (v = v'))
def sameFr (da sa : List D) (t : Bool) (p : Int) (d : Bool) (v : Int) (rest : List D) (da' sa' : List D) (t' : Bool) (p' : Int) (d' : Bool) (v' : Int) (rest' : List D) : Bool :=
  eq6 da da' && eq6 sa sa' && (t == t') && eqTag p d v p' d' v' && sameB rest rest'
-- SPEC ether_Same p pFrSame
-- SPEC r03_Same p pFrSame
def pFrSame : List AV → PR
  | [.st [.arr 6 (.int .u8) da, .arr 6 (.int .u8) sa, .bool t, .st [.int .i64 p, .bool d, .int .i64 v], .sl (.int .u8) rest .no], .st [.arr 6 (.int .u8) da', .arr 6 (.int .u8) sa', .bool t', .st [.int .i64 p', .bool d', .int .i64 v'], .sl (.int .u8) rest' .no]] =>
    .ok (.bool (sameFr da sa t p d v rest da' sa' t' p' d' v' rest')) []
  | _ => .bad
-- SPEC ether_Type p pFrType
-- SPEC r03_Type p pFrType
def pFrType : List AV → PR
  | [.st [.arr 6 (.int .u8) da, .arr 6 (.int .u8) sa, .bool t, .st [.int .i64 p, .bool d, .int .i64 v], .sl (.int .u8) rest .no]] =>
    .br (short rest 2) (.ok (.int .i64 0) []) (.iff (rest.length ≤ 140737488355328) (.int .i64 (ato rest 0 * 256 + ato rest 1)) [])
  | _ => .bad
-- SPEC l03_Light p pLight
def pLight : List AV → PR
  | [.st [.arr 6 (.int .u8) da, .arr 6 (.int .u8) sa, .bool t, .st [.int .i64 p, .bool d, .int .i64 v], .sl (.int .u8) rest .no]] => .ok (frA da sa t p d v (rest.take 1600) .no) []
  | _ => .bad
-- SPEC l03_cut p pCut17
def pCut17 : List AV → PR
  | [.sl (.int .u8) xs .no] => .ok (bytesA (xs.take 1700) .no) []
  | _ => .bad
def tg (t : Bool) (x y : Int) : Int := if t then x else y
def tgl (t : Bool) (x y : List D) : List D := if t then x else y
def n2 (xs : List D) : Int := ato xs 0 * 256 + ato xs 1
-- SPEC ether_Decode p pFrDec
-- SPEC r03_Decode p pFrDec
def pFrDec : List AV → PR
  | [.sl (.int .u8) xs .no] =>
    .br (short xs 14) (.ok (.tup [fr0, .int .i64 6]) [])
      (.br (marked (xs.drop 12))
        (.br (short xs 18) (.ok (.tup [fr0, .int .i64 6]) [])
          (.br (!short xs 1519) (.iff (xs.length ≤ 140737488355328) (.tup [fr0, .int .i64 2]) [])
            (.br (tagOK (n2 (xs.drop 14) / 8192) (n2 (xs.drop 14) % 4096) && frOK (xs.take 6) ((xs.drop 6).take 6) true (n2 (xs.drop 14) / 8192) (decide (n2 (xs.drop 14) / 4096 % 2 = 1)) (n2 (xs.drop 14) % 4096) (xs.drop 16))
              (.ok (.tup [frA (xs.take 6) ((xs.drop 6).take 6) true (n2 (xs.drop 14) / 8192) (decide (n2 (xs.drop 14) / 4096 % 2 = 1)) (n2 (xs.drop 14) % 4096) (xs.drop 16) (.own 0), .int .i64 0]) [.ext u8 (xs.length - 16)])
              (.ok (.tup [fr0, .int .i64 30]) []))))
        (.br (!short xs 1515) (.iff (xs.length ≤ 140737488355328) (.tup [fr0, .int .i64 2]) [])
          (.br (frOK (xs.take 6) ((xs.drop 6).take 6) false 0 false 0 (xs.drop 12))
            (.ok (.tup [frA (xs.take 6) ((xs.drop 6).take 6) false 0 false 0 (xs.drop 12) (.own 0), .int .i64 0]) [.ext u8 (xs.length - 12)])
            (.ok (.tup [fr0, .int .i64 30]) []))))
  | _ => .bad
-- SPEC ether_Retag p pRetag
def pRetag : List AV → PR
  | [.st [.arr 6 (.int .u8) da, .arr 6 (.int .u8) sa, .bool t, .st [.int .i64 p, .bool d, .int .i64 v], .sl (.int .u8) rest .no], .int .i64 w] =>
    .br (isZ (frChk da sa t p d v rest)) (.br t
        (.br (inVid w) (.ok (.tup [frA da sa true p d w rest (.own 0), .int .i64 0]) [.ext u8 rest.length]) (.ok (.tup [fr0, .int .i64 1]) []))
        (.ok (.tup [fr0, .int .i64 30]) []))
      (.ok (.tup [fr0, .int .i64 (frChk da sa t p d v rest)]) [])
  | _ => .bad
-- SPEC r03_Retag p pRRetag
def pRRetag : List AV → PR
  | [.st [.arr 6 (.int .u8) da, .arr 6 (.int .u8) sa, .bool t, .st [.int .i64 p, .bool d, .int .i64 v], .sl (.int .u8) rest .no], .int .i64 w] =>
    .br (isZ (frChk da sa t p d v rest)) (.br t
        (.br (inVid w) (.ok (.tup [frA da sa true p d w rest .no, .int .i64 0]) []) (.ok (.tup [fr0, .int .i64 1]) []))
        (.ok (.tup [fr0, .int .i64 30]) []))
      (.ok (.tup [fr0, .int .i64 (frChk da sa t p d v rest)]) [])
  | _ => .bad
-- SPEC l03_plain p pPlain
def pPlain : List AV → PR
  | [] => .ok (frA [.i 255, .i 255, .i 255, .i 255, .i 255, .i 255] [.i 2, .i 0, .i 0, .i 0, .i 0, .i 1] true 3 false 100 [.i 8, .i 0, .i 69] (.own 0)) [.ext u8 3]
  | _ => .bad
-- SPEC l03_awake p pYes3
def pYes3 : List AV → PR
  | [] => .ok (.bool true) []
  | _ => .bad
-- SPEC l03_EtherEncodes p pFr1
def pFr1 : List AV → PR
  | [.st [.arr 6 (.int .u8) da, .arr 6 (.int .u8) sa, .bool t, .st [.int .i64 p, .bool d, .int .i64 v], .sl (.int .u8) rest .no]] => .ok (.bool true) []
  | _ => .bad
-- SPEC l03_EtherDecodes p pB1
def pB1 : List AV → PR
  | [.sl (.int .u8) b .no] => .ok (.bool true) []
  | _ => .bad
-- SPEC l03_EtherTells p pFr2
def pFr2 : List AV → PR
  | [.st [.arr 6 (.int .u8) da, .arr 6 (.int .u8) sa, .bool t, .st [.int .i64 p, .bool d, .int .i64 v], .sl (.int .u8) rest .no], .st [.arr 6 (.int .u8) da', .arr 6 (.int .u8) sa', .bool t', .st [.int .i64 p', .bool d', .int .i64 v'], .sl (.int .u8) rest' .no], .int .i64 w] => .ok (.bool true) []
  | _ => .bad
-- SPEC l03_EtherBack p pFrB
def pFrB : List AV → PR
  | [.st [.arr 6 (.int .u8) da, .arr 6 (.int .u8) sa, .bool t, .st [.int .i64 p, .bool d, .int .i64 v], .sl (.int .u8) rest .no], .sl (.int .u8) b .no] => .ok (.bool true) []
  | _ => .bad
end Go.Vc
