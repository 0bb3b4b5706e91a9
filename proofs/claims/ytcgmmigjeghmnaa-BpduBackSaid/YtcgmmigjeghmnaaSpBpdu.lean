/- What the functions of the layer 'bpdu' come to. -/
import Derived.Test.YtcgmmigjeghmnaaSpEth
set_option linter.unusedVariables false
namespace Go.Vc
/-- A message. -/
structure BP where
  k : Int
  tc : Bool
  ack : Bool
  pr : Bool
  le : Bool
  fo : Bool
  ag : Bool
  ro : Int
  R : Int
  C : Int
  B : Int
  P : Int
  ta : Int
  tm : Int
  th : Int
  td : Int
abbrev bpA (m : BP) : AV := .st [.int .i64 m.k, .bool m.tc, .bool m.ack, .bool m.pr, .bool m.le, .bool m.fo, .bool m.ag, .int .i64 m.ro, .st [.int .u64 m.R, .int .u32 m.C, .int .u64 m.B, .int .u16 m.P], .st [.int .u8 m.ta, .int .u8 m.tm, .int .u8 m.th, .int .u8 m.td]]
def bp0 : BP := ⟨0, false, false, false, false, false, false, 0, 0, 0, 0, 0, 0, 0, 0, 0⟩
def tcnM : BP := ⟨2, false, false, false, false, false, false, 0, 0, 0, 0, 0, 0, 0, 0, 0⟩
def roleBits (r : Int) : Int := if r = 0 then 0 else if r = 1 then 1 else if r = 3 then 2 else if r = 4 then 3 else -1
def rRole (r : Int) : Int := if r = 1 then 1 else if r = 3 then 2 else if r = 4 then 3 else 0
def roleOf (n : Int) : Int := if n = 1 then 1 else if n = 2 then 3 else if n = 3 then 4 else 0
def bi (b : Bool) (n : Int) : Int := if b then n else 0
/-- Whether a message may be. -/
def fineB (m : BP) : Bool :=
  if m.k = 2 then decide (m.tc = false ∧ m.ack = false ∧ m.pr = false ∧ m.le = false ∧ m.fo = false ∧ m.ag = false ∧ m.ro = 0 ∧ m.R = 0 ∧ m.C = 0 ∧ m.B = 0 ∧ m.P = 0 ∧ m.ta = 0 ∧ m.tm = 0 ∧ m.th = 0 ∧ m.td = 0)
  else if m.k = 1 then decide (m.pr = false ∧ m.le = false ∧ m.fo = false ∧ m.ag = false ∧ m.ro = 0)
  else decide (m.k = 3 ∧ m.ack = false ∧ (m.ro = 0 ∨ m.ro = 1 ∨ m.ro = 3 ∨ m.ro = 4))
def bFlags (m : BP) : Int :=
  if m.k = 3 then bi m.tc 1 + bi m.pr 2 + 4 * rRole m.ro + bi m.le 16 + bi m.fo 32 + bi m.ag 64 else bi m.tc 1 + bi m.ack 128
def isK (m : BP) (k : Int) : Bool := decide (m.k = k)
/-- What stands ahead of the flags. -/
def bHead (m : BP) : List D := if m.k = 3 then [.i 0, .i 0, .i 2, .i 2] else [.i 0, .i 0, .i 0, .i 0]
def bTimes (m : BP) : List D := [.i m.ta, .i 0, .i m.tm, .i 0, .i m.th, .i 0, .i m.td, .i 0]
def bBytes (m : BP) : List D :=
  if m.k = 2 then [.i 0, .i 0, .i 0, .i 128]
  else bHead m ++ [.i (bFlags m)] ++ be m.R 8 ++ be m.C 4 ++ be m.B 8 ++ be m.P 2 ++ bTimes m ++ (if m.k = 3 then [.i 0] else [])
-- SPEC bpdu_bits p pBits
def pBits : List AV → PR
  | [.int .i64 r] => .ok (.int .i64 (roleBits r)) []
  | _ => .bad
-- SPEC r05_role p pRRole
def pRRole : List AV → PR
  | [.int .i64 r] => .ok (.int .i64 (rRole r)) []
  | _ => .bad
-- SPEC r05_roleOf p pRoleOf
def pRoleOf : List AV → PR
  | [.int .i64 n] => .ok (.int .i64 (roleOf n)) []
  | _ => .bad
-- SPEC bpdu_role p pBRole
def pBRole : List AV → PR
  | [.int .u8 n] => .ok (.int .i64 (roleOf (n % 4))) []
  | _ => .bad
-- SPEC r05_flag p pFlag
def pFlag : List AV → PR
  | [.bool b, .int .i64 n] => .ok (.int .i64 (bi b n)) []
  | _ => .bad
def bitN (f n : Int) : Bool := decide (f / n % 2 = 1)
-- SPEC r05_bit p pBitN
def pBitN : List AV → PR
  | [.int .u8 f, .int .i64 n] => .iff (0 < n) (.bool (bitN f n)) []
  | _ => .bad
-- SPEC bpdu_Check p pBpCheck
def pBpCheck : List AV → PR
  | [.st [.int .i64 k, .bool tc, .bool ack, .bool pr, .bool le, .bool fo, .bool ag, .int .i64 ro, .st [.int .u64 R, .int .u32 C, .int .u64 B, .int .u16 P], .st [.int .u8 ta, .int .u8 tm, .int .u8 th, .int .u8 td]]] =>
    .ok (.int .i64 (if fineB ⟨k, tc, ack, pr, le, fo, ag, ro, R, C, B, P, ta, tm, th, td⟩ then 0 else 50)) []
  | _ => .bad
-- SPEC r05_fine p pFine
def pFine : List AV → PR
  | [.st [.int .i64 k, .bool tc, .bool ack, .bool pr, .bool le, .bool fo, .bool ag, .int .i64 ro, .st [.int .u64 R, .int .u32 C, .int .u64 B, .int .u16 P], .st [.int .u8 ta, .int .u8 tm, .int .u8 th, .int .u8 td]]] =>
    .ok (.bool (fineB ⟨k, tc, ack, pr, le, fo, ag, ro, R, C, B, P, ta, tm, th, td⟩)) []
  | _ => .bad
def orF (n f : Int) (b : Bool) : Int := if b then bitI .or .u8 n f else n
-- SPEC bpdu_flags_1 s sPut
def sPut : List AV → Heap → SR
  | [.bool b, .int .u8 f, .ptr 0 [] (.int .u8)], [.var (.int .u8) (.int .u8 n) false] => .ok (.tup []) [.var (.int .u8) (.int .u8 (orF n f b)) false]
  | _, _ => .bad
-- SPEC bpdu_flags p pFlags
def pFlags : List AV → PR
  | [.st [.int .i64 k, .bool tc, .bool ack, .bool pr, .bool le, .bool fo, .bool ag, .int .i64 ro, .st [.int .u64 R, .int .u32 C, .int .u64 B, .int .u16 P], .st [.int .u8 ta, .int .u8 tm, .int .u8 th, .int .u8 td]]] =>
    .iff (fineB ⟨k, tc, ack, pr, le, fo, ag, ro, R, C, B, P, ta, tm, th, td⟩ = true) (.int .u8 (bFlags ⟨k, tc, ack, pr, le, fo, ag, ro, R, C, B, P, ta, tm, th, td⟩)) []
  | _ => .bad
-- SPEC bpdu_number s sNumB
def sNumB : List AV → Heap → SR
  | [.sl (.int .u8) xs (.own 0), .int .u64 n, .int .i64 k], [.ext (.int .u8) m] => .iff (0 ≤ k ∧ k ≤ 8 ∧ m = xs.length ∧ xs.length ≤ 1000) (.sl (.int .u8) (xs ++ be n k.toNat) (.own 0)) [.ext (.int .u8) (xs.length + k.toNat)]
  | _, _ => .bad
-- SPEC r05_put p pPutB
def pPutB : List AV → PR
  | [.int .u64 n, .int .i64 k] => .iff (0 ≤ k ∧ k ≤ 8) (.sl (.int .u8) (be n k.toNat) .no) []
  | _ => .bad
-- SPEC bpdu_Bytes p pBBytes
-- SPEC r05_Bytes p pBBytes
def pBBytes : List AV → PR
  | [.st [.int .i64 k, .bool tc, .bool ack, .bool pr, .bool le, .bool fo, .bool ag, .int .i64 ro, .st [.int .u64 R, .int .u32 C, .int .u64 B, .int .u16 P], .st [.int .u8 ta, .int .u8 tm, .int .u8 th, .int .u8 td]]] =>
    .br (fineB ⟨k, tc, ack, pr, le, fo, ag, ro, R, C, B, P, ta, tm, th, td⟩) (.ok (.tup [bytesA (bBytes ⟨k, tc, ack, pr, le, fo, ag, ro, R, C, B, P, ta, tm, th, td⟩) (.own 0), .int .i64 0]) [.ext u8 (bBytes ⟨k, tc, ack, pr, le, fo, ag, ro, R, C, B, P, ta, tm, th, td⟩).length])
      (.ok (.tup [nilB, .int .i64 50]) [])
  | _ => .bad
-- SPEC bpdu_at p pAt
def pAt : List AV → PR
  | [.sl (.int .u8) xs .no, .int .i64 i, .int .i64 k] => .iff (0 ≤ i ∧ 0 ≤ k ∧ k ≤ 8 ∧ i + k ≤ xs.length) (.int .u64 (num ((xs.drop i.toNat).take k.toNat))) []
  | _ => .bad
-- SPEC r05_get p pGet
def pGet : List AV → PR
  | [.sl (.int .u8) xs .no] => .iff (xs.length ≤ 8) (.int .u64 (num xs)) []
  | _ => .bad
def numAt (xs : List D) (i k : Nat) : Int := num ((xs.drop i).take k)
/-- The message of a row, of a kind that has fields. -/
def cfgM (xs : List D) : BP := ⟨1, bitN (ato xs 4) 1, bitN (ato xs 4) 128, false, false, false, false, 0, numAt xs 5 8, numAt xs 13 4, numAt xs 17 8, numAt xs 25 2, ato xs 27, ato xs 29, ato xs 31, ato xs 33⟩
def rstM (a : Bool) (xs : List D) : BP := ⟨3, bitN (ato xs 4) 1, a, bitN (ato xs 4) 2, bitN (ato xs 4) 16, bitN (ato xs 4) 32, bitN (ato xs 4) 64, roleOf (ato xs 4 / 4 % 4), numAt xs 5 8, numAt xs 13 4, numAt xs 17 8, numAt xs 25 2, ato xs 27, ato xs 29, ato xs 31, ato xs 33⟩
-- SPEC bpdu_fields p pFields
def pFields : List AV → PR
  | [.st [.int .i64 k, .bool tc, .bool ack, .bool pr, .bool le, .bool fo, .bool ag, .int .i64 ro, .st [.int .u64 R, .int .u32 C, .int .u64 B, .int .u16 P], .st [.int .u8 ta, .int .u8 tm, .int .u8 th, .int .u8 td]], .sl (.int .u8) xs .no] =>
    .br (isK ⟨k, tc, ack, pr, le, fo, ag, ro, R, C, B, P, ta, tm, th, td⟩ 3) (.iff (34 ≤ xs.length) (bpA (rstM (bitN (ato xs 4) 128) xs)) [])
      (.iff (34 ≤ xs.length ∧ k = 1 ∧ pr = false ∧ le = false ∧ fo = false ∧ ag = false ∧ ro = 0) (bpA (cfgM xs)) [])
  | _ => .bad
def len36 (xs : List D) : Bool := decide (xs.length = 36)
def len35 (xs : List D) : Bool := decide (xs.length = 35)
def len4 (xs : List D) : Bool := decide (xs.length = 4)
/-- The message of a row. -/
def rdM (xs : List D) : BP := if xs.length = 4 then tcnM else if xs.length = 35 then cfgM xs else rstM false xs
def rdOK (xs : List D) : Bool := decide (xs.length = 4 ∨ xs.length = 35 ∨ xs.length = 36) && sameB (bBytes (rdM xs)) xs
-- SPEC bpdu_Read p pRead
-- SPEC r05_Read p pRead
def pRead : List AV → PR
  | [.sl (.int .u8) xs .no] => .br (short xs 4) (.ok (.tup [bpA bp0, .int .i64 6]) []) (.br (rdOK xs) (.ok (.tup [bpA (rdM xs), .int .i64 0]) []) (.ok (.tup [bpA bp0, .int .i64 50]) []))
  | _ => .bad
def bGrp : List D := [.i 1, .i 128, .i 194, .i 0, .i 0, .i 0]
def bEnc (src : List D) (m : BP) : List D := bGrp ++ src ++ be (3 + (bBytes m).length) 2 ++ [.i 66, .i 66, .i 3] ++ bBytes m
def single (m : List D) : Bool := decide (macKind m = 1)
-- SPEC bpdu_Encode p pBpEnc
-- SPEC r05_Encode p pBpEnc
def pBpEnc : List AV → PR
  | [.arr 6 (.int .u8) src, .st [.int .i64 k, .bool tc, .bool ack, .bool pr, .bool le, .bool fo, .bool ag, .int .i64 ro, .st [.int .u64 R, .int .u32 C, .int .u64 B, .int .u16 P], .st [.int .u8 ta, .int .u8 tm, .int .u8 th, .int .u8 td]]] =>
    .br (single src) (.br (fineB ⟨k, tc, ack, pr, le, fo, ag, ro, R, C, B, P, ta, tm, th, td⟩) (.ok (.tup [bytesA (bEnc src ⟨k, tc, ack, pr, le, fo, ag, ro, R, C, B, P, ta, tm, th, td⟩) (.own 0), .int .i64 0]) [.ext u8 (bEnc src ⟨k, tc, ack, pr, le, fo, ag, ro, R, C, B, P, ta, tm, th, td⟩).length])
      (.ok (.tup [nilB, .int .i64 50]) [])) (.ok (.tup [nilB, .int .i64 1]) [])
  | _ => .bad
def decS (xs : List D) : List D := (xs.drop 6).take 6
def decM (xs : List D) : BP := rdM (xs.drop 17)
def decOK (xs : List D) : Bool := rdOK (xs.drop 17) && single (decS xs) && sameB (bEnc (decS xs) (decM xs)) xs
-- SPEC bpdu_Decode p pBpDec
-- SPEC r05_Decode p pBpDec
def pBpDec : List AV → PR
  | [.sl (.int .u8) xs .no] => .br (short xs 21) (.ok (.tup [macA six0, bpA bp0, .int .i64 6]) []) (.br (decOK xs) (.ok (.tup [macA (decS xs), bpA (decM xs), .int .i64 0]) []) (.ok (.tup [macA six0, bpA bp0, .int .i64 50]) []))
  | _ => .bad
-- SPEC r05_group p pGroup
def pGroup : List AV → PR
  | [] => .ok (bytesA bGrp (.own 0)) [.ext u8 6]
  | _ => .bad
-- SPEC bpdu_bridges p pBridges
def pBridges : List AV → PR
  | [] => .ok (macA bGrp) []
  | _ => .bad
-- SPEC bpdu_llc p pLlc
def pLlc : List AV → PR
  | [] => .ok (bytesA [.i 66, .i 66, .i 3] (.own 0)) [.ext u8 3]
  | _ => .bad
def isB (xs : List D) : Bool := decide (17 ≤ xs.length ∧ ato xs 0 = 1 ∧ ato xs 1 = 128 ∧ ato xs 2 = 194 ∧ ato xs 3 = 0 ∧ ato xs 4 = 0 ∧ ato xs 5 = 0 ∧ ato xs 14 = 66 ∧ ato xs 15 = 66 ∧ ato xs 16 = 3)
-- SPEC bpdu_Is p pIsB
-- SPEC r05_Is p pIsB
def pIsB : List AV → PR
  | [.sl (.int .u8) xs .no] => .ok (.bool (isB xs)) []
  | _ => .bad
-- SPEC l05_cut p pCut100
def pCut100 : List AV → PR
  | [.sl (.int .u8) xs .no] => .ok (bytesA (xs.take 100) .no) []
  | _ => .bad
-- SPEC l05_awake p pYes5
def pYes5 : List AV → PR
  | [] => .ok (.bool true) []
  | _ => .bad
-- SPEC l05_BpduBytes p pLBytes
def pLBytes : List AV → PR
  | [.st [.int .i64 k, .bool tc, .bool ack, .bool pr, .bool le, .bool fo, .bool ag, .int .i64 ro, .st [.int .u64 R, .int .u32 C, .int .u64 B, .int .u16 P], .st [.int .u8 ta, .int .u8 tm, .int .u8 th, .int .u8 td]]] => .ok (.bool true) []
  | _ => .bad
-- SPEC l05_BpduReads p pLReads
def pLReads : List AV → PR
  | [.sl (.int .u8) xs .no] => .ok (.bool true) []
  | _ => .bad
-- SPEC l05_BpduFrames p pLFrames
-- SPEC l05_BpduBack p pLFrames
def pLFrames : List AV → PR
  | [.arr 6 (.int .u8) src, .st [.int .i64 k, .bool tc, .bool ack, .bool pr, .bool le, .bool fo, .bool ag, .int .i64 ro, .st [.int .u64 R, .int .u32 C, .int .u64 B, .int .u16 P], .st [.int .u8 ta, .int .u8 tm, .int .u8 th, .int .u8 td]], .sl (.int .u8) xs .no] => .ok (.bool true) []
  | _ => .bad
end Go.Vc
