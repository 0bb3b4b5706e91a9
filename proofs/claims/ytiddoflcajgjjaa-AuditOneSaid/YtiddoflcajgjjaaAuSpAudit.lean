/- What the functions of the layer 'audit' come to. (Printed by tools/gspaudit.py.) -/
import Derived.Test.YtiddoflcajgjjaaAuSpEth
set_option linter.unusedVariables false
namespace Go.Vc
abbrev I64 : Ty := .int .i64
abbrev TySite : Ty := .st [.int .i64, .st [.int .i64, .int .i64, .int .i64]]
abbrev TySeen : Ty := .st [.int .i64, .int .i64, .int .i64, .sl (.int .u8)]
def decTg (xs : List D) : Bool := marked (xs.drop 12)
def decP (xs : List D) : Int := if decTg xs = true then n2 (xs.drop 14) / 8192 else 0
def decD (xs : List D) : Bool := decTg xs && decide (n2 (xs.drop 14) / 4096 % 2 = 1)
def decV (xs : List D) : Int := if decTg xs = true then n2 (xs.drop 14) % 4096 else 0
def decR (xs : List D) : List D := if decTg xs = true then xs.drop 16 else xs.drop 12
/-- Are bytes a frame's? -/
def decOK (xs : List D) : Bool :=
  !short xs 14 && (if decTg xs = true then !short xs 18 && (short xs 1519 && (tagOK (n2 (xs.drop 14) / 8192) (n2 (xs.drop 14) % 4096) && frOK (xs.take 6) ((xs.drop 6).take 6) true (n2 (xs.drop 14) / 8192) (decide (n2 (xs.drop 14) / 4096 % 2 = 1)) (n2 (xs.drop 14) % 4096) (xs.drop 16)))
    else short xs 1515 && frOK (xs.take 6) ((xs.drop 6).take 6) false 0 false 0 (xs.drop 12))
def decE (xs : List D) : Int := if short xs 14 = true then 6 else if decTg xs = true then (if short xs 18 = true then 6 else if short xs 1519 = true then 30 else 2) else if short xs 1515 = true then 30 else 2
def lenOK (xs : List D) : Prop := xs.length ≤ 140737488355328
-- SPEC ether_Decode p pFrDec2
-- SPEC r03_Decode p pFrDec2
def pFrDec2 : List AV → PR
  | [.sl (.int .u8) xs .no] => .br (decOK xs) (.ok (.tup [frA (xs.take 6) ((xs.drop 6).take 6) (decTg xs) (decP xs) (decD xs) (decV xs) (decR xs) (.own 0), .int .i64 0]) [.ext u8 (decR xs).length]) (.iff (lenOK xs) (.tup [fr0, .int .i64 (decE xs)]) [])
  | _ => .bad
def rowsOK (l : List D) : Prop := ∀ i, lenOK ((l.getD i (.i 0)).fld 3).list
def siteIs (b p v : Int) (d : D) : Bool := decide ((d.fld 0).int = b ∧ ((d.fld 1).fld 0).int = p ∧ ((d.fld 1).fld 1).int = v)
def siteI (s : List D) (b p v : Int) : Nat := s.findIdx (siteIs b p v)
def svcOK (s : List D) (b p : Int) (xs : List D) : Bool := decOK xs && (decTg xs && decide (siteI s b p (decV xs) < s.length))
def svcV (s : List D) (b p : Int) (xs : List D) : Int := if svcOK s b p xs = true then (((s.getD (siteI s b p (decV xs)) (.i 0)).fld 1).fld 2).int else 0
-- SPEC audit_Service p pService
-- SPEC r32_Service p pService
def pService : List AV → PR
  | [.sl (.st [.int .i64, .st [.int .i64, .int .i64, .int .i64]]) s .no, .int .i64 b, .int .i64 p, .sl (.int .u8) xs .no] => .iff (lenOK xs) (.tup [.int .i64 (svcV s b p xs), .bool (svcOK s b p xs)]) []
  | _ => .bad
/-- Are two frames alike, but for the VLAN? -/
def alikeB (xs ys : List D) : Bool := decOK xs && (decOK ys && sameFr (xs.take 6) ((xs.drop 6).take 6) (decTg xs) (decP xs) (decD xs) (decV ys) (decR xs) (ys.take 6) ((ys.drop 6).take 6) (decTg ys) (decP ys) (decD ys) (decV ys) (decR ys))
-- SPEC audit_alike p pAlike
-- SPEC r32_Alike p pAlike
def pAlike : List AV → PR
  | [.sl (.int .u8) xs .no, .sl (.int .u8) ys .no] => .iff (lenOK xs ∧ lenOK ys) (.bool (alikeB xs ys)) []
  | _ => .bad
def explB (s : List D) (xa xb xp : Int) (xs : List D) (ya yb yp : Int) (ys : List D) : Bool :=
  decide (xa < ya) && (!(decide (xb = yb) && decide (xp = yp)) && (svcOK s xb xp xs && (svcOK s yb yp ys && (decide (svcV s xb xp xs = svcV s yb yp ys) && alikeB xs ys))))
-- SPEC audit_Explains p pExplains
-- SPEC r32_Explains p pExplains
def pExplains : List AV → PR
  | [.sl (.st [.int .i64, .st [.int .i64, .int .i64, .int .i64]]) s .no, .st [.int .i64 xa, .int .i64 xb, .int .i64 xp, .sl (.int .u8) xs .no], .st [.int .i64 ya, .int .i64 yb, .int .i64 yp, .sl (.int .u8) ys .no]] => .iff (lenOK xs ∧ lenOK ys) (.bool (explB s xa xb xp xs ya yb yp ys)) []
  | _ => .bad
def explD (s : List D) (x y : D) : Bool := explB s (x.fld 0).int (x.fld 1).int (x.fld 2).int (x.fld 3).list (y.fld 0).int (y.fld 1).int (y.fld 2).int (y.fld 3).list
/-- How many of the first so many. -/
def cntN (p : Nat → Bool) : Nat → Nat
  | 0 => 0
  | n + 1 => cntN p n + (if p n = true then 1 else 0)
def seenD (ya yb yp : Int) (ys : List D) : D := .a [.i ya, .i yb, .i yp, .l ys]
/-- How many explain one. -/
def cntE (s sent : List D) (y : D) : Nat := cntN (fun k => explD s (sent.getD k (.i 0)) y) sent.length
-- SPEC audit_explained p pExplained
-- SPEC r32_count p pExplained
def pExplained : List AV → PR
  | [.sl (.st [.int .i64, .st [.int .i64, .int .i64, .int .i64]]) s .no, .sl (.st [.int .i64, .int .i64, .int .i64, .sl (.int .u8)]) sent .no, .st [.int .i64 ya, .int .i64 yb, .int .i64 yp, .sl (.int .u8) ys .no]] => .iff (rowsOK sent ∧ lenOK ys) (.int .i64 (cntE s sent (seenD ya yb yp ys))) []
  | _ => .bad
/-- The first of which something is true; below 0: of none. -/
def fstN (p : D → Bool) (l : List D) : Int := if l.findIdx p < l.length then (l.findIdx p : Nat) else -1
def loneB (s sent : List D) (y : D) : Bool := decide (cntE s sent y = 0)
-- SPEC audit_Apart_1 s sApart1
def sApart1 : List AV → Heap → SR
  | [.st [.int .i64 ya, .int .i64 yb, .int .i64 yp, .sl (.int .u8) ys .no], .ptr 0 [] (.sl (.st [.int .i64, .st [.int .i64, .int .i64, .int .i64]])), .ptr 1 [] (.sl (.st [.int .i64, .int .i64, .int .i64, .sl (.int .u8)]))], [.var (.sl (.st [.int .i64, .st [.int .i64, .int .i64, .int .i64]])) (.sl (.st [.int .i64, .st [.int .i64, .int .i64, .int .i64]]) s .no) false, .var (.sl (.st [.int .i64, .int .i64, .int .i64, .sl (.int .u8)])) (.sl (.st [.int .i64, .int .i64, .int .i64, .sl (.int .u8)]) sent .no) false] => .iff (rowsOK sent ∧ lenOK ys) (.bool (loneB s sent (seenD ya yb yp ys))) [.var (.sl (.st [.int .i64, .st [.int .i64, .int .i64, .int .i64]])) (.sl (.st [.int .i64, .st [.int .i64, .int .i64, .int .i64]]) s .no) false, .var (.sl (.st [.int .i64, .int .i64, .int .i64, .sl (.int .u8)])) (.sl (.st [.int .i64, .int .i64, .int .i64, .sl (.int .u8)]) sent .no) false]
  | _, _ => .bad
/-- Comes a frame to a site? -/
def comesB (s : List D) (x site y : D) : Bool := decide ((y.fld 1).int = (site.fld 0).int) && (decide ((y.fld 2).int = ((site.fld 1).fld 0).int) && explD s x y)
def siteD (a b c d : Int) : D := .a [.i a, .a [.i b, .i c, .i d]]
-- SPEC audit_Reached_1 s sReached1
def sReached1 : List AV → Heap → SR
  | [.st [.int .i64 ya, .int .i64 yb, .int .i64 yp, .sl (.int .u8) ys .no], .ptr 0 [] (.st [.int .i64, .st [.int .i64, .int .i64, .int .i64]]), .ptr 1 [] (.sl (.st [.int .i64, .st [.int .i64, .int .i64, .int .i64]])), .ptr 2 [] (.st [.int .i64, .int .i64, .int .i64, .sl (.int .u8)])], [.var (.st [.int .i64, .st [.int .i64, .int .i64, .int .i64]]) (.st [.int .i64 a, .st [.int .i64 b, .int .i64 c, .int .i64 d]]) false, .var (.sl (.st [.int .i64, .st [.int .i64, .int .i64, .int .i64]])) (.sl (.st [.int .i64, .st [.int .i64, .int .i64, .int .i64]]) s .no) false, .var (.st [.int .i64, .int .i64, .int .i64, .sl (.int .u8)]) (.st [.int .i64 xa, .int .i64 xb, .int .i64 xp, .sl (.int .u8) xs .no]) false] => .iff (lenOK xs ∧ lenOK ys) (.bool (comesB s (seenD xa xb xp xs) (siteD a b c d) (seenD ya yb yp ys))) [.var (.st [.int .i64, .st [.int .i64, .int .i64, .int .i64]]) (.st [.int .i64 a, .st [.int .i64 b, .int .i64 c, .int .i64 d]]) false, .var (.sl (.st [.int .i64, .st [.int .i64, .int .i64, .int .i64]])) (.sl (.st [.int .i64, .st [.int .i64, .int .i64, .int .i64]]) s .no) false, .var (.st [.int .i64, .int .i64, .int .i64, .sl (.int .u8)]) (.st [.int .i64 xa, .int .i64 xb, .int .i64 xp, .sl (.int .u8) xs .no]) false]
  | _, _ => .bad
-- SPEC slices_IndexFunc_api_Seen_api_Seen s sIdxSeen
def sIdxSeen : List AV → Heap → SR
  | [.sl (.st [.int .i64, .int .i64, .int .i64, .sl (.int .u8)]) seen .no, .fn 42 [.ptr 0 [] (.sl (.st [.int .i64, .st [.int .i64, .int .i64, .int .i64]])), .ptr 1 [] (.sl (.st [.int .i64, .int .i64, .int .i64, .sl (.int .u8)]))]], [.var (.sl (.st [.int .i64, .st [.int .i64, .int .i64, .int .i64]])) (.sl (.st [.int .i64, .st [.int .i64, .int .i64, .int .i64]]) s .no) false, .var (.sl (.st [.int .i64, .int .i64, .int .i64, .sl (.int .u8)])) (.sl (.st [.int .i64, .int .i64, .int .i64, .sl (.int .u8)]) sent .no) false] => .iff (rowsOK sent ∧ rowsOK seen) (.int .i64 (fstN (loneB s sent) seen)) [.var (.sl (.st [.int .i64, .st [.int .i64, .int .i64, .int .i64]])) (.sl (.st [.int .i64, .st [.int .i64, .int .i64, .int .i64]]) s .no) false, .var (.sl (.st [.int .i64, .int .i64, .int .i64, .sl (.int .u8)])) (.sl (.st [.int .i64, .int .i64, .int .i64, .sl (.int .u8)]) sent .no) false]
  | [.sl (.st [.int .i64, .int .i64, .int .i64, .sl (.int .u8)]) seen .no, .fn 38 [.ptr 0 [] (.st [.int .i64, .st [.int .i64, .int .i64, .int .i64]]), .ptr 1 [] (.sl (.st [.int .i64, .st [.int .i64, .int .i64, .int .i64]])), .ptr 2 [] (.st [.int .i64, .int .i64, .int .i64, .sl (.int .u8)])]], [.var (.st [.int .i64, .st [.int .i64, .int .i64, .int .i64]]) (.st [.int .i64 a, .st [.int .i64 b, .int .i64 c, .int .i64 d]]) false, .var (.sl (.st [.int .i64, .st [.int .i64, .int .i64, .int .i64]])) (.sl (.st [.int .i64, .st [.int .i64, .int .i64, .int .i64]]) s .no) false, .var (.st [.int .i64, .int .i64, .int .i64, .sl (.int .u8)]) (.st [.int .i64 xa, .int .i64 xb, .int .i64 xp, .sl (.int .u8) xs .no]) false] => .iff (lenOK xs ∧ rowsOK seen) (.int .i64 (fstN (comesB s (seenD xa xb xp xs) (siteD a b c d)) seen)) [.var (.st [.int .i64, .st [.int .i64, .int .i64, .int .i64]]) (.st [.int .i64 a, .st [.int .i64 b, .int .i64 c, .int .i64 d]]) false, .var (.sl (.st [.int .i64, .st [.int .i64, .int .i64, .int .i64]])) (.sl (.st [.int .i64, .st [.int .i64, .int .i64, .int .i64]]) s .no) false, .var (.st [.int .i64, .int .i64, .int .i64, .sl (.int .u8)]) (.st [.int .i64 xa, .int .i64 xb, .int .i64 xp, .sl (.int .u8) xs .no]) false]
  | _, _ => .bad
def hasN (p : D → Bool) (l : List D) : Bool := decide (0 ≤ fstN p l)
-- SPEC slices_ContainsFunc_api_Seen_api_Seen s sHasSeen
def sHasSeen : List AV → Heap → SR
  | [.sl (.st [.int .i64, .int .i64, .int .i64, .sl (.int .u8)]) seen .no, .fn 38 [.ptr 0 [] (.st [.int .i64, .st [.int .i64, .int .i64, .int .i64]]), .ptr 1 [] (.sl (.st [.int .i64, .st [.int .i64, .int .i64, .int .i64]])), .ptr 2 [] (.st [.int .i64, .int .i64, .int .i64, .sl (.int .u8)])]], [.var (.st [.int .i64, .st [.int .i64, .int .i64, .int .i64]]) (.st [.int .i64 a, .st [.int .i64 b, .int .i64 c, .int .i64 d]]) false, .var (.sl (.st [.int .i64, .st [.int .i64, .int .i64, .int .i64]])) (.sl (.st [.int .i64, .st [.int .i64, .int .i64, .int .i64]]) s .no) false, .var (.st [.int .i64, .int .i64, .int .i64, .sl (.int .u8)]) (.st [.int .i64 xa, .int .i64 xb, .int .i64 xp, .sl (.int .u8) xs .no]) false] => .iff (lenOK xs ∧ rowsOK seen) (.bool (hasN (comesB s (seenD xa xb xp xs) (siteD a b c d)) seen)) [.var (.st [.int .i64, .st [.int .i64, .int .i64, .int .i64]]) (.st [.int .i64 a, .st [.int .i64 b, .int .i64 c, .int .i64 d]]) false, .var (.sl (.st [.int .i64, .st [.int .i64, .int .i64, .int .i64]])) (.sl (.st [.int .i64, .st [.int .i64, .int .i64, .int .i64]]) s .no) false, .var (.st [.int .i64, .int .i64, .int .i64, .sl (.int .u8)]) (.st [.int .i64 xa, .int .i64 xb, .int .i64 xp, .sl (.int .u8) xs .no]) false]
  | _, _ => .bad
-- SPEC audit_Apart p pApart
-- SPEC r32_Apart p pApart
def pApart : List AV → PR
  | [.sl (.st [.int .i64, .st [.int .i64, .int .i64, .int .i64]]) s .no, .sl (.st [.int .i64, .int .i64, .int .i64, .sl (.int .u8)]) sent .no, .sl (.st [.int .i64, .int .i64, .int .i64, .sl (.int .u8)]) seen .no] => .iff (rowsOK sent ∧ rowsOK seen) (.int .i64 (fstN (loneB s sent) seen)) []
  | _ => .bad
def sameY (a b : D) : Bool := decide ((a.fld 1).int = (b.fld 1).int) && (decide ((a.fld 2).int = (b.fld 2).int) && sameB (a.fld 3).list (b.fld 3).list)
-- SPEC audit_Often_1 s sOften1
def sOften1 : List AV → Heap → SR
  | [.st [.int .i64 xa, .int .i64 xb, .int .i64 xp, .sl (.int .u8) xs .no], .st [.int .i64 ya, .int .i64 yb, .int .i64 yp, .sl (.int .u8) ys .no]], [] => .ok (.bool (sameY (seenD xa xb xp xs) (seenD ya yb yp ys))) []
  | _, _ => .bad
def alsoN (seen : List D) (i : Nat) : Nat → Nat := cntN fun k => sameY (seen.getD k (.i 0)) (seen.getD i (.i 0))
def oftB (s sent seen : List D) (i : Nat) : Bool := decide (cntE s sent (seen.getD i (.i 0)) < alsoN seen i (i + 1))
/-- The first number below n of which something is true. -/
def fstI (p : Nat → Bool) (n : Nat) : Int := if (List.range n).findIdx p < n then ((List.range n).findIdx p : Nat) else -1
-- SPEC audit_Often p pOften
-- SPEC r32_Often p pOften
def pOften : List AV → PR
  | [.sl (.st [.int .i64, .st [.int .i64, .int .i64, .int .i64]]) s .no, .sl (.st [.int .i64, .int .i64, .int .i64, .sl (.int .u8)]) sent .no, .sl (.st [.int .i64, .int .i64, .int .i64, .sl (.int .u8)]) seen .no] => .iff (rowsOK sent ∧ rowsOK seen) (.int .i64 (fstI (oftB s sent seen) seen.length)) []
  | _ => .bad
def siteC (d : D) : D := siteD (d.fld 0).int ((d.fld 1).fld 0).int ((d.fld 1).fld 1).int ((d.fld 1).fld 2).int
def reachD (s : List D) (x : D) (seen : List D) : List D := (s.filter fun d => hasN (comesB s x (siteC d)) seen).map siteC
-- SPEC audit_Reached p pReached
-- SPEC r32_Reached p pReached
def pReached : List AV → PR
  | [.sl (.st [.int .i64, .st [.int .i64, .int .i64, .int .i64]]) s .no, .st [.int .i64 xa, .int .i64 xb, .int .i64 xp, .sl (.int .u8) xs .no], .sl (.st [.int .i64, .int .i64, .int .i64, .sl (.int .u8)]) seen .no] => .iff (s.length ≤ 1000 ∧ lenOK xs ∧ rowsOK seen) (.sl TySite (reachD s (seenD xa xb xp xs) seen) (.own 0)) [.ext TySite (reachD s (seenD xa xb xp xs) seen).length]
  | _ => .bad
-- SPEC l32_fewSites p pFewSites
def pFewSites : List AV → PR
  | [.sl (.st [.int .i64, .st [.int .i64, .int .i64, .int .i64]]) s .no] => .ok (.sl TySite (s.take 12) .no) []
  | _ => .bad
def seenC (d : D) : D := seenD (d.fld 0).int (d.fld 1).int (d.fld 2).int ((d.fld 3).list.take 1600)
def fewRows (l : List D) : List D := (l.take 12).map seenC
-- SPEC l32_fewSent p pFewRows
-- SPEC l32_fewSeen p pFewRows
def pFewRows : List AV → PR
  | [.sl (.st [.int .i64, .int .i64, .int .i64, .sl (.int .u8)]) sent .no] => .ok (.sl TySeen (fewRows sent) (.own 0)) [.ext TySeen (fewRows sent).length]
  | _ => .bad
-- SPEC l32_cut p pCut32
def pCut32 : List AV → PR
  | [.sl (.int .u8) xs .no] => .ok (bytesA (xs.take 1600) .no) []
  | _ => .bad
-- SPEC l32_sameSites p pSameSites
def pSameSites : List AV → PR
  | [.sl (.st [.int .i64, .st [.int .i64, .int .i64, .int .i64]]) s .no, .sl (.st [.int .i64, .st [.int .i64, .int .i64, .int .i64]]) r .no] => .iff (s = r) (.bool true) []
  | _ => .bad
def sitesD : Nat → List D
  | 0 => []
  | n + 1 => sitesD n ++ [siteD n 0 (100 + n) 5, siteD n 1 (200 + n) 6]
-- SPEC l32_sites p pSites
def pSites : List AV → PR
  | [.int .i64 n] => .iff (0 ≤ n ∧ n ≤ 1000) (.sl TySite (sitesD n.toNat) (.own 0)) [.ext TySite (sitesD n.toNat).length]
  | _ => .bad
def frmB (v k : Int) : List D := frB [.i 2, .i 0, .i 0, .i 0, .i 0, .i 9] [.i 2, .i 0, .i 0, .i 0, .i 0, .i 8] true 0 false v [.i 8, .i 0, .i k]
-- SPEC l32_frame p pFrame32
def pFrame32 : List AV → PR
  | [.int .i64 v, .int .u8 k] => .iff (1 ≤ v ∧ v ≤ 4094) (bytesA (frmB v k) (.own 0)) [.ext u8 (frmB v k).length]
  | _ => .bad
-- SPEC l32_awake p pYes32
def pYes32 : List AV → PR
  | [] => .ok (.bool true) []
  | _ => .bad
def riseI (b a : Int) : Int := if a < b then -1 else if a = b then 0 else if a - 1 = b then 1 else 2
-- SPEC audit_rise p pRise32
def pRise32 : List AV → PR
  | [.int .i64 b, .int .i64 a] => .ok (.int .i64 (riseI b a)) []
  | _ => .bad
def gI (xs : List D) (i : Nat) : Int := (xs.getD i (.i 0)).int
/-- Of which kind a counter is: 0 that which took it, 1 the other, 2 copies, 3 reasons. -/
def clsN (w : Int) (i : Nat) : Nat := if (i : Int) = w then 0 else if i = 1 ∨ i = 2 then 1 else if i = 3 ∨ i = 4 ∨ i = 12 then 2 else 3
def sumC (b a : List D) (w : Int) (k : Nat) : Nat → Int
  | 0 => 0
  | n + 1 => sumC b a w k n + (if clsN w n = k then riseI (gI b n) (gI a n) else 0)
def cntOK (b a : List D) (w : Int) : Bool := decide (sumC b a w 1 15 = 0 ∧ ((riseI (gI b w.toNat) (gI a w.toNat) = 0 ∧ sumC b a w 2 15 = 0 ∧ sumC b a w 3 15 = 1) ∨ (riseI (gI b w.toNat) (gI a w.toNat) = 1 ∧ ((sumC b a w 3 15 = 0 ∧ 0 < sumC b a w 2 15) ∨ sumC b a w 3 15 = 1))))
def argOK (b a : List D) (w : Int) : Bool := decide (b.length = 15 ∧ a.length = 15 ∧ (w = 1 ∨ w = 2))
def fallB (b a : List D) : Bool := !((List.range 15).all fun i => decide (gI b i ≤ gI a i))
def countE (b a : List D) (w : Int) : Int := if argOK b a w = true then (if fallB b a = true then 320 else if cntOK b a w = true then 0 else 320) else 1
-- SPEC audit_Count p pCount32
-- SPEC r32_Count p pCount32
def pCount32 : List AV → PR
  | [.sl (.int .i64) b .no, .sl (.int .i64) a .no, .int .i64 w] => .ok (.int .i64 (countE b a w)) []
  | _ => .bad
-- SPEC l32_AuditFrames p pLFrames
def pLFrames : List AV → PR
  | [.sl (.st [.int .i64, .st [.int .i64, .int .i64, .int .i64]]) s .no, .sl (.st [.int .i64, .int .i64, .int .i64, .sl (.int .u8)]) sent .no, .sl (.st [.int .i64, .int .i64, .int .i64, .sl (.int .u8)]) seen .no] => .ok (.bool true) []
  | _ => .bad
-- SPEC l32_AuditCounts p pLCounts
def pLCounts : List AV → PR
  | [.sl (.int .i64) b .no, .sl (.int .i64) a .no, .int .i64 w] => .ok (.bool true) []
  | _ => .bad
-- SPEC l32_AuditOne p pLOne
def pLOne : List AV → PR
  | [.sl (.int .u16) was .no, .bool c, .int .u8 n, .int .u8 r, .int .u8 h] => .ok (.bool true) []
  | _ => .bad
-- SPEC l32_AuditRight p pLRight
def pLRight : List AV → PR
  | [.int .u8 n, .sl (.int .u8) fr .no, .int .u8 p, .int .u8 h] => .ok (.bool true) []
  | _ => .bad
end Go.Vc
