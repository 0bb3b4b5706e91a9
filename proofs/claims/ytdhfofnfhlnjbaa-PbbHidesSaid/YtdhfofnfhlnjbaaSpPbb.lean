/- What the functions of the layer 'pbb' come to. -/
import Derived.Test.YtdhfofnfhlnjbaaSpEth
set_option linter.unusedVariables false
namespace Go.Vc
abbrev TBf : Ty := .st [TMac, TMac, TTag, TITag, .sl (.int .u8)]
abbrev TWalk : Ty := .st [.st [.sl (.int .u8)], .bool]
abbrev bfA (da sa : List D) (p : Int) (d : Bool) (v : Int) (q : Int) (e u : Bool) (i : Int) (ia ib : List D) (rest : List D) (tok : Tok) : AV := .st [macA da, macA sa, .st [.int .i64 p, .bool d, .int .i64 v], .st [.int .i64 q, .bool e, .bool u, .int .i64 i, macA ia, macA ib], .sl (.int .u8) rest tok]
abbrev bf0 : AV := bfA six0 six0 0 false 0 0 false false 0 six0 six0 [] .no
-- SPEC pbb_Inside p pInside
-- SPEC r04_Inside p pInside
def pInside : List AV → PR
  | [.st [.arr 6 (.int .u8) da, .arr 6 (.int .u8) sa, .st [.int .i64 p, .bool d, .int .i64 v], .st [.int .i64 q, .bool e, .bool u, .int .i64 i, .arr 6 (.int .u8) ia, .arr 6 (.int .u8) ib], .sl (.int .u8) rest .no]] => .iff (rest.length ≤ 140737488355328) (frA ia ib false 0 false 0 rest (.own 0)) [.ext u8 rest.length]
  | _ => .bad
def bfOK (da sa : List D) (p : Int) (d : Bool) (v : Int) (q : Int) (e u : Bool) (i : Int) (ia ib : List D) (rest : List D) : Bool := decide (macKind sa = 1) && !decide (macKind da = 6) && tagOK p v && itagOK q i && !isZ i && isZ (frChk ia ib false 0 false 0 rest)
def bfChk (da sa : List D) (p : Int) (d : Bool) (v : Int) (q : Int) (e u : Bool) (i : Int) (ia ib : List D) (rest : List D) : Int := if 1502 < rest.length then 2 else if bfOK da sa p d v q e u i ia ib rest then 0 else 40
-- SPEC pbb_Check p pBfCheck
-- SPEC r04_Check p pBfCheck
def pBfCheck : List AV → PR
  | [.st [.arr 6 (.int .u8) da, .arr 6 (.int .u8) sa, .st [.int .i64 p, .bool d, .int .i64 v], .st [.int .i64 q, .bool e, .bool u, .int .i64 i, .arr 6 (.int .u8) ia, .arr 6 (.int .u8) ib], .sl (.int .u8) rest .no]] => .ok (.int .i64 (bfChk da sa p d v q e u i ia ib rest)) []
  | _ => .bad
def bfB (da sa : List D) (p : Int) (d : Bool) (v : Int) (q : Int) (e u : Bool) (i : Int) (ia ib : List D) (rest : List D) : List D := da ++ sa ++ [.i 136, .i 168] ++ be (tagNum p d v) 2 ++ [.i 136, .i 231] ++ (be (itagNum q e u i) 4 ++ ia ++ ib) ++ rest
-- SPEC r04_u8s p pBfBytes
def pBfBytes : List AV → PR
  | [.st [.arr 6 (.int .u8) da, .arr 6 (.int .u8) sa, .st [.int .i64 p, .bool d, .int .i64 v], .st [.int .i64 q, .bool e, .bool u, .int .i64 i, .arr 6 (.int .u8) ia, .arr 6 (.int .u8) ib], .sl (.int .u8) rest .no]] => .iff (tagOK p v = true ∧ itagOK q i = true ∧ rest.length ≤ 100000) (bytesA (bfB da sa p d v q e u i ia ib rest) (.own 0)) [.ext u8 (bfB da sa p d v q e u i ia ib rest).length]
  | _ => .bad
-- SPEC pbb_Encode p pBfEnc
-- SPEC r04_Encode p pBfEnc
def pBfEnc : List AV → PR
  | [.st [.arr 6 (.int .u8) da, .arr 6 (.int .u8) sa, .st [.int .i64 p, .bool d, .int .i64 v], .st [.int .i64 q, .bool e, .bool u, .int .i64 i, .arr 6 (.int .u8) ia, .arr 6 (.int .u8) ib], .sl (.int .u8) rest .no]] => .br (isZ (bfChk da sa p d v q e u i ia ib rest)) (.ok (.tup [bytesA (bfB da sa p d v q e u i ia ib rest) (.own 0), .int .i64 0]) [.ext u8 (bfB da sa p d v q e u i ia ib rest).length]) (.ok (.tup [nilB, .int .i64 (bfChk da sa p d v q e u i ia ib rest)]) [])
  | _ => .bad
def eqITag (q : Int) (e u : Bool) (i : Int) (ia ib : List D) (q' : Int) (e' u' : Bool) (i' : Int) (ia' ib' : List D) : Bool := decide (q = q') && ((e == e') && ((u == u') && (decide (i = i') && (eq6 ia ia' && eq6 ib ib'))))
def sameBf (da sa : List D) (p : Int) (d : Bool) (v : Int) (q : Int) (e u : Bool) (i : Int) (ia ib : List D) (rest : List D) (da' sa' : List D) (p' : Int) (d' : Bool) (v' : Int) (q' : Int) (e' u' : Bool) (i' : Int) (ia' ib' : List D) (rest' : List D) : Bool :=
  eq6 da da' && eq6 sa sa' && eqTag p d v p' d' v' && eqITag q e u i ia ib q' e' u' i' ia' ib' && sameB rest rest'
-- SPEC pbb_Same p pBfSame
-- SPEC r04_Same p pBfSame
def pBfSame : List AV → PR
  | [.st [.arr 6 (.int .u8) da, .arr 6 (.int .u8) sa, .st [.int .i64 p, .bool d, .int .i64 v], .st [.int .i64 q, .bool e, .bool u, .int .i64 i, .arr 6 (.int .u8) ia, .arr 6 (.int .u8) ib], .sl (.int .u8) rest .no], .st [.arr 6 (.int .u8) da', .arr 6 (.int .u8) sa', .st [.int .i64 p', .bool d', .int .i64 v'], .st [.int .i64 q', .bool e', .bool u', .int .i64 i', .arr 6 (.int .u8) ia', .arr 6 (.int .u8) ib'], .sl (.int .u8) rest' .no]] => .ok (.bool (sameBf da sa p d v q e u i ia ib rest da' sa' p' d' v' q' e' u' i' ia' ib' rest')) []
  | _ => .bad
-- SPEC pbb_Hide p pHide
-- SPEC r04_Hide p pHide
def pHide : List AV → PR
  | [.st [.arr 6 (.int .u8) da, .arr 6 (.int .u8) sa, .bool t, .st [.int .i64 p, .bool d, .int .i64 v], .sl (.int .u8) rest .no], .int .i64 isid, .int .i64 w, .arr 6 (.int .u8) own, .arr 6 (.int .u8) to] =>
    .br (isZ (frChk da sa t p d v rest))
      (.br t
        (.br (isZ (bfChk to own p d w p d true isid da sa rest)) (.ok (.tup [bfA to own p d w p d true isid da sa rest (.own 0), .int .i64 0]) [.ext u8 rest.length])
          (.ok (.tup [bf0, .int .i64 (bfChk to own p d w p d true isid da sa rest)]) []))
        (.ok (.tup [bf0, .int .i64 30]) []))
      (.ok (.tup [bf0, .int .i64 (frChk da sa t p d v rest)]) [])
  | _ => .bad
-- SPEC pbb_Show p pShow
-- SPEC r04_Show p pShow
def pShow : List AV → PR
  | [.st [.arr 6 (.int .u8) da, .arr 6 (.int .u8) sa, .st [.int .i64 p, .bool d, .int .i64 v], .st [.int .i64 q, .bool e, .bool u, .int .i64 i, .arr 6 (.int .u8) ia, .arr 6 (.int .u8) ib], .sl (.int .u8) rest .no], .int .i64 w] => .br (isZ (bfChk da sa p d v q e u i ia ib rest))
      (.br (inVid w) (.ok (.tup [frA ia ib true q e w rest (.own 0), .int .i64 0]) [.ext u8 rest.length]) (.ok (.tup [fr0, .int .i64 1]) []))
      (.ok (.tup [fr0, .int .i64 (bfChk da sa p d v q e u i ia ib rest)]) [])
  | _ => .bad
-- SPEC l04_Few p pBfFew
def pBfFew : List AV → PR
  | [.st [.arr 6 (.int .u8) da, .arr 6 (.int .u8) sa, .st [.int .i64 p, .bool d, .int .i64 v], .st [.int .i64 q, .bool e, .bool u, .int .i64 i, .arr 6 (.int .u8) ia, .arr 6 (.int .u8) ib], .sl (.int .u8) rest .no]] => .ok (bfA da sa p d v q e u i ia ib (rest.take 1510) .no) []
  | _ => .bad
-- SPEC l04_few p pFrFew
def pFrFew : List AV → PR
  | [.st [.arr 6 (.int .u8) da, .arr 6 (.int .u8) sa, .bool t, .st [.int .i64 p, .bool d, .int .i64 v], .sl (.int .u8) rest .no]] => .ok (frA da sa t p d v (rest.take 1510) .no) []
  | _ => .bad
-- SPEC l04_cut p pCut16
def pCut16 : List AV → PR
  | [.sl (.int .u8) xs .no] => .ok (bytesA (xs.take 1600) .no) []
  | _ => .bad
-- SPEC pbb_left_cut s sLeftCut
def sLeftCut : List AV → Heap → SR
  | [.ptr 0 [.fld 0] (.st [.sl (.int .u8)]), .int .i64 n], [.var (.st [.st [.sl (.int .u8)], .bool]) (.st [.st [.sl (.int .u8) xs .no], .bool b]) false] => .iff (0 ≤ n ∧ n ≤ xs.length) (bytesA (xs.take n.toNat) .full) [.var TWalk (.st [.st [.sl (.int .u8) (xs.drop n.toNat) .no], .bool b]) false]
  | _, _ => .bad
-- SPEC pbb_walk_address s sAddress
def sAddress : List AV → Heap → SR
  | [.ptr 0 [] (.st [.st [.sl (.int .u8)], .bool])], [.var (.st [.st [.sl (.int .u8)], .bool]) (.st [.st [.sl (.int .u8) xs .no], .bool b]) false] => .iff (6 ≤ xs.length) (macA (xs.take 6)) [.var TWalk (.st [.st [.sl (.int .u8) (xs.drop 6) .no], .bool b]) false]
  | _, _ => .bad
-- SPEC pbb_walk_kind s sKind
def sKind : List AV → Heap → SR
  | [.ptr 0 [] (.st [.st [.sl (.int .u8)], .bool]), .int .i64 w], [.var (.st [.st [.sl (.int .u8)], .bool]) (.st [.st [.sl (.int .u8) xs .no], .bool b]) false] => .iff (2 ≤ xs.length) (.tup []) [.var TWalk (.st [.st [.sl (.int .u8) (xs.drop 2) .no], .bool (b || !decide (n2 xs = w))]) false]
  | _, _ => .bad
-- SPEC l04_one p pOne
def pOne : List AV → PR
  | [] => .ok (bfA [.i 1, .i 30, .i 131, .i 0, .i 0, .i 7] [.i 2, .i 0, .i 0, .i 0, .i 0, .i 1] 0 false 10 0 false true 7 [.i 2, .i 9, .i 0, .i 0, .i 0, .i 0] [.i 2, .i 8, .i 0, .i 0, .i 0, .i 0] (List.replicate 46 (.i 0)) (.own 0)) [.ext u8 46]
  | _ => .bad
def ty16 (xs : List D) : Bool := decide (n2 (xs.drop 12) = 34984) && decide (n2 (xs.drop 16) = 35047)
def bdOK (xs : List D) : Bool := ty16 xs && tagOK (n2 (xs.drop 14) / 8192) (n2 (xs.drop 14) % 4096) && isZ (ato xs 18 % 8) &&
  isZ (bfChk (xs.take 6) ((xs.drop 6).take 6) (n2 (xs.drop 14) / 8192) (decide (n2 (xs.drop 14) / 4096 % 2 = 1)) (n2 (xs.drop 14) % 4096)
    (ato xs 18 / 32) (decide (ato xs 18 / 16 % 2 = 1)) (decide (ato xs 18 / 8 % 2 = 1)) (ato xs 19 * 65536 + ato xs 20 * 256 + ato xs 21) ((xs.drop 22).take 6) ((xs.drop 28).take 6) (xs.drop 34))
-- SPEC pbb_Decode p pBfDec
-- SPEC r04_Decode p pBfDec
def pBfDec : List AV → PR
  | [.sl (.int .u8) xs .no] => .br (short xs 36) (.ok (.tup [bf0, .int .i64 6]) []) (.br (!short xs 1537) (.iff (xs.length ≤ 140737488355328) (.tup [bf0, .int .i64 2]) [])
      (.br (bdOK xs) (.ok (.tup [bfA (xs.take 6) ((xs.drop 6).take 6) (n2 (xs.drop 14) / 8192) (decide (n2 (xs.drop 14) / 4096 % 2 = 1)) (n2 (xs.drop 14) % 4096)
        (ato xs 18 / 32) (decide (ato xs 18 / 16 % 2 = 1)) (decide (ato xs 18 / 8 % 2 = 1)) (ato xs 19 * 65536 + ato xs 20 * 256 + ato xs 21) ((xs.drop 22).take 6) ((xs.drop 28).take 6) (xs.drop 34) (.own 0), .int .i64 0]) [.ext u8 (xs.length - 34)])
        (.ok (.tup [bf0, .int .i64 40]) [])))
  | _ => .bad
-- SPEC l04_awake p pYes3
-- SPEC l04_PbbEncodes p pBf1
def pBf1 : List AV → PR
  | [.st [.arr 6 (.int .u8) da, .arr 6 (.int .u8) sa, .st [.int .i64 p, .bool d, .int .i64 v], .st [.int .i64 q, .bool e, .bool u, .int .i64 i, .arr 6 (.int .u8) ia, .arr 6 (.int .u8) ib], .sl (.int .u8) rest .no]] => .ok (.bool true) []
  | _ => .bad
-- SPEC l04_PbbDecodes p pB1
-- SPEC l04_PbbBack p pBfBk
def pBfBk : List AV → PR
  | [.st [.arr 6 (.int .u8) da, .arr 6 (.int .u8) sa, .st [.int .i64 p, .bool d, .int .i64 v], .st [.int .i64 q, .bool e, .bool u, .int .i64 i, .arr 6 (.int .u8) ia, .arr 6 (.int .u8) ib], .sl (.int .u8) rest .no], .sl (.int .u8) b .no] => .ok (.bool true) []
  | _ => .bad
-- SPEC l04_PbbHides p pBfHides
def pBfHides : List AV → PR
  | [.st [.arr 6 (.int .u8) fa, .arr 6 (.int .u8) fb, .bool t, .st [.int .i64 fp, .bool fd, .int .i64 fv], .sl (.int .u8) fr .no], .int .i64 isid, .int .i64 w, .arr 6 (.int .u8) own, .arr 6 (.int .u8) to, .st [.arr 6 (.int .u8) da, .arr 6 (.int .u8) sa, .st [.int .i64 p, .bool d, .int .i64 v], .st [.int .i64 q, .bool e, .bool u, .int .i64 i, .arr 6 (.int .u8) ia, .arr 6 (.int .u8) ib], .sl (.int .u8) rest .no], .st [.arr 6 (.int .u8) da', .arr 6 (.int .u8) sa', .st [.int .i64 p', .bool d', .int .i64 v'], .st [.int .i64 q', .bool e', .bool u', .int .i64 i', .arr 6 (.int .u8) ia', .arr 6 (.int .u8) ib'], .sl (.int .u8) rest' .no]] => .ok (.bool true) []
  | _ => .bad
-- SPEC l04_PbbThrough p pBfThrough
def pBfThrough : List AV → PR
  | [.st [.arr 6 (.int .u8) da, .arr 6 (.int .u8) sa, .bool t, .st [.int .i64 p, .bool d, .int .i64 v], .sl (.int .u8) rest .no], .int .i64 isid, .int .i64 w, .int .u16 o, .arr 6 (.int .u8) own, .arr 6 (.int .u8) to] => .ok (.bool true) []
  | _ => .bad
end Go.Vc
