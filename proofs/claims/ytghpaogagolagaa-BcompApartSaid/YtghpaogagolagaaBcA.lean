/- The seat's code in abstract form, held against the program; what is known of its functions. -/
import Derived.Test.YtghpaogagolagaaProg
import Derived.KernelRfl
import Derived.Test.YtghpaogagolagaaSpTag
import Derived.Test.YtghpaogagolagaaEpSpTag2
import Derived.Test.YtghpaogagolagaaSpEth
import Derived.Test.YtghpaogagolagaaSpBcomp
import Derived.Test.YtghpaogagolagaaSpBcomp2
import Derived.Test.YtghpaogagolagaaSpBcomp3
set_option linter.unusedVariables false
set_option maxRecDepth 100000
namespace Go.Vc.Seat
open Go.Vc Go.Proofs.Try
abbrev T22 : Ty := .arr 6 (.int .u8)
abbrev T28 : Ty := .st [.arr 6 (.int .u8), .sl (.int .i64), .sl (.st [.int .i64, .int .i64, .int .i64]), .sl (.st [.int .i64, .int .i64]), .sl (.st [.int .i64, .sl (.int .i64)])]
abbrev T31 : Ty := .st [.int .i64, .bool, .int .i64]
abbrev T33 : Ty := .st [.int .i64, .bool, .bool, .int .i64, .arr 6 (.int .u8), .arr 6 (.int .u8)]
abbrev T36 : Ty := .st [.arr 6 (.int .u8), .arr 6 (.int .u8), .st [.int .i64, .bool, .int .i64], .st [.int .i64, .bool, .bool, .int .i64, .arr 6 (.int .u8), .arr 6 (.int .u8)], .sl (.int .u8)]
abbrev T46 : Ty := .st [.bool, .bool]
abbrev T53 : Ty := .st [.int .i64, .sl (.int .i64)]
abbrev T55 : Ty := .st [.int .i64, .int .i64]
abbrev T69 : Ty := .st [.int .u64, .st [.int .u8, .int .u8, .int .u8, .int .u8], .int .u8, .bool, .int .u16, .st [.int .u64, .int .u32, .int .u64, .int .u16], .st [.int .u8, .int .u8, .int .u8, .int .u8], .sl (.st [.int .u16, .int .u32, .bool, .bool, .bool, .bool, .bool, .bool, .bool, .bool, .bool, .bool, .bool, .bool, .bool, .bool, .bool, .bool, .bool, .bool, .bool, .bool, .bool, .bool, .bool, .bool, .bool, .bool, .bool, .int .i64, .int .i64, .int .i64, .st [.int .u64, .int .u32, .int .u64, .int .u16], .st [.int .u64, .int .u32, .int .u64, .int .u16], .st [.int .u8, .int .u8, .int .u8, .int .u8], .st [.int .u8, .int .u8, .int .u8, .int .u8], .st [.int .i64, .bool, .bool, .bool, .bool, .bool, .bool, .int .i64, .st [.int .u64, .int .u32, .int .u64, .int .u16], .st [.int .u8, .int .u8, .int .u8, .int .u8]], .int .u8, .int .u8, .int .u8, .int .u8, .int .u8, .int .u8, .int .u8, .int .u8, .int .i64, .int .i64, .int .i64, .int .i64, .int .i64])]
abbrev T92 : Ty := .st [.int .u16, .int .u32, .bool, .bool, .bool, .bool, .bool, .bool, .bool, .bool, .bool, .bool, .bool, .bool, .bool, .bool, .bool, .bool, .bool, .bool, .bool, .bool, .bool, .bool, .bool, .bool, .bool, .bool, .bool, .int .i64, .int .i64, .int .i64, .st [.int .u64, .int .u32, .int .u64, .int .u16], .st [.int .u64, .int .u32, .int .u64, .int .u16], .st [.int .u8, .int .u8, .int .u8, .int .u8], .st [.int .u8, .int .u8, .int .u8, .int .u8], .st [.int .i64, .bool, .bool, .bool, .bool, .bool, .bool, .int .i64, .st [.int .u64, .int .u32, .int .u64, .int .u16], .st [.int .u8, .int .u8, .int .u8, .int .u8]], .int .u8, .int .u8, .int .u8, .int .u8, .int .u8, .int .u8, .int .u8, .int .u8, .int .i64, .int .i64, .int .i64, .int .i64, .int .i64]
abbrev T101 : Ty := .st [.int .i64, .int .i64, .int .i64]
abbrev T105 : Ty := .arr 5 (.int .u8)
abbrev T106 : Ty := .arr 3 (.int .u8)
/-- pontage/pontagelaw19.BcompApart -/
abbrev f_l19_BcompApart : FuncId := 4
def ac_l19_BcompApart : AC :=
  (.seq
  (.region 2 [
    (none, .box 7 0 T28 (.t 0)),
    (none, .boxc 10 T36 (.t 3)),
    (none, .box 12 1 T53 (.t 5)),
    (none, .boxc 13 T55 (.t 6)),
    (none, .v 14 (.move (.k (.bool false))))])
  (.seq
  (.region 1 [
    (none, .load 22 T28 (.t 7)),
    (none, .callP (some 23) 6 [.t 22] 0 1 true),
    (none, .store T28 (.t 7) (.t 23))])
  (.seq
  (.region 1 [
    (none, .v 25 (.move (.t 1))),
    (none, .callP (some 26) 7 [.t 25] 0 1 true),
    (none, .v 24 (.move (.t 26))),
    (none, .v 27 (.ext (.t 24) 0)),
    (none, .v 28 (.ext (.t 24) 1)),
    (none, .v 15 (.move (.t 27))),
    (none, .v 16 (.move (.t 28)))])
  (.seq
  (.region 0 [
    (none, .v 29 (.fadr T53 1 (.t 12))),
    (none, .load 30 (.sl (.int .i64)) (.t 29)),
    (none, .v 31 (.fadr T53 1 (.t 12))),
    (none, .load 32 (.sl (.int .i64)) (.t 31)),
    (none, .v 33 (.len false (.t 32))),
    (none, .v 34 (.min (.t 33) (.k (.int .i64 (10))))),
    (none, .v 35 (.slice (.int .i64) (.t 30) none (some (.t 34)) none)),
    (none, .v 36 (.fadr T53 1 (.t 12))),
    (none, .store (.sl (.int .i64)) (.t 36) (.t 35))])
  (.seq
  (.seq
  (.region 0 [
    (none, .v 37 (.fadr T53 0 (.t 12))),
    (none, .load 38 (.int .i64) (.t 37)),
    (none, .v 39 (.fadr T36 2 (.t 10))),
    (none, .v 40 (.fadr T31 2 (.t 39))),
    (none, .load 41 (.int .i64) (.t 40)),
    (none, .v 42 (.cmp .eq (.t 38) (.t 41))),
    (none, .v 43 (.move (.t 42))),
    (some (43, false), .v 44 (.fadr T55 0 (.t 13))),
    (some (43, false), .load 45 (.int .i64) (.t 44)),
    (some (43, false), .v 46 (.fadr T36 3 (.t 10))),
    (some (43, false), .v 47 (.fadr T33 3 (.t 46))),
    (some (43, false), .load 48 (.int .i64) (.t 47)),
    (some (43, false), .v 49 (.cmp .eq (.t 45) (.t 48))),
    (none, .v 50 (.pick (.t 43) (.k (.bool true)) (.t 49)))])
  (.cond (.t 50)
    (.seq
    (.region 0 [
      (none, .callP (some 51) 12 [] 0 0 true),
      (none, .v 14 (.move (.t 51)))])
    .ret)
    .skip))
  (.seq
  (.region 1 [
    (none, .load 52 T28 (.t 7)),
    (none, .alloc 17 0 T28),
    (none, .store T28 (.t 17) (.t 52))])
  (.seq
  (.region 2 [
    (none, .load 53 T53 (.t 12)),
    (none, .lit 54 0 T53 1 [(0, .t 53)] false),
    (none, .v 55 (.fadr T28 4 (.t 7))),
    (none, .load 56 (.sl (.st [.int .i64, .sl (.int .i64)])) (.t 55)),
    (none, .app 57 1 T53 32 (.t 54) (.t 56) false),
    (none, .v 58 (.fadr T28 4 (.t 17))),
    (none, .store (.sl (.st [.int .i64, .sl (.int .i64)])) (.t 58) (.t 57))])
  (.seq
  (.region 2 [
    (none, .load 59 T55 (.t 13)),
    (none, .lit 60 0 T55 1 [(0, .t 59)] false),
    (none, .v 61 (.fadr T28 3 (.t 7))),
    (none, .load 62 (.sl (.st [.int .i64, .int .i64])) (.t 61)),
    (none, .app 63 1 T55 16 (.t 60) (.t 62) false),
    (none, .v 64 (.fadr T28 3 (.t 17))),
    (none, .store (.sl (.st [.int .i64, .int .i64])) (.t 64) (.t 63))])
  (.seq
  (.region 1 [
    (none, .load 66 T28 (.t 7)),
    (none, .v 67 (.move (.t 15))),
    (none, .v 68 (.move (.t 2))),
    (none, .load 69 T36 (.t 10)),
    (none, .v 70 (.move (.t 4))),
    (none, .callP (some 71) 8 [.t 66, .t 67, .t 68, .t 69, .t 70, .k (.bool true)] 0 1 true),
    (none, .v 65 (.move (.t 71))),
    (none, .v 72 (.ext (.t 65) 0)),
    (none, .v 73 (.ext (.t 65) 1)),
    (none, .v 18 (.move (.t 72))),
    (none, .v 19 (.move (.t 73)))])
  (.seq
  (.region 1 [
    (none, .load 75 T28 (.t 17)),
    (none, .v 76 (.move (.t 15))),
    (none, .v 77 (.move (.t 2))),
    (none, .load 78 T36 (.t 10)),
    (none, .v 79 (.move (.t 4))),
    (none, .callP (some 80) 8 [.t 75, .t 76, .t 77, .t 78, .t 79, .k (.bool true)] 0 1 true),
    (none, .v 74 (.move (.t 80))),
    (none, .v 81 (.ext (.t 74) 0)),
    (none, .v 82 (.ext (.t 74) 1)),
    (none, .v 20 (.move (.t 81))),
    (none, .v 21 (.move (.t 82)))])
  (.seq
  (.draw 0 [[], [], [], [], [], [], [], [], [], [2], [], [], [2], [2, 9, 12], [2], [], [], [2], [2, 9, 12, 13, 14, 17], [], [], [], [2, 13, 18], [2, 13, 18], [2, 9, 12, 13, 14, 17, 18, 22, 23], [2, 13, 18], [2, 13, 18]] [
    (none, .v 83 (.move (.t 18))),
    (none, .v 84 (.move (.t 20))),
    (none, .callP (some 85) 11 [.t 83, .t 84] 0 0 false),
    (none, .v 86 (.move (.t 85))),
    (some (86, true), .v 87 (.move (.t 19))),
    (some (86, true), .v 88 (.move (.t 21))),
    (some (86, true), .v 89 (.eqT .bool false (.t 87) (.t 88))),
    (none, .v 90 (.pick (.t 86) (.t 89) (.k (.bool false)))),
    (none, .v 91 (.move (.t 90))),
    (some (91, true), .load 92 T28 (.t 7)),
    (some (91, true), .v 93 (.move (.t 15))),
    (some (91, true), .v 94 (.move (.t 2))),
    (some (91, true), .load 95 T36 (.t 10)),
    (some (91, true), .callP (some 96) 13 [.t 92, .t 93, .t 94, .t 95] 0 0 false),
    (some (91, true), .load 97 T28 (.t 17)),
    (some (91, true), .v 98 (.move (.t 15))),
    (some (91, true), .v 99 (.move (.t 2))),
    (some (91, true), .load 100 T36 (.t 10)),
    (some (91, true), .callP (some 101) 13 [.t 97, .t 98, .t 99, .t 100] 0 0 false),
    (some (91, true), .v 102 (.cmp .eq (.t 96) (.t 101))),
    (none, .v 103 (.pick (.t 91) (.t 102) (.k (.bool false)))),
    (none, .v 104 (.move (.t 103))),
    (some (104, true), .load 105 T28 (.t 7)),
    (some (104, true), .load 106 T36 (.t 10)),
    (some (104, true), .callP (some 107) 14 [.t 105, .t 106] 0 0 false),
    (some (104, true), .load 108 T28 (.t 17)),
    (some (104, true), .load 109 T36 (.t 10))] [
    (some (104, true), .callP (some 110) 14 [.t 108, .t 109] 0 0 true),
    (some (104, true), .v 111 (.cmp .eq (.t 107) (.t 110))),
    (none, .v 112 (.pick (.t 104) (.t 111) (.k (.bool false)))),
    (none, .v 113 (.move (.t 112))),
    (some (113, true), .callP (some 114) 12 [] 0 0 true),
    (none, .v 115 (.pick (.t 113) (.t 114) (.k (.bool false)))),
    (none, .v 14 (.move (.t 115)))])
  .ret)))))))))))
def nt_l19_BcompApart : Nat := 116
def rs_l19_BcompApart : List RV := [.tmp 14]
/-- pontage/pontagelaw19.Few -/
abbrev f_l19_Few : FuncId := 6
def ac_l19_Few : AC :=
  (.seq
  (.region 2 [
    (none, .box 1 0 T28 (.t 0)),
    (none, .alloc 2 1 T28)])
  (.seq
  (.region 0 [
    (none, .v 5 (.fadr T28 1 (.t 1))),
    (none, .load 6 (.sl (.int .i64)) (.t 5)),
    (none, .v 7 (.fadr T28 1 (.t 1))),
    (none, .load 8 (.sl (.int .i64)) (.t 7)),
    (none, .v 9 (.len false (.t 8))),
    (none, .v 10 (.min (.t 9) (.k (.int .i64 (10))))),
    (none, .v 11 (.slice (.int .i64) (.t 6) none (some (.t 10)) none)),
    (none, .v 12 (.fadr T28 1 (.t 1))),
    (none, .store (.sl (.int .i64)) (.t 12) (.t 11))])
  (.seq
  (.region 0 [
    (none, .v 13 (.fadr T28 2 (.t 1))),
    (none, .load 14 (.sl (.st [.int .i64, .int .i64, .int .i64])) (.t 13)),
    (none, .v 15 (.fadr T28 2 (.t 1))),
    (none, .load 16 (.sl (.st [.int .i64, .int .i64, .int .i64])) (.t 15)),
    (none, .v 17 (.len false (.t 16))),
    (none, .v 18 (.min (.t 17) (.k (.int .i64 (12))))),
    (none, .v 19 (.slice T101 (.t 14) none (some (.t 18)) none)),
    (none, .v 20 (.fadr T28 2 (.t 1))),
    (none, .store (.sl (.st [.int .i64, .int .i64, .int .i64])) (.t 20) (.t 19))])
  (.seq
  (.region 0 [
    (none, .v 21 (.fadr T28 3 (.t 1))),
    (none, .load 22 (.sl (.st [.int .i64, .int .i64])) (.t 21)),
    (none, .v 23 (.fadr T28 3 (.t 1))),
    (none, .load 24 (.sl (.st [.int .i64, .int .i64])) (.t 23)),
    (none, .v 25 (.len false (.t 24))),
    (none, .v 26 (.min (.t 25) (.k (.int .i64 (12))))),
    (none, .v 27 (.slice T55 (.t 22) none (some (.t 26)) none)),
    (none, .v 28 (.fadr T28 3 (.t 1))),
    (none, .store (.sl (.st [.int .i64, .int .i64])) (.t 28) (.t 27))])
  (.seq
  (.region 1 [
    (none, .mk 3 0 T53 (.k (.sl T53 [] .full)))])
  (.seq
  (.seq
  (.region 0 [
    (none, .v 4 (.move (.k (.int .i64 (0)))))])
  (.block 0
    (.loop [1, 2, 3, 4]
      (.seq
      (.seq
      (.region 0 [
        (none, .v 29 (.move (.t 4))),
        (none, .v 30 (.fadr T28 4 (.t 1))),
        (none, .load 31 (.sl (.st [.int .i64, .sl (.int .i64)])) (.t 30)),
        (none, .v 32 (.len false (.t 31))),
        (none, .v 33 (.cmp .lt (.t 29) (.t 32))),
        (none, .v 34 (.move (.t 33))),
        (some (34, true), .v 35 (.move (.t 4))),
        (some (34, true), .v 36 (.cmp .lt (.t 35) (.k (.int .i64 (12))))),
        (none, .v 37 (.pick (.t 34) (.t 36) (.k (.bool false))))])
      (.cond (.t 37)
        .skip
        (.exit 0)))
      (.seq
      (.block 1
        (.draw 2 [[], [], [], [], [], [], [], [], [], [], [], [], [], [], [], [], [], [], [], [], [], [], [], [2, 6, 8, 12, 14, 18]] [
          (none, .v 40 (.move (.t 3))),
          (none, .v 41 (.fadr T28 4 (.t 1))),
          (none, .load 42 (.sl (.st [.int .i64, .sl (.int .i64)])) (.t 41)),
          (none, .v 43 (.move (.t 4))),
          (none, .v 44 (.iadr none T53 (.t 42) (.t 43))),
          (none, .v 45 (.fadr T53 0 (.t 44))),
          (none, .load 46 (.int .i64) (.t 45)),
          (none, .v 47 (.fadr T28 4 (.t 1))),
          (none, .load 48 (.sl (.st [.int .i64, .sl (.int .i64)])) (.t 47)),
          (none, .v 49 (.move (.t 4))),
          (none, .v 50 (.iadr none T53 (.t 48) (.t 49))),
          (none, .v 51 (.fadr T53 1 (.t 50))),
          (none, .load 52 (.sl (.int .i64)) (.t 51)),
          (none, .v 53 (.fadr T28 4 (.t 1))),
          (none, .load 54 (.sl (.st [.int .i64, .sl (.int .i64)])) (.t 53)),
          (none, .v 55 (.move (.t 4))),
          (none, .v 56 (.iadr none T53 (.t 54) (.t 55))),
          (none, .v 57 (.fadr T53 1 (.t 56))),
          (none, .load 58 (.sl (.int .i64)) (.t 57)),
          (none, .v 59 (.len false (.t 58))),
          (none, .v 60 (.min (.t 59) (.k (.int .i64 (10))))),
          (none, .v 61 (.slice (.int .i64) (.t 52) none (some (.t 60)) none)),
          (none, .v 62 (.build T53 [(0, .t 46), (1, .t 61)])),
          (none, .lit 63 0 T53 1 [(0, .t 62)] false)] [
          (none, .app 64 1 T53 32 (.t 40) (.t 63) false),
          (none, .v 3 (.move (.t 64)))]))
      (.region 0 [
        (none, .v 38 (.move (.t 4))),
        (none, .v 39 (.add (.t 38) (.k (.int .i64 (1))))),
        (none, .v 4 (.move (.t 39)))]))))))
  (.seq
  (.region 0 [
    (none, .v 65 (.move (.t 3))),
    (none, .v 66 (.fadr T28 4 (.t 1))),
    (none, .store (.sl (.st [.int .i64, .sl (.int .i64)])) (.t 66) (.t 65))])
  (.seq
  (.region 0 [
    (none, .load 67 T28 (.t 1)),
    (none, .store T28 (.t 2) (.t 67))])
  .ret))))))))
def nt_l19_Few : Nat := 68
def rs_l19_Few : List RV := [.cell 2 T28]
/-- pontage/pontagelaw19.cut -/
abbrev f_l19_cut : FuncId := 7
def ac_l19_cut : AC :=
  (.seq
  (.region 0 [
    (none, .v 2 (.move (.k (.sl T46 [] .full)))),
    (none, .v 3 (.move (.k (.sl T46 [] .full))))])
  (.seq
  (.region 0 [
    (none, .v 6 (.move (.t 0))),
    (none, .v 7 (.move (.t 0))),
    (none, .v 8 (.len false (.t 7))),
    (none, .v 9 (.min (.t 8) (.k (.int .i64 (10))))),
    (none, .v 10 (.slice T46 (.t 6) none (some (.t 9)) none)),
    (none, .v 0 (.move (.t 10)))])
  (.seq
  (.region 1 [
    (none, .mk 4 0 T46 (.k (.sl T46 [] .full)))])
  (.seq
  (.seq
  (.region 0 [
    (none, .v 5 (.move (.k (.int .i64 (0)))))])
  (.block 0
    (.loop [0, 4, 5]
      (.seq
      (.seq
      (.region 0 [
        (none, .v 11 (.move (.t 5))),
        (none, .v 12 (.move (.t 0))),
        (none, .v 13 (.len false (.t 12))),
        (none, .v 14 (.cmp .lt (.t 11) (.t 13)))])
      (.cond (.t 14)
        .skip
        (.exit 0)))
      (.seq
      (.block 1
        (.draw 2 [[], [], [], [], [], [], [], [], [], [], [], [], [5, 10]] [
          (none, .v 17 (.move (.t 4))),
          (none, .v 18 (.move (.t 0))),
          (none, .v 19 (.move (.t 5))),
          (none, .v 20 (.iadr none T46 (.t 18) (.t 19))),
          (none, .v 21 (.fadr T46 0 (.t 20))),
          (none, .load 22 .bool (.t 21)),
          (none, .v 23 (.move (.t 0))),
          (none, .v 24 (.move (.t 5))),
          (none, .v 25 (.iadr none T46 (.t 23) (.t 24))),
          (none, .v 26 (.fadr T46 1 (.t 25))),
          (none, .load 27 .bool (.t 26)),
          (none, .v 28 (.build T46 [(0, .t 22), (1, .t 27)])),
          (none, .lit 29 0 T46 1 [(0, .t 28)] false)] [
          (none, .app 30 1 T46 2 (.t 17) (.t 29) false),
          (none, .v 4 (.move (.t 30)))]))
      (.region 0 [
        (none, .v 15 (.move (.t 5))),
        (none, .v 16 (.add (.t 15) (.k (.int .i64 (1))))),
        (none, .v 5 (.move (.t 16)))]))))))
  (.seq
  (.region 0 [
    (none, .v 31 (.move (.t 0))),
    (none, .v 32 (.move (.t 4))),
    (none, .v 2 (.move (.t 31))),
    (none, .v 3 (.move (.t 32)))])
  .ret)))))
def nt_l19_cut : Nat := 33
def rs_l19_cut : List RV := [.tmp 2, .tmp 3]
/-- pontage/bcomp.Out -/
abbrev f_bcomp_Out : FuncId := 8
def ac_bcomp_Out : AC :=
  (.seq
  (.region 2 [
    (none, .boxc 6 T28 (.t 0)),
    (none, .boxc 9 T36 (.t 3)),
    (none, .box 10 0 (.int .i64) (.t 4)),
    (none, .box 11 1 .bool (.t 5)),
    (none, .v 12 (.move (.k (.sl (.int .i64) [] .full)))),
    (none, .v 13 (.move (.k (.bool false))))])
  (.seq
  (.draw 2 [[], [], [], [], [], [], [], [6], [], []] [
    (none, .v 23 (.fadr T36 0 (.t 9))),
    (none, .load 24 T22 (.t 23)),
    (none, .v 25 (.fadr T28 0 (.t 6))),
    (none, .load 26 T22 (.t 25)),
    (none, .v 27 (.eqT T22 false (.t 24) (.t 26))),
    (none, .v 28 (.fadr T36 0 (.t 9))),
    (none, .load 29 T22 (.t 28)),
    (none, .callP (some 30) 17 [.t 29] 0 0 false),
    (none, .alloc 14 0 .bool),
    (none, .alloc 15 1 .bool)] [
    (none, .store .bool (.t 14) (.t 27)),
    (none, .store .bool (.t 15) (.t 30))])
  (.seq
  (.region 0 [
    (none, .v 31 (.move (.t 2))),
    (none, .v 32 (.cmp .ge (.t 31) (.k (.int .i64 (0))))),
    (none, .v 33 (.move (.t 32))),
    (some (33, true), .load 34 .bool (.t 14)),
    (some (33, true), .v 35 (.move (.t 34))),
    (some (35, false), .load 36 .bool (.t 15)),
    (some (33, true), .v 37 (.pick (.t 35) (.k (.bool true)) (.t 36))),
    (none, .v 38 (.pick (.t 33) (.t 37) (.k (.bool false)))),
    (none, .v 16 (.move (.t 38)))])
  (.seq
  (.region 0 [
    (none, .v 39 (.mkfn 18 [.t 14, .t 15, .t 11, .t 10])),
    (none, .v 17 (.move (.t 39)))])
  (.seq
  (.region 1 [
    (none, .load 41 T28 (.t 6)),
    (none, .v 42 (.fadr T36 2 (.t 9))),
    (none, .v 43 (.fadr T31 2 (.t 42))),
    (none, .load 44 (.int .i64) (.t 43)),
    (none, .callP (some 45) 19 [.t 41, .t 44] 0 1 true),
    (none, .v 40 (.move (.t 45))),
    (none, .v 46 (.ext (.t 40) 0)),
    (none, .v 47 (.ext (.t 40) 1)),
    (none, .v 18 (.move (.t 46))),
    (none, .v 19 (.move (.t 47)))])
  (.seq
  (.region 1 [
    (none, .mk 20 0 (.int .i64) (.k (.sl (.int .i64) [] .full)))])
  (.seq
  .skip
  (.seq
  (.seq
  (.region 0 [
    (none, .v 48 (.move (.t 18))),
    (none, .v 49 (.len false (.t 48))),
    (none, .v 50 (.move (.k (.int .i64 (0)))))])
  (.block 0
    (.loop [1, 2, 16, 17, 20, 48, 49, 50]
      (.seq
      (.region 0 [
        (none, .v 51 (.cmp .lt (.t 50) (.t 49)))])
      (.seq
      (.cond (.t 51)
        .skip
        (.exit 0))
      (.seq
      (.block 1
        (.seq
        (.region 0 [
          (none, .v 52 (.iadr none (.int .i64) (.t 48) (.t 50))),
          (none, .load 53 (.int .i64) (.t 52)),
          (none, .v 22 (.move (.t 53)))])
        (.seq
        (.seq
        (.region 0 [
          (none, .v 54 (.move (.t 22))),
          (none, .v 55 (.move (.t 2))),
          (none, .v 56 (.cmp .eq (.t 54) (.t 55))),
          (none, .v 57 (.move (.t 56))),
          (some (57, false), .v 58 (.move (.t 1))),
          (some (57, false), .v 59 (.move (.t 22))),
          (some (57, false), .callP (some 60) 20 [.t 58, .t 59] 0 0 true),
          (some (57, false), .v 61 (.fieldv T46 1 (.t 60))),
          (some (57, false), .v 62 (.not (.t 61))),
          (none, .v 63 (.pick (.t 57) (.k (.bool true)) (.t 62))),
          (none, .v 64 (.move (.t 63))),
          (some (64, false), .v 65 (.move (.t 17))),
          (some (64, false), .v 66 (.move (.t 22))),
          (some (64, false), .callS (some 67) (.t 65) [.t 66] [] [18, 30, 41]),
          (some (64, false), .v 68 (.not (.t 67))),
          (none, .v 69 (.pick (.t 64) (.k (.bool true)) (.t 68)))])
        (.cond (.t 69)
          (.exit 1)
          .skip))
        (.region 2 [
          (none, .v 70 (.move (.t 20))),
          (none, .v 71 (.move (.t 22))),
          (none, .lit 72 0 (.int .i64) 1 [(0, .t 71)] false),
          (none, .app 73 1 (.int .i64) 8 (.t 70) (.t 72) false),
          (none, .v 20 (.move (.t 73)))]))))
      (.region 0 [
        (none, .v 74 (.add (.t 50) (.k (.int .i64 (1))))),
        (none, .v 50 (.move (.t 74)))])))))))
  (.seq
  (.region 0 [
    (none, .v 75 (.move (.t 20))),
    (none, .v 76 (.move (.t 16))),
    (none, .v 12 (.move (.t 75))),
    (none, .v 13 (.move (.t 76)))])
  .ret)))))))))
def nt_bcomp_Out : Nat := 77
def rs_bcomp_Out : List RV := [.tmp 12, .tmp 13]
/-- pontage/pontageref18.SameInts -/
abbrev f_r18_SameInts : FuncId := 11
def ac_r18_SameInts : AC :=
  (.seq
  (.region 0 [
    (none, .v 4 (.move (.k (.bool false))))])
  (.seq
  (.seq
  (.region 0 [
    (none, .v 6 (.move (.t 0))),
    (none, .v 7 (.len false (.t 6))),
    (none, .v 8 (.move (.t 1))),
    (none, .v 9 (.len false (.t 8))),
    (none, .v 10 (.cmp .ne (.t 7) (.t 9)))])
  (.cond (.t 10)
    (.seq
    (.region 0 [
      (none, .v 4 (.move (.k (.bool false))))])
    .ret)
    .skip))
  (.seq
  (.seq
  (.region 0 [
    (none, .v 5 (.move (.k (.int .i64 (0)))))])
  (.block 0
    (.loop [0, 1, 5]
      (.seq
      (.seq
      (.region 0 [
        (none, .v 11 (.move (.t 5))),
        (none, .v 12 (.move (.t 0))),
        (none, .v 13 (.len false (.t 12))),
        (none, .v 14 (.cmp .lt (.t 11) (.t 13)))])
      (.cond (.t 14)
        .skip
        (.exit 0)))
      (.seq
      (.block 1
        (.seq
        (.draw 0 [[], [], [], [], [], [], [], []] [
          (none, .v 17 (.move (.t 0))),
          (none, .v 18 (.move (.t 5))),
          (none, .v 19 (.iadr none (.int .i64) (.t 17) (.t 18))),
          (none, .load 20 (.int .i64) (.t 19)),
          (none, .v 21 (.move (.t 1))),
          (none, .v 22 (.move (.t 5))),
          (none, .v 23 (.iadr none (.int .i64) (.t 21) (.t 22))),
          (none, .load 24 (.int .i64) (.t 23))] [
          (none, .v 25 (.cmp .ne (.t 20) (.t 24)))])
        (.cond (.t 25)
          (.seq
          (.region 0 [
            (none, .v 4 (.move (.k (.bool false))))])
          .ret)
          .skip)))
      (.region 0 [
        (none, .v 15 (.move (.t 5))),
        (none, .v 16 (.add (.t 15) (.k (.int .i64 (1))))),
        (none, .v 5 (.move (.t 16)))]))))))
  (.seq
  (.region 0 [
    (none, .v 4 (.move (.k (.bool true))))])
  .ret))))
def nt_r18_SameInts : Nat := 26
def rs_r18_SameInts : List RV := [.tmp 4]
/-- pontage/pontagelaw19.awake -/
abbrev f_l19_awake : FuncId := 12
def ac_l19_awake : AC :=
  (.seq
  (.region 0 [
    (none, .v 0 (.move (.k (.bool false))))])
  (.seq
  (.region 4 [
    (none, .v 7 (.build T22 [(0, .k (.int .u8 (2)))])),
    (none, .lit 8 0 (.int .i64) 3 [(0, .k (.int .i64 (1))), (1, .k (.int .i64 (2))), (2, .k (.int .i64 (3)))] false),
    (none, .v 9 (.build T53 [(0, .k (.int .i64 (10))), (1, .t 8)])),
    (none, .lit 10 1 T53 1 [(0, .t 9)] false),
    (none, .v 11 (.build T55 [(0, .k (.int .i64 (5))), (1, .k (.int .i64 (10)))])),
    (none, .lit 12 2 T55 1 [(0, .t 11)] false),
    (none, .v 13 (.build T28 [(0, .t 7), (4, .t 10), (3, .t 12)])),
    (none, .alloc 1 3 T28),
    (none, .store T28 (.t 1) (.t 13))])
  (.seq
  (.region 1 [
    (none, .v 14 (.build T46 [(0, .k (.bool true)), (1, .k (.bool true))])),
    (none, .alloc 2 0 T46),
    (none, .store T46 (.t 2) (.t 14))])
  (.seq
  (.region 1 [
    (none, .v 15 (.build T46 [])),
    (none, .load 16 T46 (.t 2)),
    (none, .load 17 T46 (.t 2)),
    (none, .load 18 T46 (.t 2)),
    (none, .lit 19 0 T46 4 [(0, .t 15), (1, .t 16), (2, .t 17), (3, .t 18)] false),
    (none, .v 3 (.move (.t 19)))])
  (.seq
  (.region 1 [
    (none, .v 20 (.build T22 [(0, .k (.int .u8 (4)))])),
    (none, .v 21 (.build T22 [(0, .k (.int .u8 (6)))])),
    (none, .v 22 (.build T31 [(2, .k (.int .i64 (10)))])),
    (none, .v 23 (.build T33 [(3, .k (.int .i64 (5)))])),
    (none, .v 24 (.build T36 [(0, .t 20), (1, .t 21), (2, .t 22), (3, .t 23)])),
    (none, .alloc 4 0 T36),
    (none, .store T36 (.t 4) (.t 24))])
  (.seq
  (.region 1 [
    (none, .load 26 T28 (.t 1)),
    (none, .v 27 (.move (.t 3))),
    (none, .load 28 T36 (.t 4)),
    (none, .callP (some 29) 8 [.t 26, .t 27, .k (.int .i64 (2)), .t 28, .k (.int .i64 (0)), .k (.bool false)] 0 1 true),
    (none, .v 25 (.move (.t 29))),
    (none, .v 30 (.ext (.t 25) 0)),
    (none, .v 31 (.ext (.t 25) 1)),
    (none, .v 5 (.move (.t 30))),
    (none, .v 6 (.move (.t 31)))])
  (.seq
  (.region 1 [
    (none, .v 32 (.move (.t 5))),
    (none, .lit 33 0 (.int .i64) 2 [(0, .k (.int .i64 (1))), (1, .k (.int .i64 (3)))] false),
    (none, .callP (some 34) 11 [.t 32, .t 33] 1 0 true),
    (none, .v 35 (.move (.t 34))),
    (some (35, true), .v 36 (.move (.t 6))),
    (some (35, true), .v 37 (.not (.t 36))),
    (none, .v 38 (.pick (.t 35) (.t 37) (.k (.bool false)))),
    (none, .v 39 (.move (.t 38))),
    (some (39, true), .load 40 T28 (.t 1)),
    (some (39, true), .v 41 (.move (.t 3))),
    (some (39, true), .load 42 T36 (.t 4)),
    (some (39, true), .callP (some 43) 13 [.t 40, .t 41, .k (.int .i64 (2)), .t 42] 1 0 true),
    (some (39, true), .v 44 (.cmp .eq (.t 43) (.k (.int .i64 (0))))),
    (none, .v 45 (.pick (.t 39) (.t 44) (.k (.bool false)))),
    (none, .v 46 (.move (.t 45))),
    (some (46, true), .load 47 T28 (.t 1)),
    (some (46, true), .v 48 (.move (.t 3))),
    (some (46, true), .load 49 T36 (.t 4)),
    (some (46, true), .callP (some 50) 13 [.t 47, .t 48, .k (.int .i64 (0)), .t 49] 1 0 true),
    (some (46, true), .v 51 (.cmp .eq (.t 50) (.k (.int .i64 (8))))),
    (none, .v 52 (.pick (.t 46) (.t 51) (.k (.bool false)))),
    (none, .v 53 (.move (.t 52))),
    (some (53, true), .load 54 T28 (.t 1)),
    (some (53, true), .v 55 (.move (.t 3))),
    (some (53, true), .load 56 T36 (.t 4)),
    (some (53, true), .callP (some 57) 25 [.t 54, .t 55, .k (.int .i64 (2)), .t 56] 1 0 true),
    (none, .v 58 (.pick (.t 53) (.t 57) (.k (.bool false)))),
    (none, .v 59 (.move (.t 58))),
    (some (59, true), .load 60 T28 (.t 1)),
    (some (59, true), .load 61 T36 (.t 4)),
    (some (59, true), .callP (some 62) 14 [.t 60, .t 61] 1 0 true),
    (some (59, true), .v 63 (.cmp .eq (.t 62) (.k (.int .i64 (0))))),
    (none, .v 64 (.pick (.t 59) (.t 63) (.k (.bool false)))),
    (none, .v 65 (.move (.t 64))),
    (some (65, true), .load 66 T28 (.t 1)),
    (some (65, true), .v 67 (.build T36 [])),
    (some (65, true), .callP (some 68) 14 [.t 66, .t 67] 1 0 true),
    (some (65, true), .v 69 (.cmp .eq (.t 68) (.k (.int .i64 (7))))),
    (none, .v 70 (.pick (.t 65) (.t 69) (.k (.bool false)))),
    (none, .v 0 (.move (.t 70)))])
  .ret)))))))
def nt_l19_awake : Nat := 71
def rs_l19_awake : List RV := [.tmp 0]
/-- pontage/bcomp.In -/
abbrev f_bcomp_In : FuncId := 13
def ac_bcomp_In : AC :=
  (.seq
  (.region 0 [
    (none, .boxc 4 T28 (.t 0)),
    (none, .boxc 7 T36 (.t 3)),
    (none, .v 8 (.move (.k (.int .i64 (0)))))])
  (.block 0
    (.seq
    (.region 0 [
      (none, .load 10 T28 (.t 4)),
      (none, .v 11 (.move (.t 2))),
      (none, .load 12 T36 (.t 7)),
      (none, .callP (some 13) 26 [.t 10, .t 11, .t 12] 0 0 true),
      (none, .v 14 (.not (.t 13))),
      (none, .v 9 (.move (.t 14)))])
    (.cond (.t 9)
      (.seq
      (.region 0 [
        (none, .v 8 (.move (.k (.int .i64 (8)))))])
      .ret)
      (.seq
      (.region 0 [
        (none, .v 16 (.fadr T36 1 (.t 7))),
        (none, .load 17 T22 (.t 16)),
        (none, .v 18 (.fadr T28 0 (.t 4))),
        (none, .load 19 T22 (.t 18)),
        (none, .v 20 (.eqT T22 false (.t 17) (.t 19))),
        (none, .v 15 (.move (.t 20)))])
      (.cond (.t 15)
        (.seq
        (.region 0 [
          (none, .v 8 (.move (.k (.int .i64 (11)))))])
        .ret)
        (.seq
        (.region 0 [
          (none, .v 22 (.fadr T36 0 (.t 7))),
          (none, .load 23 T22 (.t 22)),
          (none, .callP (some 24) 27 [.t 23] 0 0 true),
          (none, .v 25 (.cmp .eq (.t 24) (.k (.int .i64 (4))))),
          (none, .v 21 (.move (.t 25)))])
        (.cond (.t 21)
          (.seq
          (.region 0 [
            (none, .v 8 (.move (.k (.int .i64 (10)))))])
          .ret)
          (.seq
          (.region 0 [
            (none, .v 27 (.move (.t 1))),
            (none, .v 28 (.move (.t 2))),
            (none, .callP (some 29) 20 [.t 27, .t 28] 0 0 true),
            (none, .v 30 (.fieldv T46 1 (.t 29))),
            (none, .v 31 (.not (.t 30))),
            (none, .v 26 (.move (.t 31)))])
          (.cond (.t 26)
            (.seq
            (.region 0 [
              (none, .v 8 (.move (.k (.int .i64 (9)))))])
            .ret)
            (.seq
            (.region 0 [
              (none, .v 8 (.move (.k (.int .i64 (0)))))])
            .ret)))))))))))
def nt_bcomp_In : Nat := 32
def rs_bcomp_In : List RV := [.tmp 8]
/-- pontage/bcomp.Accept -/
abbrev f_bcomp_Accept : FuncId := 14
def ac_bcomp_Accept : AC :=
  (.seq
  (.region 0 [
    (none, .boxc 2 T28 (.t 0)),
    (none, .boxc 3 T36 (.t 1)),
    (none, .v 4 (.move (.k (.int .i64 (0)))))])
  (.seq
  (.seq
  (.region 0 [
    (none, .load 8 T28 (.t 2)),
    (none, .v 9 (.fadr T36 3 (.t 3))),
    (none, .v 10 (.fadr T33 3 (.t 9))),
    (none, .load 11 (.int .i64) (.t 10)),
    (none, .callP (some 12) 28 [.t 8, .t 11] 0 0 true),
    (none, .v 7 (.move (.t 12))),
    (none, .v 13 (.ext (.t 7) 0)),
    (none, .v 14 (.ext (.t 7) 1)),
    (none, .v 5 (.move (.t 13))),
    (none, .v 6 (.move (.t 14)))])
  (.seq
  (.region 0 [
    (none, .v 15 (.move (.t 6))),
    (none, .v 16 (.not (.t 15))),
    (none, .v 17 (.move (.t 16))),
    (some (17, false), .v 18 (.move (.t 5))),
    (some (17, false), .v 19 (.fadr T36 2 (.t 3))),
    (some (17, false), .v 20 (.fadr T31 2 (.t 19))),
    (some (17, false), .load 21 (.int .i64) (.t 20)),
    (some (17, false), .v 22 (.cmp .ne (.t 18) (.t 21))),
    (none, .v 23 (.pick (.t 17) (.k (.bool true)) (.t 22)))])
  (.cond (.t 23)
    (.seq
    (.region 0 [
      (none, .v 4 (.move (.k (.int .i64 (7)))))])
    .ret)
    .skip)))
  (.seq
  (.region 0 [
    (none, .v 4 (.move (.k (.int .i64 (0)))))])
  .ret)))
def nt_bcomp_Accept : Nat := 24
def rs_bcomp_Accept : List RV := [.tmp 4]
/-- pontage/mac.Many -/
abbrev f_mac_Many : FuncId := 17
def ac_mac_Many : AC :=
  (.seq
  (.region 0 [
    (none, .boxc 1 T22 (.t 0)),
    (none, .v 2 (.move (.k (.bool false))))])
  (.seq
  (.region 0 [
    (none, .v 3 (.iadr (some 6) (.int .u8) (.t 1) (.k (.int .i64 (0))))),
    (none, .load 4 (.int .u8) (.t 3)),
    (none, .v 5 (.bit .and (.t 4) (.k (.int .u8 (1))))),
    (none, .v 6 (.cmp .eq (.t 5) (.k (.int .u8 (1))))),
    (none, .v 2 (.move (.t 6)))])
  .ret))
def nt_mac_Many : Nat := 7
def rs_mac_Many : List RV := [.tmp 2]
/-- pontage/bcomp.Out$1 -/
abbrev f_bcomp_Out_1 : FuncId := 18
def ac_bcomp_Out_1 : AC :=
  (.seq
  (.region 0 [
    (none, .v 6 (.move (.k (.bool false))))])
  (.seq
  (.region 0 [
    (none, .load 7 .bool (.t 1)),
    (none, .v 8 (.not (.t 7))),
    (none, .v 9 (.move (.t 8))),
    (some (9, true), .load 10 .bool (.t 2)),
    (some (9, true), .v 11 (.move (.t 10))),
    (some (11, false), .load 12 .bool (.t 3)),
    (some (11, false), .v 13 (.not (.t 12))),
    (some (9, true), .v 14 (.pick (.t 11) (.k (.bool true)) (.t 13))),
    (some (9, true), .v 15 (.move (.t 14))),
    (some (15, false), .v 16 (.move (.t 0))),
    (some (15, false), .load 17 (.int .i64) (.t 4)),
    (some (15, false), .v 18 (.cmp .eq (.t 16) (.t 17))),
    (some (9, true), .v 19 (.pick (.t 15) (.k (.bool true)) (.t 18))),
    (none, .v 20 (.pick (.t 9) (.t 19) (.k (.bool false)))),
    (none, .v 6 (.move (.t 20)))])
  .ret))
def nt_bcomp_Out_1 : Nat := 21
def rs_bcomp_Out_1 : List RV := [.tmp 6]
/-- pontage/prov.Ports -/
abbrev f_prov_Ports : FuncId := 19
def ac_prov_Ports : AC :=
  (.seq
  (.region 1 [
    (none, .boxc 2 T28 (.t 0)),
    (none, .box 3 0 (.int .i64) (.t 1)),
    (none, .v 4 (.move (.k (.sl (.int .i64) [] .full)))),
    (none, .v 5 (.move (.k (.bool false))))])
  (.seq
  (.region 1 [
    (none, .v 9 (.fadr T28 4 (.t 2))),
    (none, .load 10 (.sl (.st [.int .i64, .sl (.int .i64)])) (.t 9)),
    (none, .v 11 (.mkfn 30 [.t 3])),
    (none, .callS (some 12) (.k (.fn 29 [])) [.t 10, .t 11] [] [29]),
    (none, .v 8 (.move (.t 12))),
    (none, .v 13 (.ext (.t 8) 0)),
    (none, .v 14 (.ext (.t 8) 1)),
    (none, .alloc 6 0 T53),
    (none, .store T53 (.t 6) (.t 13)),
    (none, .v 7 (.move (.t 14)))])
  (.seq
  (.region 1 [
    (none, .v 15 (.fadr T53 1 (.t 6))),
    (none, .load 16 (.sl (.int .i64)) (.t 15)),
    (none, .callP (some 17) 31 [.t 16] 0 1 true),
    (none, .v 18 (.move (.t 7))),
    (none, .v 4 (.move (.t 17))),
    (none, .v 5 (.move (.t 18)))])
  .ret)))
def nt_prov_Ports : Nat := 19
def rs_prov_Ports : List RV := [.tmp 4, .tmp 5]
/-- pontage/bcomp.gate -/
abbrev f_bcomp_gate : FuncId := 20
def ac_bcomp_gate : AC :=
  (.seq
  (.region 1 [
    (none, .alloc 4 0 T46)])
  (.seq
  (.seq
  (.region 0 [
    (none, .v 5 (.move (.t 1))),
    (none, .v 6 (.cmp .lt (.t 5) (.k (.int .i64 (0))))),
    (none, .v 7 (.move (.t 6))),
    (some (7, false), .v 8 (.move (.t 1))),
    (some (7, false), .v 9 (.move (.t 0))),
    (some (7, false), .v 10 (.len false (.t 9))),
    (some (7, false), .v 11 (.cmp .ge (.t 8) (.t 10))),
    (none, .v 12 (.pick (.t 7) (.k (.bool true)) (.t 11)))])
  (.cond (.t 12)
    (.seq
    (.region 0 [
      (none, .v 13 (.build T46 [])),
      (none, .store T46 (.t 4) (.t 13))])
    .ret)
    .skip))
  (.seq
  (.region 0 [
    (none, .v 14 (.move (.t 0))),
    (none, .v 15 (.move (.t 1))),
    (none, .v 16 (.iadr none T46 (.t 14) (.t 15))),
    (none, .load 17 T46 (.t 16)),
    (none, .store T46 (.t 4) (.t 17))])
  .ret)))
def nt_bcomp_gate : Nat := 18
def rs_bcomp_gate : List RV := [.cell 4 T46]
/-- pontage/bcomp.Learns -/
abbrev f_bcomp_Learns : FuncId := 25
def ac_bcomp_Learns : AC :=
  (.seq
  (.region 0 [
    (none, .boxc 4 T28 (.t 0)),
    (none, .boxc 7 T36 (.t 3)),
    (none, .v 8 (.move (.k (.bool false))))])
  (.seq
  (.region 0 [
    (none, .load 9 T28 (.t 4)),
    (none, .v 10 (.move (.t 2))),
    (none, .load 11 T36 (.t 7)),
    (none, .callP (some 12) 26 [.t 9, .t 10, .t 11] 0 0 true),
    (none, .v 13 (.move (.t 12))),
    (some (13, true), .v 14 (.move (.t 1))),
    (some (13, true), .v 15 (.move (.t 2))),
    (some (13, true), .callP (some 16) 20 [.t 14, .t 15] 0 0 true),
    (some (13, true), .v 17 (.fieldv T46 0 (.t 16))),
    (none, .v 18 (.pick (.t 13) (.t 17) (.k (.bool false)))),
    (none, .v 19 (.move (.t 18))),
    (some (19, true), .v 20 (.fadr T36 1 (.t 7))),
    (some (19, true), .load 21 T22 (.t 20)),
    (some (19, true), .v 22 (.fadr T28 0 (.t 4))),
    (some (19, true), .load 23 T22 (.t 22)),
    (some (19, true), .v 24 (.eqT T22 true (.t 21) (.t 23))),
    (none, .v 25 (.pick (.t 19) (.t 24) (.k (.bool false)))),
    (none, .v 26 (.move (.t 25))),
    (some (26, true), .v 27 (.fadr T36 1 (.t 7))),
    (some (26, true), .load 28 T22 (.t 27)),
    (some (26, true), .callP (some 29) 27 [.t 28] 0 0 true),
    (some (26, true), .v 30 (.cmp .eq (.t 29) (.k (.int .i64 (1))))),
    (none, .v 31 (.pick (.t 26) (.t 30) (.k (.bool false)))),
    (none, .v 8 (.move (.t 31)))])
  .ret))
def nt_bcomp_Learns : Nat := 32
def rs_bcomp_Learns : List RV := [.tmp 8]
/-- pontage/bcomp.member -/
abbrev f_bcomp_member : FuncId := 26
def ac_bcomp_member : AC :=
  (.seq
  (.region 0 [
    (none, .boxc 3 T28 (.t 0)),
    (none, .boxc 5 T36 (.t 2)),
    (none, .v 6 (.move (.k (.bool false))))])
  (.seq
  (.region 1 [
    (none, .load 10 T28 (.t 3)),
    (none, .v 11 (.fadr T36 2 (.t 5))),
    (none, .v 12 (.fadr T31 2 (.t 11))),
    (none, .load 13 (.int .i64) (.t 12)),
    (none, .callP (some 14) 19 [.t 10, .t 13] 0 1 true),
    (none, .v 9 (.move (.t 14))),
    (none, .v 15 (.ext (.t 9) 0)),
    (none, .v 16 (.ext (.t 9) 1)),
    (none, .v 7 (.move (.t 15))),
    (none, .v 8 (.move (.t 16)))])
  (.seq
  (.region 0 [
    (none, .v 17 (.move (.t 7))),
    (none, .v 18 (.move (.t 1))),
    (none, .callP (some 19) 39 [.t 17, .t 18] 0 0 true),
    (none, .v 6 (.move (.t 19)))])
  .ret)))
def nt_bcomp_member : Nat := 20
def rs_bcomp_member : List RV := [.tmp 6]
/-- pontage/mac.Kind -/
abbrev f_mac_Kind : FuncId := 27
def ac_mac_Kind : AC :=
  (.seq
  (.region 0 [
    (none, .boxc 1 T22 (.t 0)),
    (none, .v 2 (.move (.k (.int .i64 (0)))))])
  (.block 0
    (.seq
    (.region 0 [
      (none, .load 4 T22 (.t 1)),
      (none, .v 5 (.build T22 [])),
      (none, .v 6 (.eqT T22 false (.t 4) (.t 5))),
      (none, .v 3 (.move (.t 6)))])
    (.cond (.t 3)
      (.seq
      (.region 0 [
        (none, .v 2 (.move (.k (.int .i64 (6)))))])
      .ret)
      (.seq
      (.region 0 [
        (none, .load 8 T22 (.t 1)),
        (none, .v 9 (.build T22 [(0, .k (.int .u8 (255))), (1, .k (.int .u8 (255))), (2, .k (.int .u8 (255))), (3, .k (.int .u8 (255))), (4, .k (.int .u8 (255))), (5, .k (.int .u8 (255)))])),
        (none, .v 10 (.eqT T22 false (.t 8) (.t 9))),
        (none, .v 7 (.move (.t 10)))])
      (.cond (.t 7)
        (.seq
        (.region 0 [
          (none, .v 2 (.move (.k (.int .i64 (3)))))])
        .ret)
        (.seq
        (.region 0 [
          (none, .v 12 (.sliceA 6 (.int .u8) (.t 1) none (some (.k (.int .i64 (5)))))),
          (none, .v 13 (.sarr 5 (.int .u8) (.t 12))),
          (none, .load 14 T105 (.t 13)),
          (none, .v 15 (.build T105 [(0, .k (.int .u8 (1))), (1, .k (.int .u8 (128))), (2, .k (.int .u8 (194))), (3, .k (.int .u8 (0))), (4, .k (.int .u8 (0)))])),
          (none, .v 16 (.eqT T105 false (.t 14) (.t 15))),
          (none, .v 17 (.move (.t 16))),
          (some (17, true), .v 18 (.iadr (some 6) (.int .u8) (.t 1) (.k (.int .i64 (5))))),
          (some (17, true), .load 19 (.int .u8) (.t 18)),
          (some (17, true), .v 20 (.cmp .lt (.t 19) (.k (.int .u8 (16))))),
          (none, .v 21 (.pick (.t 17) (.t 20) (.k (.bool false)))),
          (none, .v 11 (.move (.t 21)))])
        (.cond (.t 11)
          (.seq
          (.region 0 [
            (none, .v 2 (.move (.k (.int .i64 (4)))))])
          .ret)
          (.seq
          (.region 0 [
            (none, .v 23 (.sliceA 6 (.int .u8) (.t 1) none (some (.k (.int .i64 (3)))))),
            (none, .v 24 (.sarr 3 (.int .u8) (.t 23))),
            (none, .load 25 T106 (.t 24)),
            (none, .v 26 (.build T106 [(0, .k (.int .u8 (1))), (1, .k (.int .u8 (30))), (2, .k (.int .u8 (131)))])),
            (none, .v 27 (.eqT T106 false (.t 25) (.t 26))),
            (none, .v 22 (.move (.t 27)))])
          (.cond (.t 22)
            (.seq
            (.region 0 [
              (none, .v 2 (.move (.k (.int .i64 (5)))))])
            .ret)
            (.seq
            (.region 0 [
              (none, .load 29 T22 (.t 1)),
              (none, .callP (some 30) 17 [.t 29] 0 0 true),
              (none, .v 28 (.move (.t 30)))])
            (.cond (.t 28)
              (.seq
              (.region 0 [
                (none, .v 2 (.move (.k (.int .i64 (2)))))])
              .ret)
              (.seq
              (.region 0 [
                (none, .v 2 (.move (.k (.int .i64 (1)))))])
              .ret)))))))))))))
def nt_mac_Kind : Nat := 31
def rs_mac_Kind : List RV := [.tmp 2]
/-- pontage/prov.Carrier -/
abbrev f_prov_Carrier : FuncId := 28
def ac_prov_Carrier : AC :=
  (.seq
  (.region 1 [
    (none, .boxc 2 T28 (.t 0)),
    (none, .box 3 0 (.int .i64) (.t 1)),
    (none, .v 4 (.move (.k (.int .i64 (0))))),
    (none, .v 5 (.move (.k (.bool false))))])
  (.seq
  (.region 1 [
    (none, .v 9 (.fadr T28 3 (.t 2))),
    (none, .load 10 (.sl (.st [.int .i64, .int .i64])) (.t 9)),
    (none, .v 11 (.mkfn 41 [.t 3])),
    (none, .callS (some 12) (.k (.fn 40 [])) [.t 10, .t 11] [] [40]),
    (none, .v 8 (.move (.t 12))),
    (none, .v 13 (.ext (.t 8) 0)),
    (none, .v 14 (.ext (.t 8) 1)),
    (none, .alloc 6 0 T55),
    (none, .store T55 (.t 6) (.t 13)),
    (none, .v 7 (.move (.t 14)))])
  (.seq
  (.region 0 [
    (none, .v 15 (.fadr T55 1 (.t 6))),
    (none, .load 16 (.int .i64) (.t 15)),
    (none, .v 17 (.move (.t 7))),
    (none, .v 4 (.move (.t 16))),
    (none, .v 5 (.move (.t 17)))])
  .ret)))
def nt_prov_Carrier : Nat := 18
def rs_prov_Carrier : List RV := [.tmp 4, .tmp 5]
/-- pontage/prov.first[pontage/api.Member] -/
abbrev f_prov_first_api_Member : FuncId := 29
def ac_prov_first_api_Member : AC :=
  (.seq
  (.region 1 [
    (none, .alloc 4 0 T53),
    (none, .v 5 (.move (.k (.bool false))))])
  (.seq
  (.region 0 [
    (none, .v 8 (.move (.t 0))),
    (none, .v 9 (.move (.t 1))),
    (none, .callS (some 10) (.k (.fn 42 [])) [.t 8, .t 9] [] [42]),
    (none, .v 6 (.move (.t 10)))])
  (.seq
  (.seq
  (.region 0 [
    (none, .v 11 (.move (.t 6))),
    (none, .v 12 (.cmp .lt (.t 11) (.k (.int .i64 (0)))))])
  (.cond (.t 12)
    (.seq
    (.region 1 [
      (none, .alloc 7 0 T53)])
    (.seq
    (.region 0 [
      (none, .load 13 T53 (.t 7)),
      (none, .store T53 (.t 4) (.t 13)),
      (none, .v 5 (.move (.k (.bool false))))])
    .ret))
    .skip))
  (.seq
  (.region 0 [
    (none, .v 14 (.move (.t 0))),
    (none, .v 15 (.move (.t 6))),
    (none, .v 16 (.iadr none T53 (.t 14) (.t 15))),
    (none, .load 17 T53 (.t 16)),
    (none, .store T53 (.t 4) (.t 17)),
    (none, .v 5 (.move (.k (.bool true))))])
  .ret))))
def nt_prov_first_api_Member : Nat := 18
def rs_prov_first_api_Member : List RV := [.cell 4 T53, .tmp 5]
/-- pontage/prov.Ports$1 -/
abbrev f_prov_Ports_1 : FuncId := 30
def ac_prov_Ports_1 : AC :=
  (.seq
  (.region 0 [
    (none, .boxc 2 T53 (.t 0)),
    (none, .v 3 (.move (.k (.bool false))))])
  (.seq
  (.region 0 [
    (none, .v 4 (.fadr T53 0 (.t 2))),
    (none, .load 5 (.int .i64) (.t 4)),
    (none, .load 6 (.int .i64) (.t 1)),
    (none, .v 7 (.cmp .eq (.t 5) (.t 6))),
    (none, .v 3 (.move (.t 7)))])
  .ret))
def nt_prov_Ports_1 : Nat := 8
def rs_prov_Ports_1 : List RV := [.tmp 3]
/-- slices.Clone[[]int,int] -/
abbrev f_slices_Clone_int_int : FuncId := 31
def ac_slices_Clone_int_int : AC :=
  (.seq
  (.region 0 [
    (none, .v 2 (.move (.k (.sl (.int .i64) [] .full))))])
  (.seq
  (.seq
  (.region 0 [
    (none, .v 3 (.move (.t 0))),
    (none, .eqnil 4 false (.t 3))])
  (.cond (.t 4)
    (.seq
    (.region 1 [
      (none, .mk 2 0 (.int .i64) (.k (.sl (.int .i64) [] .full)))])
    .ret)
    .skip))
  (.seq
  (.region 2 [
    (none, .lit 5 0 (.int .i64) 0 [] true),
    (none, .v 6 (.move (.t 0))),
    (none, .app 7 1 (.int .i64) 8 (.t 5) (.t 6) false),
    (none, .v 2 (.move (.t 7)))])
  .ret)))
def nt_slices_Clone_int_int : Nat := 8
def rs_slices_Clone_int_int : List RV := [.tmp 2]
/-- slices.Contains[[]int,int] -/
abbrev f_slices_Contains_int_int : FuncId := 39
def ac_slices_Contains_int_int : AC :=
  (.seq
  (.region 0 [
    (none, .v 4 (.move (.k (.bool false))))])
  (.seq
  (.region 0 [
    (none, .v 5 (.move (.t 0))),
    (none, .v 6 (.move (.t 1))),
    (none, .callP (some 7) 43 [.t 5, .t 6] 0 0 true),
    (none, .v 8 (.cmp .ge (.t 7) (.k (.int .i64 (0))))),
    (none, .v 4 (.move (.t 8)))])
  .ret))
def nt_slices_Contains_int_int : Nat := 9
def rs_slices_Contains_int_int : List RV := [.tmp 4]
/-- pontage/prov.first[pontage/api.Carry] -/
abbrev f_prov_first_api_Carry : FuncId := 40
def ac_prov_first_api_Carry : AC :=
  (.seq
  (.region 1 [
    (none, .alloc 4 0 T55),
    (none, .v 5 (.move (.k (.bool false))))])
  (.seq
  (.region 0 [
    (none, .v 8 (.move (.t 0))),
    (none, .v 9 (.move (.t 1))),
    (none, .callS (some 10) (.k (.fn 44 [])) [.t 8, .t 9] [] [44]),
    (none, .v 6 (.move (.t 10)))])
  (.seq
  (.seq
  (.region 0 [
    (none, .v 11 (.move (.t 6))),
    (none, .v 12 (.cmp .lt (.t 11) (.k (.int .i64 (0)))))])
  (.cond (.t 12)
    (.seq
    (.region 1 [
      (none, .alloc 7 0 T55)])
    (.seq
    (.region 0 [
      (none, .load 13 T55 (.t 7)),
      (none, .store T55 (.t 4) (.t 13)),
      (none, .v 5 (.move (.k (.bool false))))])
    .ret))
    .skip))
  (.seq
  (.region 0 [
    (none, .v 14 (.move (.t 0))),
    (none, .v 15 (.move (.t 6))),
    (none, .v 16 (.iadr none T55 (.t 14) (.t 15))),
    (none, .load 17 T55 (.t 16)),
    (none, .store T55 (.t 4) (.t 17)),
    (none, .v 5 (.move (.k (.bool true))))])
  .ret))))
def nt_prov_first_api_Carry : Nat := 18
def rs_prov_first_api_Carry : List RV := [.cell 4 T55, .tmp 5]
/-- pontage/prov.Carrier$1 -/
abbrev f_prov_Carrier_1 : FuncId := 41
def ac_prov_Carrier_1 : AC :=
  (.seq
  (.region 0 [
    (none, .boxc 2 T55 (.t 0)),
    (none, .v 3 (.move (.k (.bool false))))])
  (.seq
  (.region 0 [
    (none, .v 4 (.fadr T55 0 (.t 2))),
    (none, .load 5 (.int .i64) (.t 4)),
    (none, .load 6 (.int .i64) (.t 1)),
    (none, .v 7 (.cmp .eq (.t 5) (.t 6))),
    (none, .v 3 (.move (.t 7)))])
  .ret))
def nt_prov_Carrier_1 : Nat := 8
def rs_prov_Carrier_1 : List RV := [.tmp 3]
/-- slices.IndexFunc[[]pontage/api.Member,pontage/api.Member] -/
abbrev f_slices_IndexFunc_api_Member_api_Member : FuncId := 42
def ac_slices_IndexFunc_api_Member_api_Member : AC :=
  (.seq
  (.region 0 [
    (none, .v 4 (.move (.k (.int .i64 (0)))))])
  (.seq
  (.seq
  (.region 0 [
    (none, .v 6 (.move (.t 0))),
    (none, .v 7 (.len false (.t 6))),
    (none, .v 8 (.move (.k (.int .i64 (0)))))])
  (.block 0
    (.loop [0, 1, 7, 8]
      (.seq
      (.region 0 [
        (none, .v 9 (.cmp .lt (.t 8) (.t 7)))])
      (.seq
      (.cond (.t 9)
        .skip
        (.exit 0))
      (.seq
      (.block 1
        (.seq
        (.region 0 [
          (none, .v 10 (.move (.t 8))),
          (none, .v 5 (.move (.t 10)))])
        (.seq
        (.region 0 [
          (none, .v 11 (.move (.t 1))),
          (none, .v 12 (.move (.t 0))),
          (none, .v 13 (.move (.t 5))),
          (none, .v 14 (.iadr none T53 (.t 12) (.t 13))),
          (none, .load 15 T53 (.t 14)),
          (none, .callS (some 16) (.t 11) [.t 15] [] [18, 30, 41])])
        (.cond (.t 16)
          (.seq
          (.region 0 [
            (none, .v 17 (.move (.t 5))),
            (none, .v 4 (.move (.t 17)))])
          .ret)
          .skip))))
      (.region 0 [
        (none, .v 18 (.add (.t 8) (.k (.int .i64 (1))))),
        (none, .v 8 (.move (.t 18)))])))))))
  (.seq
  (.region 0 [
    (none, .v 4 (.move (.k (.int .i64 (-1)))))])
  .ret)))
def nt_slices_IndexFunc_api_Member_api_Member : Nat := 19
def rs_slices_IndexFunc_api_Member_api_Member : List RV := [.tmp 4]
/-- slices.Index[[]int,int] -/
abbrev f_slices_Index_int_int : FuncId := 43
def ac_slices_Index_int_int : AC :=
  (.seq
  (.region 0 [
    (none, .v 4 (.move (.k (.int .i64 (0)))))])
  (.seq
  (.seq
  (.region 0 [
    (none, .v 6 (.move (.t 0))),
    (none, .v 7 (.len false (.t 6))),
    (none, .v 8 (.move (.k (.int .i64 (0)))))])
  (.block 0
    (.loop [0, 1, 7, 8]
      (.seq
      (.region 0 [
        (none, .v 9 (.cmp .lt (.t 8) (.t 7)))])
      (.seq
      (.cond (.t 9)
        .skip
        (.exit 0))
      (.seq
      (.block 1
        (.seq
        (.region 0 [
          (none, .v 10 (.move (.t 8))),
          (none, .v 5 (.move (.t 10)))])
        (.seq
        (.region 0 [
          (none, .v 11 (.move (.t 1))),
          (none, .v 12 (.move (.t 0))),
          (none, .v 13 (.move (.t 5))),
          (none, .v 14 (.iadr none (.int .i64) (.t 12) (.t 13))),
          (none, .load 15 (.int .i64) (.t 14)),
          (none, .v 16 (.cmp .eq (.t 11) (.t 15)))])
        (.cond (.t 16)
          (.seq
          (.region 0 [
            (none, .v 17 (.move (.t 5))),
            (none, .v 4 (.move (.t 17)))])
          .ret)
          .skip))))
      (.region 0 [
        (none, .v 18 (.add (.t 8) (.k (.int .i64 (1))))),
        (none, .v 8 (.move (.t 18)))])))))))
  (.seq
  (.region 0 [
    (none, .v 4 (.move (.k (.int .i64 (-1)))))])
  .ret)))
def nt_slices_Index_int_int : Nat := 19
def rs_slices_Index_int_int : List RV := [.tmp 4]
/-- slices.IndexFunc[[]pontage/api.Carry,pontage/api.Carry] -/
abbrev f_slices_IndexFunc_api_Carry_api_Carry : FuncId := 44
def ac_slices_IndexFunc_api_Carry_api_Carry : AC :=
  (.seq
  (.region 0 [
    (none, .v 4 (.move (.k (.int .i64 (0)))))])
  (.seq
  (.seq
  (.region 0 [
    (none, .v 6 (.move (.t 0))),
    (none, .v 7 (.len false (.t 6))),
    (none, .v 8 (.move (.k (.int .i64 (0)))))])
  (.block 0
    (.loop [0, 1, 7, 8]
      (.seq
      (.region 0 [
        (none, .v 9 (.cmp .lt (.t 8) (.t 7)))])
      (.seq
      (.cond (.t 9)
        .skip
        (.exit 0))
      (.seq
      (.block 1
        (.seq
        (.region 0 [
          (none, .v 10 (.move (.t 8))),
          (none, .v 5 (.move (.t 10)))])
        (.seq
        (.region 0 [
          (none, .v 11 (.move (.t 1))),
          (none, .v 12 (.move (.t 0))),
          (none, .v 13 (.move (.t 5))),
          (none, .v 14 (.iadr none T55 (.t 12) (.t 13))),
          (none, .load 15 T55 (.t 14)),
          (none, .callS (some 16) (.t 11) [.t 15] [] [18, 30, 41])])
        (.cond (.t 16)
          (.seq
          (.region 0 [
            (none, .v 17 (.move (.t 5))),
            (none, .v 4 (.move (.t 17)))])
          .ret)
          .skip))))
      (.region 0 [
        (none, .v 18 (.add (.t 8) (.k (.int .i64 (1))))),
        (none, .v 8 (.move (.t 18)))])))))))
  (.seq
  (.region 0 [
    (none, .v 4 (.move (.k (.int .i64 (-1)))))])
  .ret)))
def nt_slices_IndexFunc_api_Carry_api_Carry : Nat := 19
def rs_slices_IndexFunc_api_Carry_api_Carry : List RV := [.tmp 4]
theorem mixed : prog.follows .mixedOrders = true := by kernel_rfl
theorem ok_l19_BcompApart : funOK prog f_l19_BcompApart nt_l19_BcompApart rs_l19_BcompApart ac_l19_BcompApart = true := by kernel_rfl
theorem ok_l19_Few : funOK prog f_l19_Few nt_l19_Few rs_l19_Few ac_l19_Few = true := by kernel_rfl
theorem ok_l19_cut : funOK prog f_l19_cut nt_l19_cut rs_l19_cut ac_l19_cut = true := by kernel_rfl
theorem ok_bcomp_Out : funOK prog f_bcomp_Out nt_bcomp_Out rs_bcomp_Out ac_bcomp_Out = true := by kernel_rfl
theorem ok_r18_SameInts : funOK prog f_r18_SameInts nt_r18_SameInts rs_r18_SameInts ac_r18_SameInts = true := by kernel_rfl
theorem ok_l19_awake : funOK prog f_l19_awake nt_l19_awake rs_l19_awake ac_l19_awake = true := by kernel_rfl
theorem ok_bcomp_In : funOK prog f_bcomp_In nt_bcomp_In rs_bcomp_In ac_bcomp_In = true := by kernel_rfl
theorem ok_bcomp_Accept : funOK prog f_bcomp_Accept nt_bcomp_Accept rs_bcomp_Accept ac_bcomp_Accept = true := by kernel_rfl
theorem ok_mac_Many : funOK prog f_mac_Many nt_mac_Many rs_mac_Many ac_mac_Many = true := by kernel_rfl
theorem ok_bcomp_Out_1 : funOK prog f_bcomp_Out_1 nt_bcomp_Out_1 rs_bcomp_Out_1 ac_bcomp_Out_1 = true := by kernel_rfl
theorem ok_prov_Ports : funOK prog f_prov_Ports nt_prov_Ports rs_prov_Ports ac_prov_Ports = true := by kernel_rfl
theorem ok_bcomp_gate : funOK prog f_bcomp_gate nt_bcomp_gate rs_bcomp_gate ac_bcomp_gate = true := by kernel_rfl
theorem ok_bcomp_Learns : funOK prog f_bcomp_Learns nt_bcomp_Learns rs_bcomp_Learns ac_bcomp_Learns = true := by kernel_rfl
theorem ok_bcomp_member : funOK prog f_bcomp_member nt_bcomp_member rs_bcomp_member ac_bcomp_member = true := by kernel_rfl
theorem ok_mac_Kind : funOK prog f_mac_Kind nt_mac_Kind rs_mac_Kind ac_mac_Kind = true := by kernel_rfl
theorem ok_prov_Carrier : funOK prog f_prov_Carrier nt_prov_Carrier rs_prov_Carrier ac_prov_Carrier = true := by kernel_rfl
theorem ok_prov_first_api_Member : funOK prog f_prov_first_api_Member nt_prov_first_api_Member rs_prov_first_api_Member ac_prov_first_api_Member = true := by kernel_rfl
theorem ok_prov_Ports_1 : funOK prog f_prov_Ports_1 nt_prov_Ports_1 rs_prov_Ports_1 ac_prov_Ports_1 = true := by kernel_rfl
theorem ok_slices_Clone_int_int : funOK prog f_slices_Clone_int_int nt_slices_Clone_int_int rs_slices_Clone_int_int ac_slices_Clone_int_int = true := by kernel_rfl
theorem ok_slices_Contains_int_int : funOK prog f_slices_Contains_int_int nt_slices_Contains_int_int rs_slices_Contains_int_int ac_slices_Contains_int_int = true := by kernel_rfl
theorem ok_prov_first_api_Carry : funOK prog f_prov_first_api_Carry nt_prov_first_api_Carry rs_prov_first_api_Carry ac_prov_first_api_Carry = true := by kernel_rfl
theorem ok_prov_Carrier_1 : funOK prog f_prov_Carrier_1 nt_prov_Carrier_1 rs_prov_Carrier_1 ac_prov_Carrier_1 = true := by kernel_rfl
theorem ok_slices_IndexFunc_api_Member_api_Member : funOK prog f_slices_IndexFunc_api_Member_api_Member nt_slices_IndexFunc_api_Member_api_Member rs_slices_IndexFunc_api_Member_api_Member ac_slices_IndexFunc_api_Member_api_Member = true := by kernel_rfl
theorem ok_slices_Index_int_int : funOK prog f_slices_Index_int_int nt_slices_Index_int_int rs_slices_Index_int_int ac_slices_Index_int_int = true := by kernel_rfl
theorem ok_slices_IndexFunc_api_Carry_api_Carry : funOK prog f_slices_IndexFunc_api_Carry_api_Carry nt_slices_IndexFunc_api_Carry_api_Carry rs_slices_IndexFunc_api_Carry_api_Carry ac_slices_IndexFunc_api_Carry_api_Carry = true := by kernel_rfl
def orc : Orc where
  p := fun f args => match f with
    | 3 => pLMembers args
    | 4 => pLApart args
    | 5 => pLGates args
    | 6 => pFew19 args
    | 7 => pCut19 args
    | 8 => pBOut args
    | 9 => pRPorts args
    | 10 => pCheck18 args
    | 11 => pSameInts args
    | 12 => pYes19 args
    | 13 => pBIn args
    | 14 => pBAccept args
    | 15 => pGates args
    | 16 => pGates args
    | 17 => pMany args
    | 19 => pPPorts args
    | 20 => pGate args
    | 21 => pKind args
    | 22 => pMembers18 args
    | 23 => pCarries18 args
    | 24 => pMaps18 args
    | 25 => pBLearns args
    | 26 => pMember args
    | 27 => pKind args
    | 28 => pPCarrier args
    | 31 => pCloneI args
    | 32 => pSame1 args
    | 33 => pVid18 args
    | 34 => pRise args
    | 35 => pAre18 args
    | 36 => pIsid18 args
    | 37 => pRCarrier args
    | 38 => pBefore18 args
    | 39 => pContainsI args
    | 43 => pIndexI args
    | _ => .bad
  s := fun f args h => match f with
    | 18 => sGoes args h
    | 29 => sFirstM args h
    | 30 => sVidIs args h
    | 40 => sFirstC args h
    | 41 => sIsidIs args h
    | 42 => sIdxM args h
    | 44 => sIdxC args h
    | _ => .bad
  fu := fun f => match f with
    | _ => false
end Go.Vc.Seat
