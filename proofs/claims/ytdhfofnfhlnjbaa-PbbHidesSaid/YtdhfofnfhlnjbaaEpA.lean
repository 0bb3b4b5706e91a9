/- The seat's code in abstract form, held against the program; what is known of its functions. -/
import Derived.Test.YtdhfofnfhlnjbaaProg
import Derived.KernelRfl
import Derived.Test.YtdhfofnfhlnjbaaSpTag
import Derived.Test.YtdhfofnfhlnjbaaEpSpTag2
import Derived.Test.YtdhfofnfhlnjbaaSpEth
import Derived.Test.YtdhfofnfhlnjbaaSpPbb
set_option linter.unusedVariables false
set_option maxRecDepth 100000
namespace Go.Vc.Seat
open Go.Vc Go.Proofs.Try
abbrev T22 : Ty := .arr 6 (.int .u8)
abbrev T24 : Ty := .st [.int .i64, .bool, .int .i64]
abbrev T27 : Ty := .st [.arr 6 (.int .u8), .arr 6 (.int .u8), .bool, .st [.int .i64, .bool, .int .i64], .sl (.int .u8)]
abbrev T52 : Ty := .st [.int .i64, .bool, .bool, .int .i64, .arr 6 (.int .u8), .arr 6 (.int .u8)]
abbrev T54 : Ty := .st [.arr 6 (.int .u8), .arr 6 (.int .u8), .st [.int .i64, .bool, .int .i64], .st [.int .i64, .bool, .bool, .int .i64, .arr 6 (.int .u8), .arr 6 (.int .u8)], .sl (.int .u8)]
abbrev T93 : Ty := .st [.sl (.int .u8)]
abbrev T95 : Ty := .st [.st [.sl (.int .u8)], .bool]
abbrev T108 : Ty := .arr 5 (.int .u8)
abbrev T109 : Ty := .arr 3 (.int .u8)
/-- pontage/pontagelaw04.PbbHides -/
abbrev f_l04_PbbHides : FuncId := 13
def ac_l04_PbbHides : AC :=
  (.seq
  (.region 3 [
    (none, .box 7 0 T27 (.t 0)),
    (none, .boxc 10 T22 (.t 3)),
    (none, .boxc 11 T22 (.t 4)),
    (none, .box 12 1 T54 (.t 5)),
    (none, .box 13 2 T54 (.t 6)),
    (none, .v 14 (.move (.k (.bool false))))])
  (.seq
  (.region 0 [
    (none, .load 23 T27 (.t 7)),
    (none, .callP (some 24) 40 [.t 23] 0 0 true),
    (none, .store T27 (.t 7) (.t 24))])
  (.seq
  (.region 0 [
    (none, .load 25 T54 (.t 12)),
    (none, .callP (some 26) 28 [.t 25] 0 0 true),
    (none, .store T54 (.t 12) (.t 26))])
  (.seq
  (.region 0 [
    (none, .load 27 T54 (.t 13)),
    (none, .callP (some 28) 28 [.t 27] 0 0 true),
    (none, .store T54 (.t 13) (.t 28))])
  (.seq
  (.region 2 [
    (none, .load 30 T27 (.t 7)),
    (none, .v 31 (.move (.t 1))),
    (none, .v 32 (.move (.t 2))),
    (none, .load 33 T22 (.t 10)),
    (none, .load 34 T22 (.t 11)),
    (none, .callP (some 35) 41 [.t 30, .t 31, .t 32, .t 33, .t 34] 0 1 true),
    (none, .v 29 (.move (.t 35))),
    (none, .v 36 (.ext (.t 29) 0)),
    (none, .v 37 (.ext (.t 29) 1)),
    (none, .alloc 15 1 T54),
    (none, .store T54 (.t 15) (.t 36)),
    (none, .v 16 (.move (.t 37)))])
  (.seq
  (.region 2 [
    (none, .load 39 T27 (.t 7)),
    (none, .v 40 (.move (.t 1))),
    (none, .v 41 (.move (.t 2))),
    (none, .load 42 T22 (.t 10)),
    (none, .load 43 T22 (.t 11)),
    (none, .callP (some 44) 43 [.t 39, .t 40, .t 41, .t 42, .t 43] 0 1 true),
    (none, .v 38 (.move (.t 44))),
    (none, .v 45 (.ext (.t 38) 0)),
    (none, .v 46 (.ext (.t 38) 1)),
    (none, .alloc 17 1 T54),
    (none, .store T54 (.t 17) (.t 45)),
    (none, .v 18 (.move (.t 46)))])
  (.seq
  (.region 2 [
    (none, .load 48 T54 (.t 12)),
    (none, .v 49 (.move (.t 2))),
    (none, .callP (some 50) 42 [.t 48, .t 49] 0 1 true),
    (none, .v 47 (.move (.t 50))),
    (none, .v 51 (.ext (.t 47) 0)),
    (none, .v 52 (.ext (.t 47) 1)),
    (none, .alloc 19 1 T27),
    (none, .store T27 (.t 19) (.t 51)),
    (none, .v 20 (.move (.t 52)))])
  (.seq
  (.region 2 [
    (none, .load 54 T54 (.t 12)),
    (none, .v 55 (.move (.t 2))),
    (none, .callP (some 56) 44 [.t 54, .t 55] 0 1 true),
    (none, .v 53 (.move (.t 56))),
    (none, .v 57 (.ext (.t 53) 0)),
    (none, .v 58 (.ext (.t 53) 1)),
    (none, .alloc 21 1 T27),
    (none, .store T27 (.t 21) (.t 57)),
    (none, .v 22 (.move (.t 58)))])
  (.seq
  (.draw 0 [[], [], [0, 1], [], [], [], [], [], [], [2], [2], [0, 1, 2, 9, 10], [], [], [], [], [], [], [], [2, 11], [2, 11], [0, 1, 2, 9, 10, 11, 19, 20], [2, 11], [2, 11], [0, 1, 2, 9, 10, 11, 19, 20, 21, 22, 23], [], [], [], [2, 11, 21, 24], [2, 11, 21, 24]] [
    (none, .load 59 T54 (.t 15)),
    (none, .load 60 T54 (.t 17)),
    (none, .callP (some 61) 39 [.t 59, .t 60] 0 0 false),
    (none, .v 62 (.move (.t 61))),
    (some (62, true), .v 63 (.move (.t 16))),
    (some (62, true), .v 64 (.move (.t 18))),
    (some (62, true), .v 65 (.cmp .eq (.t 63) (.t 64))),
    (none, .v 66 (.pick (.t 62) (.t 65) (.k (.bool false)))),
    (none, .v 67 (.move (.t 66))),
    (some (67, true), .load 68 T27 (.t 19)),
    (some (67, true), .load 69 T27 (.t 21)),
    (some (67, true), .callP (some 70) 22 [.t 68, .t 69] 0 0 false),
    (none, .v 71 (.pick (.t 67) (.t 70) (.k (.bool false)))),
    (none, .v 72 (.move (.t 71))),
    (some (72, true), .v 73 (.move (.t 20))),
    (some (72, true), .v 74 (.move (.t 22))),
    (some (72, true), .v 75 (.cmp .eq (.t 73) (.t 74))),
    (none, .v 76 (.pick (.t 72) (.t 75) (.k (.bool false)))),
    (none, .v 77 (.move (.t 76))),
    (some (77, true), .load 78 T54 (.t 12)),
    (some (77, true), .load 79 T54 (.t 13)),
    (some (77, true), .callP (some 80) 45 [.t 78, .t 79] 0 0 false),
    (some (77, true), .load 81 T54 (.t 12)),
    (some (77, true), .load 82 T54 (.t 13)),
    (some (77, true), .callP (some 83) 39 [.t 81, .t 82] 0 0 false),
    (some (77, true), .v 84 (.eqT .bool false (.t 80) (.t 83))),
    (none, .v 85 (.pick (.t 77) (.t 84) (.k (.bool false)))),
    (none, .v 86 (.move (.t 85))),
    (some (86, true), .load 87 T54 (.t 12)),
    (some (86, true), .load 88 T54 (.t 12))] [
    (some (86, true), .callP (some 89) 45 [.t 87, .t 88] 0 0 true),
    (none, .v 90 (.pick (.t 86) (.t 89) (.k (.bool false)))),
    (none, .v 91 (.move (.t 90))),
    (some (91, true), .callP (some 92) 35 [] 0 0 true),
    (none, .v 93 (.pick (.t 91) (.t 92) (.k (.bool false)))),
    (none, .v 14 (.move (.t 93)))])
  .ret)))))))))
def nt_l04_PbbHides : Nat := 94
def rs_l04_PbbHides : List RV := [.tmp 14]
/-- pontage/ether.Check -/
abbrev f_ether_Check : FuncId := 17
def ac_ether_Check : AC :=
  (.seq
  (.region 0 [
    (none, .boxc 1 T27 (.t 0)),
    (none, .v 2 (.move (.k (.int .i64 (0)))))])
  (.seq
  (.region 0 [
    (none, .v 3 (.move (.k (.int .i64 (0)))))])
  (.seq
  .skip
  (.seq
  (.block 0
    (.loop [1, 3]
      (.block 1
        (.block 2
          (.seq
          (.region 0 [
            (none, .v 5 (.fadr T27 4 (.t 1))),
            (none, .load 6 (.sl (.int .u8)) (.t 5)),
            (none, .v 7 (.len false (.t 6))),
            (none, .v 8 (.cmp .gt (.t 7) (.k (.int .i64 (1502))))),
            (none, .v 4 (.move (.t 8)))])
          (.cond (.t 4)
            (.seq
            (.region 0 [
              (none, .v 3 (.move (.k (.int .i64 (2)))))])
            (.exit 0))
            (.seq
            (.region 0 [
              (none, .v 10 (.fadr T27 1 (.t 1))),
              (none, .load 11 T22 (.t 10)),
              (none, .callP (some 12) 51 [.t 11] 0 0 true),
              (none, .v 13 (.cmp .ne (.t 12) (.k (.int .i64 (1))))),
              (none, .v 14 (.move (.t 13))),
              (some (14, false), .v 15 (.fadr T27 0 (.t 1))),
              (some (14, false), .load 16 T22 (.t 15)),
              (some (14, false), .callP (some 17) 51 [.t 16] 0 0 true),
              (some (14, false), .v 18 (.cmp .eq (.t 17) (.k (.int .i64 (6))))),
              (none, .v 19 (.pick (.t 14) (.k (.bool true)) (.t 18))),
              (none, .v 20 (.move (.t 19))),
              (some (20, false), .v 21 (.fadr T27 4 (.t 1))),
              (some (20, false), .load 22 (.sl (.int .u8)) (.t 21)),
              (some (20, false), .v 23 (.len false (.t 22))),
              (some (20, false), .v 24 (.cmp .lt (.t 23) (.k (.int .i64 (2))))),
              (none, .v 25 (.pick (.t 20) (.k (.bool true)) (.t 24))),
              (none, .v 9 (.move (.t 25)))])
            (.cond (.t 9)
              (.seq
              (.region 0 [
                (none, .v 3 (.move (.k (.int .i64 (30)))))])
              (.exit 0))
              (.seq
              (.region 0 [
                (none, .v 27 (.fadr T27 2 (.t 1))),
                (none, .load 28 .bool (.t 27)),
                (none, .v 29 (.move (.t 28))),
                (some (29, true), .v 30 (.fadr T27 3 (.t 1))),
                (some (29, true), .load 31 T24 (.t 30)),
                (some (29, true), .callP (some 32) 52 [.t 31] 0 0 true),
                (some (29, true), .v 33 (.cmp .ne (.t 32) (.k (.int .i64 (0))))),
                (none, .v 34 (.pick (.t 29) (.t 33) (.k (.bool false)))),
                (none, .v 35 (.move (.t 34))),
                (some (35, false), .v 36 (.fadr T27 2 (.t 1))),
                (some (35, false), .load 37 .bool (.t 36)),
                (some (35, false), .v 38 (.not (.t 37))),
                (some (35, false), .v 39 (.move (.t 38))),
                (some (39, true), .v 40 (.fadr T27 3 (.t 1))),
                (some (39, true), .load 41 T24 (.t 40)),
                (some (39, true), .v 42 (.build T24 [])),
                (some (39, true), .v 43 (.eqT T24 true (.t 41) (.t 42))),
                (some (39, true), .v 44 (.move (.t 43))),
                (some (44, false), .v 45 (.fadr T27 4 (.t 1))),
                (some (44, false), .load 46 (.sl (.int .u8)) (.t 45)),
                (some (44, false), .callP (some 47) 53 [.t 46] 0 0 true),
                (some (39, true), .v 48 (.pick (.t 44) (.k (.bool true)) (.t 47))),
                (some (35, false), .v 49 (.pick (.t 39) (.t 48) (.k (.bool false)))),
                (none, .v 50 (.pick (.t 35) (.k (.bool true)) (.t 49))),
                (none, .v 26 (.move (.t 50)))])
              (.cond (.t 26)
                (.seq
                (.region 0 [
                  (none, .v 3 (.move (.k (.int .i64 (30)))))])
                (.exit 0))
                (.exit 0)))))))))))
  (.seq
  (.region 0 [
    (none, .v 51 (.move (.t 3))),
    (none, .v 2 (.move (.t 51)))])
  .ret)))))
def nt_ether_Check : Nat := 52
def rs_ether_Check : List RV := [.tmp 2]
/-- pontage/pontageref03.Same -/
abbrev f_r03_Same : FuncId := 22
def ac_r03_Same : AC :=
  (.seq
  (.region 0 [
    (none, .boxc 2 T27 (.t 0)),
    (none, .boxc 3 T27 (.t 1)),
    (none, .v 4 (.move (.k (.bool false))))])
  (.seq
  (.region 0 [
    (none, .v 5 (.fadr T27 0 (.t 2))),
    (none, .load 6 T22 (.t 5)),
    (none, .v 7 (.fadr T27 0 (.t 3))),
    (none, .load 8 T22 (.t 7)),
    (none, .v 9 (.eqT T22 false (.t 6) (.t 8))),
    (none, .v 10 (.move (.t 9))),
    (some (10, true), .v 11 (.fadr T27 1 (.t 2))),
    (some (10, true), .load 12 T22 (.t 11)),
    (some (10, true), .v 13 (.fadr T27 1 (.t 3))),
    (some (10, true), .load 14 T22 (.t 13)),
    (some (10, true), .v 15 (.eqT T22 false (.t 12) (.t 14))),
    (none, .v 16 (.pick (.t 10) (.t 15) (.k (.bool false)))),
    (none, .v 17 (.move (.t 16))),
    (some (17, true), .v 18 (.fadr T27 2 (.t 2))),
    (some (17, true), .load 19 .bool (.t 18)),
    (some (17, true), .v 20 (.fadr T27 2 (.t 3))),
    (some (17, true), .load 21 .bool (.t 20)),
    (some (17, true), .v 22 (.eqT .bool false (.t 19) (.t 21))),
    (none, .v 23 (.pick (.t 17) (.t 22) (.k (.bool false)))),
    (none, .v 24 (.move (.t 23))),
    (some (24, true), .v 25 (.fadr T27 3 (.t 2))),
    (some (24, true), .load 26 T24 (.t 25)),
    (some (24, true), .v 27 (.fadr T27 3 (.t 3))),
    (some (24, true), .load 28 T24 (.t 27)),
    (some (24, true), .v 29 (.eqT T24 false (.t 26) (.t 28))),
    (none, .v 30 (.pick (.t 24) (.t 29) (.k (.bool false)))),
    (none, .v 31 (.move (.t 30))),
    (some (31, true), .v 32 (.fadr T27 4 (.t 2))),
    (some (31, true), .load 33 (.sl (.int .u8)) (.t 32)),
    (some (31, true), .v 34 (.convS true (.t 33))),
    (some (31, true), .v 35 (.fadr T27 4 (.t 3))),
    (some (31, true), .load 36 (.sl (.int .u8)) (.t 35)),
    (some (31, true), .v 37 (.convS true (.t 36))),
    (some (31, true), .v 38 (.eqT .str false (.t 34) (.t 37))),
    (none, .v 39 (.pick (.t 31) (.t 38) (.k (.bool false)))),
    (none, .v 4 (.move (.t 39)))])
  .ret))
def nt_r03_Same : Nat := 40
def rs_r03_Same : List RV := [.tmp 4]
/-- pontage/pontagelaw04.Few -/
abbrev f_l04_Few : FuncId := 28
def ac_l04_Few : AC :=
  (.seq
  (.region 2 [
    (none, .box 1 0 T54 (.t 0)),
    (none, .alloc 2 1 T54)])
  (.seq
  (.seq
  (.region 0 [
    (none, .v 3 (.fadr T54 4 (.t 1))),
    (none, .load 4 (.sl (.int .u8)) (.t 3)),
    (none, .v 5 (.len false (.t 4))),
    (none, .v 6 (.cmp .gt (.t 5) (.k (.int .i64 (1510)))))])
  (.cond (.t 6)
    (.region 0 [
      (none, .v 7 (.fadr T54 4 (.t 1))),
      (none, .load 8 (.sl (.int .u8)) (.t 7)),
      (none, .v 9 (.slice (.int .u8) (.t 8) none (some (.k (.int .i64 (1510)))) none)),
      (none, .v 10 (.fadr T54 4 (.t 1))),
      (none, .store (.sl (.int .u8)) (.t 10) (.t 9))])
    .skip))
  (.seq
  (.region 0 [
    (none, .load 11 T54 (.t 1)),
    (none, .store T54 (.t 2) (.t 11))])
  .ret)))
def nt_l04_Few : Nat := 12
def rs_l04_Few : List RV := [.cell 2 T54]
/-- pontage/pbb.Encode -/
abbrev f_pbb_Encode : FuncId := 29
def ac_pbb_Encode : AC :=
  (.seq
  (.region 0 [
    (none, .boxc 1 T54 (.t 0)),
    (none, .v 2 (.move (.k (.sl (.int .u8) [] .full)))),
    (none, .v 3 (.move (.k (.int .i64 (0)))))])
  (.seq
  (.seq
  (.region 0 [
    (none, .load 13 T54 (.t 1)),
    (none, .callP (some 14) 31 [.t 13] 0 0 true),
    (none, .v 4 (.move (.t 14)))])
  (.seq
  (.region 0 [
    (none, .v 15 (.move (.t 4))),
    (none, .v 16 (.cmp .ne (.t 15) (.k (.int .i64 (0)))))])
  (.cond (.t 16)
    (.seq
    (.region 0 [
      (none, .v 17 (.move (.t 4))),
      (none, .v 2 (.move (.k (.sl (.int .u8) [] .full)))),
      (none, .v 3 (.move (.t 17)))])
    .ret)
    .skip)))
  (.seq
  (.region 1 [
    (none, .v 19 (.fadr T54 2 (.t 1))),
    (none, .load 20 T24 (.t 19)),
    (none, .callP (some 21) 47 [.t 20] 0 1 true),
    (none, .v 18 (.move (.t 21))),
    (none, .v 22 (.ext (.t 18) 0)),
    (none, .v 23 (.ext (.t 18) 1)),
    (none, .v 5 (.move (.t 22))),
    (none, .v 6 (.move (.t 23)))])
  (.seq
  (.region 1 [
    (none, .v 25 (.fadr T54 3 (.t 1))),
    (none, .load 26 T52 (.t 25)),
    (none, .callP (some 27) 62 [.t 26] 0 1 true),
    (none, .v 24 (.move (.t 27))),
    (none, .v 28 (.ext (.t 24) 0)),
    (none, .v 29 (.ext (.t 24) 1)),
    (none, .v 7 (.move (.t 28))),
    (none, .v 8 (.move (.t 29)))])
  (.seq
  (.region 2 [
    (none, .v 31 (.move (.t 5))),
    (none, .lit 32 0 (.sl (.int .u8)) 1 [(0, .t 31)] false),
    (none, .callP (some 33) 48 [.k (.int .i64 (34984)), .t 32] 1 1 true),
    (none, .v 30 (.move (.t 33))),
    (none, .v 34 (.ext (.t 30) 0)),
    (none, .v 35 (.ext (.t 30) 1)),
    (none, .v 9 (.move (.t 34))),
    (none, .v 10 (.move (.t 35)))])
  (.seq
  (.region 2 [
    (none, .v 37 (.move (.t 7))),
    (none, .v 38 (.fadr T54 4 (.t 1))),
    (none, .load 39 (.sl (.int .u8)) (.t 38)),
    (none, .lit 40 0 (.sl (.int .u8)) 2 [(0, .t 37), (1, .t 39)] false),
    (none, .callP (some 41) 48 [.k (.int .i64 (35047)), .t 40] 1 1 true),
    (none, .v 36 (.move (.t 41))),
    (none, .v 42 (.ext (.t 36) 0)),
    (none, .v 43 (.ext (.t 36) 1)),
    (none, .v 11 (.move (.t 42))),
    (none, .v 12 (.move (.t 43)))])
  (.seq
  (.draw 2 [[], [], [], [], [], []] [
    (none, .v 44 (.fadr T54 0 (.t 1))),
    (none, .v 45 (.sliceA 6 (.int .u8) (.t 44) none none)),
    (none, .v 46 (.fadr T54 1 (.t 1))),
    (none, .v 47 (.sliceA 6 (.int .u8) (.t 46) none none)),
    (none, .v 48 (.move (.t 9))),
    (none, .v 49 (.move (.t 11)))] [
    (none, .lit 50 0 (.sl (.int .u8)) 4 [(0, .t 45), (1, .t 47), (2, .t 48), (3, .t 49)] false),
    (none, .callP (some 51) 46 [.t 50] 1 1 true),
    (none, .v 2 (.move (.t 51))),
    (none, .v 3 (.move (.k (.int .i64 (0)))))])
  .ret)))))))
def nt_pbb_Encode : Nat := 52
def rs_pbb_Encode : List RV := [.tmp 2, .tmp 3]
/-- pontage/pbb.Check -/
abbrev f_pbb_Check : FuncId := 31
def ac_pbb_Check : AC :=
  (.seq
  (.region 0 [
    (none, .boxc 1 T54 (.t 0)),
    (none, .v 2 (.move (.k (.int .i64 (0)))))])
  (.seq
  (.region 0 [
    (none, .v 3 (.move (.k (.bool true))))])
  (.seq
  .skip
  (.seq
  (.block 0
    (.seq
    (.region 0 [
      (none, .v 9 (.fadr T54 4 (.t 1))),
      (none, .load 10 (.sl (.int .u8)) (.t 9)),
      (none, .v 11 (.len false (.t 10))),
      (none, .v 12 (.cmp .gt (.t 11) (.k (.int .i64 (1502))))),
      (none, .v 8 (.move (.t 12)))])
    (.cond (.t 8)
      (.seq
      (.region 0 [
        (none, .v 2 (.move (.k (.int .i64 (2)))))])
      .ret)
      (.seq
      (.region 0 [
        (none, .v 14 (.fadr T54 1 (.t 1))),
        (none, .load 15 T22 (.t 14)),
        (none, .callP (some 16) 51 [.t 15] 0 0 true),
        (none, .v 17 (.cmp .ne (.t 16) (.k (.int .i64 (1))))),
        (none, .v 18 (.move (.t 17))),
        (some (18, false), .v 19 (.fadr T54 0 (.t 1))),
        (some (18, false), .load 20 T22 (.t 19)),
        (some (18, false), .callP (some 21) 51 [.t 20] 0 0 true),
        (some (18, false), .v 22 (.cmp .eq (.t 21) (.k (.int .i64 (6))))),
        (none, .v 23 (.pick (.t 18) (.k (.bool true)) (.t 22))),
        (none, .v 13 (.move (.t 23)))])
      (.cond (.t 13)
        (.exit 0)
        (.seq
        (.region 0 [
          (none, .v 25 (.fadr T54 2 (.t 1))),
          (none, .load 26 T24 (.t 25)),
          (none, .callP (some 27) 52 [.t 26] 0 0 true),
          (none, .v 28 (.cmp .ne (.t 27) (.k (.int .i64 (0))))),
          (none, .v 29 (.move (.t 28))),
          (some (29, false), .v 30 (.fadr T54 3 (.t 1))),
          (some (29, false), .load 31 T52 (.t 30)),
          (some (29, false), .callP (some 32) 64 [.t 31] 0 0 true),
          (some (29, false), .v 33 (.cmp .ne (.t 32) (.k (.int .i64 (0))))),
          (none, .v 34 (.pick (.t 29) (.k (.bool true)) (.t 33))),
          (none, .v 35 (.move (.t 34))),
          (some (35, false), .v 36 (.fadr T54 3 (.t 1))),
          (some (35, false), .v 37 (.fadr T52 3 (.t 36))),
          (some (35, false), .load 38 (.int .i64) (.t 37)),
          (some (35, false), .v 39 (.cmp .eq (.t 38) (.k (.int .i64 (0))))),
          (none, .v 40 (.pick (.t 35) (.k (.bool true)) (.t 39))),
          (none, .v 24 (.move (.t 40)))])
        (.cond (.t 24)
          (.exit 0)
          (.region 1 [
            (none, .load 4 T54 (.t 1)),
            (none, .callP (some 5) 33 [.t 4] 0 1 true),
            (none, .callP (some 6) 17 [.t 5] 1 0 true),
            (none, .v 7 (.cmp .ne (.t 6) (.k (.int .i64 (0))))),
            (none, .v 3 (.move (.t 7)))]))))))))
  (.seq
  (.seq
  (.region 0 [
    (none, .v 41 (.move (.t 3)))])
  (.cond (.t 41)
    (.seq
    (.region 0 [
      (none, .v 2 (.move (.k (.int .i64 (40)))))])
    .ret)
    .skip))
  (.seq
  (.region 0 [
    (none, .v 2 (.move (.k (.int .i64 (0)))))])
  .ret))))))
def nt_pbb_Check : Nat := 42
def rs_pbb_Check : List RV := [.tmp 2]
/-- pontage/pontageref04.Check -/
abbrev f_r04_Check : FuncId := 32
def ac_r04_Check : AC :=
  (.seq
  (.region 0 [
    (none, .boxc 1 T54 (.t 0)),
    (none, .v 2 (.move (.k (.int .i64 (0)))))])
  (.seq
  (.seq
  (.region 0 [
    (none, .v 3 (.fadr T54 4 (.t 1))),
    (none, .load 4 (.sl (.int .u8)) (.t 3)),
    (none, .v 5 (.len false (.t 4))),
    (none, .v 6 (.cmp .gt (.t 5) (.k (.int .i64 (1502)))))])
  (.cond (.t 6)
    (.seq
    (.region 0 [
      (none, .v 2 (.move (.k (.int .i64 (2)))))])
    .ret)
    .skip))
  (.seq
  (.seq
  (.region 1 [
    (none, .v 7 (.fadr T54 1 (.t 1))),
    (none, .load 8 T22 (.t 7)),
    (none, .callP (some 9) 65 [.t 8] 0 0 true),
    (none, .v 10 (.cmp .ne (.t 9) (.k (.int .i64 (1))))),
    (none, .v 11 (.move (.t 10))),
    (some (11, false), .v 12 (.fadr T54 0 (.t 1))),
    (some (11, false), .load 13 T22 (.t 12)),
    (some (11, false), .callP (some 14) 65 [.t 13] 0 0 true),
    (some (11, false), .v 15 (.cmp .eq (.t 14) (.k (.int .i64 (6))))),
    (none, .v 16 (.pick (.t 11) (.k (.bool true)) (.t 15))),
    (none, .v 17 (.move (.t 16))),
    (some (17, false), .v 18 (.fadr T54 2 (.t 1))),
    (some (17, false), .load 19 T24 (.t 18)),
    (some (17, false), .callP (some 20) 66 [.t 19] 0 0 true),
    (some (17, false), .v 21 (.not (.t 20))),
    (none, .v 22 (.pick (.t 17) (.k (.bool true)) (.t 21))),
    (none, .v 23 (.move (.t 22))),
    (some (23, false), .v 24 (.fadr T54 3 (.t 1))),
    (some (23, false), .load 25 T52 (.t 24)),
    (some (23, false), .callP (some 26) 67 [.t 25] 0 0 true),
    (some (23, false), .v 27 (.not (.t 26))),
    (none, .v 28 (.pick (.t 23) (.k (.bool true)) (.t 27))),
    (none, .v 29 (.move (.t 28))),
    (some (29, false), .v 30 (.fadr T54 3 (.t 1))),
    (some (29, false), .v 31 (.fadr T52 3 (.t 30))),
    (some (29, false), .load 32 (.int .i64) (.t 31)),
    (some (29, false), .v 33 (.cmp .eq (.t 32) (.k (.int .i64 (0))))),
    (none, .v 34 (.pick (.t 29) (.k (.bool true)) (.t 33))),
    (none, .v 35 (.move (.t 34))),
    (some (35, false), .load 36 T54 (.t 1)),
    (some (35, false), .callP (some 37) 34 [.t 36] 0 1 true),
    (some (35, false), .callP (some 38) 49 [.t 37] 1 0 true),
    (some (35, false), .v 39 (.cmp .ne (.t 38) (.k (.int .i64 (0))))),
    (none, .v 40 (.pick (.t 35) (.k (.bool true)) (.t 39)))])
  (.cond (.t 40)
    (.seq
    (.region 0 [
      (none, .v 2 (.move (.k (.int .i64 (40)))))])
    .ret)
    .skip))
  (.seq
  (.region 0 [
    (none, .v 2 (.move (.k (.int .i64 (0)))))])
  .ret))))
def nt_r04_Check : Nat := 41
def rs_r04_Check : List RV := [.tmp 2]
/-- pontage/pbb.Inside -/
abbrev f_pbb_Inside : FuncId := 33
def ac_pbb_Inside : AC :=
  (.seq
  (.region 1 [
    (none, .boxc 1 T54 (.t 0)),
    (none, .alloc 2 0 T27)])
  (.seq
  (.draw 1 [[], [], [], [], [], [], [], [], [7]] [
    (none, .v 3 (.fadr T54 3 (.t 1))),
    (none, .v 4 (.fadr T52 4 (.t 3))),
    (none, .load 5 T22 (.t 4)),
    (none, .v 6 (.fadr T54 3 (.t 1))),
    (none, .v 7 (.fadr T52 5 (.t 6))),
    (none, .load 8 T22 (.t 7)),
    (none, .v 9 (.fadr T54 4 (.t 1))),
    (none, .load 10 (.sl (.int .u8)) (.t 9)),
    (none, .callP (some 11) 56 [.t 10] 0 1 false)] [
    (none, .v 12 (.build T27 [(0, .t 5), (1, .t 8), (4, .t 11)])),
    (none, .store T27 (.t 2) (.t 12))])
  .ret))
def nt_pbb_Inside : Nat := 13
def rs_pbb_Inside : List RV := [.cell 2 T27]
/-- pontage/pontageref04.Inside -/
abbrev f_r04_Inside : FuncId := 34
def ac_r04_Inside : AC :=
  (.seq
  (.region 1 [
    (none, .boxc 1 T54 (.t 0)),
    (none, .alloc 2 0 T27)])
  (.seq
  (.draw 2 [[], [], [], [], [], [], [], [], [], [6, 8]] [
    (none, .v 3 (.fadr T54 3 (.t 1))),
    (none, .v 4 (.fadr T52 4 (.t 3))),
    (none, .load 5 T22 (.t 4)),
    (none, .v 6 (.fadr T54 3 (.t 1))),
    (none, .v 7 (.fadr T52 5 (.t 6))),
    (none, .load 8 T22 (.t 7)),
    (none, .lit 9 0 (.int .u8) 0 [] true),
    (none, .v 10 (.fadr T54 4 (.t 1))),
    (none, .load 11 (.sl (.int .u8)) (.t 10)),
    (none, .app 12 1 (.int .u8) 1 (.t 9) (.t 11) false)] [
    (none, .v 13 (.build T27 [(0, .t 5), (1, .t 8), (4, .t 12)])),
    (none, .store T27 (.t 2) (.t 13))])
  .ret))
def nt_r04_Inside : Nat := 14
def rs_r04_Inside : List RV := [.cell 2 T27]
/-- pontage/pontagelaw04.awake -/
abbrev f_l04_awake : FuncId := 35
def ac_l04_awake : AC :=
  (.seq
  (.region 0 [
    (none, .v 0 (.move (.k (.bool false))))])
  (.seq
  (.region 2 [
    (none, .callP (some 6) 68 [] 0 1 true),
    (none, .callP (some 7) 29 [.t 6] 1 1 true),
    (none, .v 5 (.move (.t 7))),
    (none, .v 8 (.ext (.t 5) 0)),
    (none, .v 9 (.ext (.t 5) 1)),
    (none, .v 1 (.move (.t 8))),
    (none, .v 2 (.move (.t 9)))])
  (.seq
  (.region 2 [
    (none, .v 11 (.move (.t 1))),
    (none, .callP (some 12) 37 [.t 11] 0 1 true),
    (none, .v 10 (.move (.t 12))),
    (none, .v 13 (.ext (.t 10) 0)),
    (none, .v 14 (.ext (.t 10) 1)),
    (none, .alloc 3 1 T54),
    (none, .store T54 (.t 3) (.t 13)),
    (none, .v 4 (.move (.t 14)))])
  (.seq
  (.region 0 [
    (none, .v 15 (.move (.t 2))),
    (none, .v 16 (.cmp .eq (.t 15) (.k (.int .i64 (0))))),
    (none, .v 17 (.move (.t 16))),
    (some (17, true), .v 18 (.move (.t 1))),
    (some (17, true), .v 19 (.len false (.t 18))),
    (some (17, true), .v 20 (.cmp .eq (.t 19) (.k (.int .i64 (80))))),
    (none, .v 21 (.pick (.t 17) (.t 20) (.k (.bool false)))),
    (none, .v 22 (.move (.t 21))),
    (some (22, true), .v 23 (.move (.t 4))),
    (some (22, true), .v 24 (.cmp .eq (.t 23) (.k (.int .i64 (0))))),
    (none, .v 25 (.pick (.t 22) (.t 24) (.k (.bool false)))),
    (none, .v 26 (.move (.t 25))),
    (some (26, true), .v 27 (.fadr T54 3 (.t 3))),
    (some (26, true), .v 28 (.fadr T52 3 (.t 27))),
    (some (26, true), .load 29 (.int .i64) (.t 28)),
    (some (26, true), .v 30 (.cmp .eq (.t 29) (.k (.int .i64 (7))))),
    (none, .v 31 (.pick (.t 26) (.t 30) (.k (.bool false)))),
    (none, .v 32 (.move (.t 31))),
    (some (32, true), .v 33 (.fadr T54 4 (.t 3))),
    (some (32, true), .load 34 (.sl (.int .u8)) (.t 33)),
    (some (32, true), .v 35 (.len false (.t 34))),
    (some (32, true), .v 36 (.cmp .eq (.t 35) (.k (.int .i64 (46))))),
    (none, .v 37 (.pick (.t 32) (.t 36) (.k (.bool false)))),
    (none, .v 0 (.move (.t 37)))])
  .ret))))
def nt_l04_awake : Nat := 38
def rs_l04_awake : List RV := [.tmp 0]
/-- pontage/pbb.Decode -/
abbrev f_pbb_Decode : FuncId := 37
def ac_pbb_Decode : AC :=
  (.seq
  (.region 1 [
    (none, .alloc 2 0 T54),
    (none, .v 3 (.move (.k (.int .i64 (0)))))])
  (.seq
  (.block 0
    (.seq
    (.region 0 [
      (none, .v 13 (.move (.t 0))),
      (none, .v 14 (.len false (.t 13))),
      (none, .v 15 (.cmp .lt (.t 14) (.k (.int .i64 (36))))),
      (none, .v 12 (.move (.t 15)))])
    (.cond (.t 12)
      (.seq
      (.region 0 [
        (none, .v 16 (.build T54 [])),
        (none, .store T54 (.t 2) (.t 16)),
        (none, .v 3 (.move (.k (.int .i64 (6)))))])
      .ret)
      (.seq
      (.region 0 [
        (none, .v 18 (.move (.t 0))),
        (none, .v 19 (.len false (.t 18))),
        (none, .v 20 (.cmp .gt (.t 19) (.k (.int .i64 (1536))))),
        (none, .v 17 (.move (.t 20)))])
      (.cond (.t 17)
        (.seq
        (.region 0 [
          (none, .v 21 (.build T54 [])),
          (none, .store T54 (.t 2) (.t 21)),
          (none, .v 3 (.move (.k (.int .i64 (2)))))])
        .ret)
        .skip)))))
  (.seq
  (.region 1 [
    (none, .v 22 (.move (.t 0))),
    (none, .v 23 (.build T93 [(0, .t 22)])),
    (none, .v 24 (.build T95 [(0, .t 23)])),
    (none, .box 25 0 T95 (.t 24)),
    (none, .v 4 (.move (.t 25)))])
  (.seq
  (.region 1 [
    (none, .v 26 (.move (.t 4))),
    (none, .callS (some 27) (.k (.fn 69 [])) [.t 26] [] [69]),
    (none, .v 28 (.move (.t 4))),
    (none, .callS (some 29) (.k (.fn 69 [])) [.t 28] [] [69]),
    (none, .v 30 (.build T54 [(0, .t 27), (1, .t 29)])),
    (none, .alloc 5 0 T54),
    (none, .store T54 (.t 5) (.t 30))])
  (.seq
  (.region 0 [
    (none, .v 31 (.move (.t 4))),
    (none, .callS (some 32) (.k (.fn 70 [])) [.t 31, .k (.int .i64 (34984))] [] [70])])
  (.seq
  (.region 2 [
    (none, .v 34 (.move (.t 4))),
    (none, .v 35 (.nilck (.t 34))),
    (none, .v 36 (.fadr T95 0 (.t 35))),
    (none, .callS (some 37) (.k (.fn 71 [])) [.t 36, .k (.int .i64 (2))] [] [71]),
    (none, .callP (some 38) 55 [.t 37] 0 1 true),
    (none, .v 33 (.move (.t 38))),
    (none, .v 39 (.ext (.t 33) 0)),
    (none, .v 40 (.ext (.t 33) 1)),
    (none, .v 41 (.ext (.t 33) 2)),
    (none, .alloc 6 1 T24),
    (none, .store T24 (.t 6) (.t 39)),
    (none, .v 7 (.move (.t 40))),
    (none, .v 8 (.move (.t 41)))])
  (.seq
  (.region 0 [
    (none, .v 42 (.move (.t 4))),
    (none, .callS (some 43) (.k (.fn 70 [])) [.t 42, .k (.int .i64 (35047))] [] [70])])
  (.seq
  (.region 2 [
    (none, .v 45 (.move (.t 4))),
    (none, .v 46 (.nilck (.t 45))),
    (none, .v 47 (.fadr T95 0 (.t 46))),
    (none, .callS (some 48) (.k (.fn 71 [])) [.t 47, .k (.int .i64 (16))] [] [71]),
    (none, .callP (some 49) 72 [.t 48] 0 1 true),
    (none, .v 44 (.move (.t 49))),
    (none, .v 50 (.ext (.t 44) 0)),
    (none, .v 51 (.ext (.t 44) 1)),
    (none, .v 52 (.ext (.t 44) 2)),
    (none, .alloc 9 1 T52),
    (none, .store T52 (.t 9) (.t 50)),
    (none, .v 10 (.move (.t 51))),
    (none, .v 11 (.move (.t 52)))])
  (.seq
  (.draw 1 [[], [], [], [], [], [], [], [6], [], [0, 6, 7]] [
    (none, .load 53 T24 (.t 6)),
    (none, .load 54 T52 (.t 9)),
    (none, .v 55 (.move (.t 4))),
    (none, .v 56 (.nilck (.t 55))),
    (none, .v 57 (.fadr T95 0 (.t 56))),
    (none, .v 58 (.fadr T93 0 (.t 57))),
    (none, .load 59 (.sl (.int .u8)) (.t 58)),
    (none, .callP (some 60) 56 [.t 59] 0 1 false),
    (none, .v 61 (.fadr T54 2 (.t 5))),
    (none, .store T24 (.t 61) (.t 53))] [
    (none, .v 62 (.fadr T54 3 (.t 5))),
    (none, .store T52 (.t 62) (.t 54)),
    (none, .v 63 (.fadr T54 4 (.t 5))),
    (none, .store (.sl (.int .u8)) (.t 63) (.t 60))])
  (.seq
  (.seq
  (.region 0 [
    (none, .v 64 (.move (.t 4))),
    (none, .v 65 (.nilck (.t 64))),
    (none, .v 66 (.fadr T95 1 (.t 65))),
    (none, .load 67 .bool (.t 66)),
    (none, .v 68 (.move (.t 67))),
    (some (68, false), .v 69 (.move (.t 8))),
    (some (68, false), .v 70 (.cmp .ne (.t 69) (.k (.int .i64 (0))))),
    (none, .v 71 (.pick (.t 68) (.k (.bool true)) (.t 70))),
    (none, .v 72 (.move (.t 71))),
    (some (72, false), .v 73 (.move (.t 11))),
    (some (72, false), .v 74 (.cmp .ne (.t 73) (.k (.int .i64 (0))))),
    (none, .v 75 (.pick (.t 72) (.k (.bool true)) (.t 74))),
    (none, .v 76 (.move (.t 75))),
    (some (76, false), .load 77 T54 (.t 5)),
    (some (76, false), .callP (some 78) 31 [.t 77] 0 0 true),
    (some (76, false), .v 79 (.cmp .ne (.t 78) (.k (.int .i64 (0))))),
    (none, .v 80 (.pick (.t 76) (.k (.bool true)) (.t 79)))])
  (.cond (.t 80)
    (.seq
    (.region 0 [
      (none, .v 81 (.build T54 [])),
      (none, .store T54 (.t 2) (.t 81)),
      (none, .v 3 (.move (.k (.int .i64 (40)))))])
    .ret)
    .skip))
  (.seq
  (.region 0 [
    (none, .load 82 T54 (.t 5)),
    (none, .store T54 (.t 2) (.t 82)),
    (none, .v 3 (.move (.k (.int .i64 (0)))))])
  .ret)))))))))))
def nt_pbb_Decode : Nat := 83
def rs_pbb_Decode : List RV := [.cell 2 T54, .tmp 3]
/-- pontage/pontageref04.Same -/
abbrev f_r04_Same : FuncId := 39
def ac_r04_Same : AC :=
  (.seq
  (.region 0 [
    (none, .boxc 2 T54 (.t 0)),
    (none, .boxc 3 T54 (.t 1)),
    (none, .v 4 (.move (.k (.bool false))))])
  (.seq
  (.region 0 [
    (none, .v 5 (.fadr T54 0 (.t 2))),
    (none, .load 6 T22 (.t 5)),
    (none, .v 7 (.fadr T54 0 (.t 3))),
    (none, .load 8 T22 (.t 7)),
    (none, .v 9 (.eqT T22 false (.t 6) (.t 8))),
    (none, .v 10 (.move (.t 9))),
    (some (10, true), .v 11 (.fadr T54 1 (.t 2))),
    (some (10, true), .load 12 T22 (.t 11)),
    (some (10, true), .v 13 (.fadr T54 1 (.t 3))),
    (some (10, true), .load 14 T22 (.t 13)),
    (some (10, true), .v 15 (.eqT T22 false (.t 12) (.t 14))),
    (none, .v 16 (.pick (.t 10) (.t 15) (.k (.bool false)))),
    (none, .v 17 (.move (.t 16))),
    (some (17, true), .v 18 (.fadr T54 2 (.t 2))),
    (some (17, true), .load 19 T24 (.t 18)),
    (some (17, true), .v 20 (.fadr T54 2 (.t 3))),
    (some (17, true), .load 21 T24 (.t 20)),
    (some (17, true), .v 22 (.eqT T24 false (.t 19) (.t 21))),
    (none, .v 23 (.pick (.t 17) (.t 22) (.k (.bool false)))),
    (none, .v 24 (.move (.t 23))),
    (some (24, true), .v 25 (.fadr T54 3 (.t 2))),
    (some (24, true), .load 26 T52 (.t 25)),
    (some (24, true), .v 27 (.fadr T54 3 (.t 3))),
    (some (24, true), .load 28 T52 (.t 27)),
    (some (24, true), .v 29 (.eqT T52 false (.t 26) (.t 28))),
    (none, .v 30 (.pick (.t 24) (.t 29) (.k (.bool false)))),
    (none, .v 31 (.move (.t 30))),
    (some (31, true), .v 32 (.fadr T54 4 (.t 2))),
    (some (31, true), .load 33 (.sl (.int .u8)) (.t 32)),
    (some (31, true), .v 34 (.convS true (.t 33))),
    (some (31, true), .v 35 (.fadr T54 4 (.t 3))),
    (some (31, true), .load 36 (.sl (.int .u8)) (.t 35)),
    (some (31, true), .v 37 (.convS true (.t 36))),
    (some (31, true), .v 38 (.eqT .str false (.t 34) (.t 37))),
    (none, .v 39 (.pick (.t 31) (.t 38) (.k (.bool false)))),
    (none, .v 4 (.move (.t 39)))])
  .ret))
def nt_r04_Same : Nat := 40
def rs_r04_Same : List RV := [.tmp 4]
/-- pontage/pontagelaw04.few -/
abbrev f_l04_few : FuncId := 40
def ac_l04_few : AC :=
  (.seq
  (.region 2 [
    (none, .box 1 0 T27 (.t 0)),
    (none, .alloc 2 1 T27)])
  (.seq
  (.seq
  (.region 0 [
    (none, .v 3 (.fadr T27 4 (.t 1))),
    (none, .load 4 (.sl (.int .u8)) (.t 3)),
    (none, .v 5 (.len false (.t 4))),
    (none, .v 6 (.cmp .gt (.t 5) (.k (.int .i64 (1510)))))])
  (.cond (.t 6)
    (.region 0 [
      (none, .v 7 (.fadr T27 4 (.t 1))),
      (none, .load 8 (.sl (.int .u8)) (.t 7)),
      (none, .v 9 (.slice (.int .u8) (.t 8) none (some (.k (.int .i64 (1510)))) none)),
      (none, .v 10 (.fadr T27 4 (.t 1))),
      (none, .store (.sl (.int .u8)) (.t 10) (.t 9))])
    .skip))
  (.seq
  (.region 0 [
    (none, .load 11 T27 (.t 1)),
    (none, .store T27 (.t 2) (.t 11))])
  .ret)))
def nt_l04_few : Nat := 12
def rs_l04_few : List RV := [.cell 2 T27]
/-- pontage/pbb.Hide -/
abbrev f_pbb_Hide : FuncId := 41
def ac_pbb_Hide : AC :=
  (.seq
  (.region 1 [
    (none, .boxc 5 T27 (.t 0)),
    (none, .boxc 8 T22 (.t 3)),
    (none, .boxc 9 T22 (.t 4)),
    (none, .alloc 10 0 T54),
    (none, .v 11 (.move (.k (.int .i64 (0)))))])
  (.seq
  (.seq
  (.region 0 [
    (none, .load 15 T27 (.t 5)),
    (none, .callP (some 16) 17 [.t 15] 0 0 true),
    (none, .v 12 (.move (.t 16)))])
  (.seq
  (.region 0 [
    (none, .v 17 (.move (.t 12))),
    (none, .v 18 (.cmp .ne (.t 17) (.k (.int .i64 (0)))))])
  (.cond (.t 18)
    (.seq
    (.region 0 [
      (none, .v 19 (.build T54 [])),
      (none, .v 20 (.move (.t 12))),
      (none, .store T54 (.t 10) (.t 19)),
      (none, .v 11 (.move (.t 20)))])
    .ret)
    .skip)))
  (.seq
  (.seq
  (.region 0 [
    (none, .v 21 (.fadr T27 2 (.t 5))),
    (none, .load 22 .bool (.t 21)),
    (none, .v 23 (.not (.t 22)))])
  (.cond (.t 23)
    (.seq
    (.region 0 [
      (none, .v 24 (.build T54 [])),
      (none, .store T54 (.t 10) (.t 24)),
      (none, .v 11 (.move (.k (.int .i64 (30)))))])
    .ret)
    .skip))
  (.seq
  (.draw 2 [[], [], [], [], [], [], [], [], [], [], [], [], [], [], [], [], [], [], [], [], [], [], [], [], [23], [], []] [
    (none, .load 25 T22 (.t 9)),
    (none, .load 26 T22 (.t 8)),
    (none, .v 27 (.fadr T27 3 (.t 5))),
    (none, .v 28 (.fadr T24 0 (.t 27))),
    (none, .load 29 (.int .i64) (.t 28)),
    (none, .v 30 (.fadr T27 3 (.t 5))),
    (none, .v 31 (.fadr T24 1 (.t 30))),
    (none, .load 32 .bool (.t 31)),
    (none, .v 33 (.move (.t 2))),
    (none, .v 34 (.build T24 [(0, .t 29), (1, .t 32), (2, .t 33)])),
    (none, .v 35 (.fadr T27 3 (.t 5))),
    (none, .v 36 (.fadr T24 0 (.t 35))),
    (none, .load 37 (.int .i64) (.t 36)),
    (none, .v 38 (.fadr T27 3 (.t 5))),
    (none, .v 39 (.fadr T24 1 (.t 38))),
    (none, .load 40 .bool (.t 39)),
    (none, .v 41 (.move (.t 1))),
    (none, .v 42 (.fadr T27 0 (.t 5))),
    (none, .load 43 T22 (.t 42)),
    (none, .v 44 (.fadr T27 1 (.t 5))),
    (none, .load 45 T22 (.t 44)),
    (none, .v 46 (.build T52 [(0, .t 37), (1, .t 40), (2, .k (.bool true)), (3, .t 41), (4, .t 43), (5, .t 45)])),
    (none, .v 47 (.fadr T27 4 (.t 5))),
    (none, .load 48 (.sl (.int .u8)) (.t 47)),
    (none, .callP (some 49) 56 [.t 48] 0 1 false),
    (none, .v 50 (.build T54 [(0, .t 25), (1, .t 26), (2, .t 34), (3, .t 46), (4, .t 49)])),
    (none, .alloc 13 1 T54)] [
    (none, .store T54 (.t 13) (.t 50))])
  (.seq
  (.seq
  (.region 0 [
    (none, .load 51 T54 (.t 13)),
    (none, .callP (some 52) 31 [.t 51] 0 0 true),
    (none, .v 14 (.move (.t 52)))])
  (.seq
  (.region 0 [
    (none, .v 53 (.move (.t 14))),
    (none, .v 54 (.cmp .ne (.t 53) (.k (.int .i64 (0)))))])
  (.cond (.t 54)
    (.seq
    (.region 0 [
      (none, .v 55 (.build T54 [])),
      (none, .v 56 (.move (.t 14))),
      (none, .store T54 (.t 10) (.t 55)),
      (none, .v 11 (.move (.t 56)))])
    .ret)
    .skip)))
  (.seq
  (.region 0 [
    (none, .load 57 T54 (.t 13)),
    (none, .store T54 (.t 10) (.t 57)),
    (none, .v 11 (.move (.k (.int .i64 (0)))))])
  .ret))))))
def nt_pbb_Hide : Nat := 58
def rs_pbb_Hide : List RV := [.cell 10 T54, .tmp 11]
/-- pontage/pbb.Show -/
abbrev f_pbb_Show : FuncId := 42
def ac_pbb_Show : AC :=
  (.seq
  (.region 1 [
    (none, .boxc 2 T54 (.t 0)),
    (none, .alloc 4 0 T27),
    (none, .v 5 (.move (.k (.int .i64 (0)))))])
  (.seq
  (.seq
  (.region 0 [
    (none, .load 8 T54 (.t 2)),
    (none, .callP (some 9) 31 [.t 8] 0 0 true),
    (none, .v 6 (.move (.t 9)))])
  (.seq
  (.region 0 [
    (none, .v 10 (.move (.t 6))),
    (none, .v 11 (.cmp .ne (.t 10) (.k (.int .i64 (0)))))])
  (.cond (.t 11)
    (.seq
    (.region 0 [
      (none, .v 12 (.build T27 [])),
      (none, .v 13 (.move (.t 6))),
      (none, .store T27 (.t 4) (.t 12)),
      (none, .v 5 (.move (.t 13)))])
    .ret)
    .skip)))
  (.seq
  (.seq
  (.region 0 [
    (none, .v 14 (.move (.t 1))),
    (none, .v 15 (.cmp .lt (.t 14) (.k (.int .i64 (1))))),
    (none, .v 16 (.move (.t 15))),
    (some (16, false), .v 17 (.move (.t 1))),
    (some (16, false), .v 18 (.cmp .gt (.t 17) (.k (.int .i64 (4094))))),
    (none, .v 19 (.pick (.t 16) (.k (.bool true)) (.t 18)))])
  (.cond (.t 19)
    (.seq
    (.region 0 [
      (none, .v 20 (.build T27 [])),
      (none, .store T27 (.t 4) (.t 20)),
      (none, .v 5 (.move (.k (.int .i64 (1)))))])
    .ret)
    .skip))
  (.seq
  (.region 2 [
    (none, .load 21 T54 (.t 2)),
    (none, .callP (some 22) 33 [.t 21] 0 1 true),
    (none, .alloc 7 1 T27),
    (none, .store T27 (.t 7) (.t 22))])
  (.seq
  (.draw 0 [[], [], [], [], [], [], [], [], [], []] [
    (none, .v 23 (.fadr T54 3 (.t 2))),
    (none, .v 24 (.fadr T52 0 (.t 23))),
    (none, .load 25 (.int .i64) (.t 24)),
    (none, .v 26 (.fadr T54 3 (.t 2))),
    (none, .v 27 (.fadr T52 1 (.t 26))),
    (none, .load 28 .bool (.t 27)),
    (none, .v 29 (.move (.t 1))),
    (none, .v 30 (.build T24 [(0, .t 25), (1, .t 28), (2, .t 29)])),
    (none, .v 31 (.fadr T27 2 (.t 7))),
    (none, .store .bool (.t 31) (.k (.bool true)))] [
    (none, .v 32 (.fadr T27 3 (.t 7))),
    (none, .store T24 (.t 32) (.t 30))])
  (.seq
  (.region 0 [
    (none, .load 33 T27 (.t 7)),
    (none, .store T27 (.t 4) (.t 33)),
    (none, .v 5 (.move (.k (.int .i64 (0)))))])
  .ret))))))
def nt_pbb_Show : Nat := 34
def rs_pbb_Show : List RV := [.cell 4 T27, .tmp 5]
/-- pontage/pontageref04.Hide -/
abbrev f_r04_Hide : FuncId := 43
def ac_r04_Hide : AC :=
  (.seq
  (.region 1 [
    (none, .boxc 5 T27 (.t 0)),
    (none, .boxc 8 T22 (.t 3)),
    (none, .boxc 9 T22 (.t 4)),
    (none, .alloc 10 0 T54),
    (none, .v 11 (.move (.k (.int .i64 (0)))))])
  (.seq
  (.region 0 [
    (none, .load 15 T27 (.t 5)),
    (none, .callP (some 16) 49 [.t 15] 0 0 true),
    (none, .v 12 (.move (.t 16)))])
  (.seq
  (.seq
  (.region 0 [
    (none, .v 17 (.move (.t 12))),
    (none, .v 18 (.cmp .ne (.t 17) (.k (.int .i64 (0)))))])
  (.cond (.t 18)
    (.seq
    (.region 0 [
      (none, .v 19 (.build T54 [])),
      (none, .v 20 (.move (.t 12))),
      (none, .store T54 (.t 10) (.t 19)),
      (none, .v 11 (.move (.t 20)))])
    .ret)
    .skip))
  (.seq
  (.seq
  (.region 0 [
    (none, .v 21 (.fadr T27 2 (.t 5))),
    (none, .load 22 .bool (.t 21)),
    (none, .v 23 (.not (.t 22)))])
  (.cond (.t 23)
    (.seq
    (.region 0 [
      (none, .v 24 (.build T54 [])),
      (none, .store T54 (.t 10) (.t 24)),
      (none, .v 11 (.move (.k (.int .i64 (30)))))])
    .ret)
    .skip))
  (.seq
  (.draw 3 [[], [], [], [], [], [], [], [], [], [], [], [], [], [], [], [], [], [], [], [], [], [], [], [], [], [22, 24], [], []] [
    (none, .load 25 T22 (.t 9)),
    (none, .load 26 T22 (.t 8)),
    (none, .v 27 (.fadr T27 3 (.t 5))),
    (none, .v 28 (.fadr T24 0 (.t 27))),
    (none, .load 29 (.int .i64) (.t 28)),
    (none, .v 30 (.fadr T27 3 (.t 5))),
    (none, .v 31 (.fadr T24 1 (.t 30))),
    (none, .load 32 .bool (.t 31)),
    (none, .v 33 (.move (.t 2))),
    (none, .v 34 (.build T24 [(0, .t 29), (1, .t 32), (2, .t 33)])),
    (none, .v 35 (.fadr T27 3 (.t 5))),
    (none, .v 36 (.fadr T24 0 (.t 35))),
    (none, .load 37 (.int .i64) (.t 36)),
    (none, .v 38 (.fadr T27 3 (.t 5))),
    (none, .v 39 (.fadr T24 1 (.t 38))),
    (none, .load 40 .bool (.t 39)),
    (none, .v 41 (.move (.t 1))),
    (none, .v 42 (.fadr T27 0 (.t 5))),
    (none, .load 43 T22 (.t 42)),
    (none, .v 44 (.fadr T27 1 (.t 5))),
    (none, .load 45 T22 (.t 44)),
    (none, .v 46 (.build T52 [(0, .t 37), (1, .t 40), (2, .k (.bool true)), (3, .t 41), (4, .t 43), (5, .t 45)])),
    (none, .lit 47 0 (.int .u8) 0 [] true),
    (none, .v 48 (.fadr T27 4 (.t 5))),
    (none, .load 49 (.sl (.int .u8)) (.t 48)),
    (none, .app 50 1 (.int .u8) 1 (.t 47) (.t 49) false),
    (none, .v 51 (.build T54 [(0, .t 25), (1, .t 26), (2, .t 34), (3, .t 46), (4, .t 50)])),
    (none, .alloc 13 2 T54)] [
    (none, .store T54 (.t 13) (.t 51))])
  (.seq
  (.region 0 [
    (none, .load 52 T54 (.t 13)),
    (none, .callP (some 53) 32 [.t 52] 0 0 true),
    (none, .v 14 (.move (.t 53)))])
  (.seq
  (.seq
  (.region 0 [
    (none, .v 54 (.move (.t 14))),
    (none, .v 55 (.cmp .ne (.t 54) (.k (.int .i64 (0)))))])
  (.cond (.t 55)
    (.seq
    (.region 0 [
      (none, .v 56 (.build T54 [])),
      (none, .v 57 (.move (.t 14))),
      (none, .store T54 (.t 10) (.t 56)),
      (none, .v 11 (.move (.t 57)))])
    .ret)
    .skip))
  (.seq
  (.region 0 [
    (none, .load 58 T54 (.t 13)),
    (none, .store T54 (.t 10) (.t 58)),
    (none, .v 11 (.move (.k (.int .i64 (0)))))])
  .ret))))))))
def nt_r04_Hide : Nat := 59
def rs_r04_Hide : List RV := [.cell 10 T54, .tmp 11]
/-- pontage/pontageref04.Show -/
abbrev f_r04_Show : FuncId := 44
def ac_r04_Show : AC :=
  (.seq
  (.region 1 [
    (none, .boxc 2 T54 (.t 0)),
    (none, .alloc 4 0 T27),
    (none, .v 5 (.move (.k (.int .i64 (0)))))])
  (.seq
  (.region 0 [
    (none, .load 8 T54 (.t 2)),
    (none, .callP (some 9) 32 [.t 8] 0 0 true),
    (none, .v 6 (.move (.t 9)))])
  (.seq
  (.seq
  (.region 0 [
    (none, .v 10 (.move (.t 6))),
    (none, .v 11 (.cmp .ne (.t 10) (.k (.int .i64 (0)))))])
  (.cond (.t 11)
    (.seq
    (.region 0 [
      (none, .v 12 (.build T27 [])),
      (none, .v 13 (.move (.t 6))),
      (none, .store T27 (.t 4) (.t 12)),
      (none, .v 5 (.move (.t 13)))])
    .ret)
    .skip))
  (.seq
  (.seq
  (.region 0 [
    (none, .v 14 (.move (.t 1))),
    (none, .v 15 (.cmp .lt (.t 14) (.k (.int .i64 (1))))),
    (none, .v 16 (.move (.t 15))),
    (some (16, false), .v 17 (.move (.t 1))),
    (some (16, false), .v 18 (.cmp .gt (.t 17) (.k (.int .i64 (4094))))),
    (none, .v 19 (.pick (.t 16) (.k (.bool true)) (.t 18)))])
  (.cond (.t 19)
    (.seq
    (.region 0 [
      (none, .v 20 (.build T27 [])),
      (none, .store T27 (.t 4) (.t 20)),
      (none, .v 5 (.move (.k (.int .i64 (1)))))])
    .ret)
    .skip))
  (.seq
  (.region 2 [
    (none, .load 21 T54 (.t 2)),
    (none, .callP (some 22) 34 [.t 21] 0 1 true),
    (none, .alloc 7 1 T27),
    (none, .store T27 (.t 7) (.t 22))])
  (.seq
  (.region 0 [
    (none, .v 23 (.fadr T27 2 (.t 7))),
    (none, .store .bool (.t 23) (.k (.bool true)))])
  (.seq
  (.region 0 [
    (none, .v 24 (.fadr T54 3 (.t 2))),
    (none, .v 25 (.fadr T52 0 (.t 24))),
    (none, .load 26 (.int .i64) (.t 25)),
    (none, .v 27 (.fadr T54 3 (.t 2))),
    (none, .v 28 (.fadr T52 1 (.t 27))),
    (none, .load 29 .bool (.t 28)),
    (none, .v 30 (.move (.t 1))),
    (none, .v 31 (.build T24 [(0, .t 26), (1, .t 29), (2, .t 30)])),
    (none, .v 32 (.fadr T27 3 (.t 7))),
    (none, .store T24 (.t 32) (.t 31))])
  (.seq
  (.region 0 [
    (none, .load 33 T27 (.t 7)),
    (none, .store T27 (.t 4) (.t 33)),
    (none, .v 5 (.move (.k (.int .i64 (0)))))])
  .ret))))))))
def nt_r04_Show : Nat := 34
def rs_r04_Show : List RV := [.cell 4 T27, .tmp 5]
/-- pontage/pbb.Same -/
abbrev f_pbb_Same : FuncId := 45
def ac_pbb_Same : AC :=
  (.seq
  (.region 0 [
    (none, .boxc 2 T54 (.t 0)),
    (none, .boxc 3 T54 (.t 1)),
    (none, .v 4 (.move (.k (.bool false))))])
  (.seq
  (.region 0 [
    (none, .v 5 (.fadr T54 0 (.t 2))),
    (none, .load 6 T22 (.t 5)),
    (none, .v 7 (.fadr T54 0 (.t 3))),
    (none, .load 8 T22 (.t 7)),
    (none, .v 9 (.eqT T22 false (.t 6) (.t 8))),
    (none, .v 10 (.move (.t 9))),
    (some (10, true), .v 11 (.fadr T54 1 (.t 2))),
    (some (10, true), .load 12 T22 (.t 11)),
    (some (10, true), .v 13 (.fadr T54 1 (.t 3))),
    (some (10, true), .load 14 T22 (.t 13)),
    (some (10, true), .v 15 (.eqT T22 false (.t 12) (.t 14))),
    (none, .v 16 (.pick (.t 10) (.t 15) (.k (.bool false)))),
    (none, .v 17 (.move (.t 16))),
    (some (17, true), .v 18 (.fadr T54 2 (.t 2))),
    (some (17, true), .load 19 T24 (.t 18)),
    (some (17, true), .v 20 (.fadr T54 2 (.t 3))),
    (some (17, true), .load 21 T24 (.t 20)),
    (some (17, true), .v 22 (.eqT T24 false (.t 19) (.t 21))),
    (none, .v 23 (.pick (.t 17) (.t 22) (.k (.bool false)))),
    (none, .v 24 (.move (.t 23))),
    (some (24, true), .v 25 (.fadr T54 3 (.t 2))),
    (some (24, true), .load 26 T52 (.t 25)),
    (some (24, true), .v 27 (.fadr T54 3 (.t 3))),
    (some (24, true), .load 28 T52 (.t 27)),
    (some (24, true), .v 29 (.eqT T52 false (.t 26) (.t 28))),
    (none, .v 30 (.pick (.t 24) (.t 29) (.k (.bool false)))),
    (none, .v 31 (.move (.t 30))),
    (some (31, true), .v 32 (.fadr T54 4 (.t 2))),
    (some (31, true), .load 33 (.sl (.int .u8)) (.t 32)),
    (some (31, true), .v 34 (.fadr T54 4 (.t 3))),
    (some (31, true), .load 35 (.sl (.int .u8)) (.t 34)),
    (some (31, true), .callP (some 36) 60 [.t 33, .t 35] 0 0 true),
    (none, .v 37 (.pick (.t 31) (.t 36) (.k (.bool false)))),
    (none, .v 4 (.move (.t 37)))])
  .ret))
def nt_pbb_Same : Nat := 38
def rs_pbb_Same : List RV := [.tmp 4]
/-- slices.Concat[[]byte,byte] -/
abbrev f_slices_Concat_u8 : FuncId := 46
def ac_slices_Concat_u8 : AC :=
  (.seq
  (.region 0 [
    (none, .v 2 (.move (.k (.sl (.int .u8) [] .full))))])
  (.seq
  (.region 0 [
    (none, .v 3 (.move (.k (.int .i64 (0)))))])
  (.seq
  (.seq
  (.region 0 [
    (none, .v 9 (.move (.t 0))),
    (none, .v 10 (.len false (.t 9))),
    (none, .v 11 (.move (.k (.int .i64 (0)))))])
  (.block 0
    (.loop [0, 3, 9, 10, 11]
      (.seq
      (.region 0 [
        (none, .v 12 (.cmp .lt (.t 11) (.t 10)))])
      (.seq
      (.cond (.t 12)
        .skip
        (.exit 0))
      (.seq
      (.block 1
        (.seq
        (.region 0 [
          (none, .v 13 (.iadr none (.sl (.int .u8)) (.t 9) (.t 11))),
          (none, .load 14 (.sl (.int .u8)) (.t 13)),
          (none, .v 5 (.move (.t 14)))])
        (.seq
        (.region 0 [
          (none, .v 15 (.move (.t 3))),
          (none, .v 16 (.move (.t 5))),
          (none, .v 17 (.len false (.t 16))),
          (none, .v 18 (.add (.t 15) (.t 17))),
          (none, .v 3 (.move (.t 18)))])
        (.seq
        (.region 0 [
          (none, .v 19 (.move (.t 3))),
          (none, .v 20 (.cmp .lt (.t 19) (.k (.int .i64 (0)))))])
        (.cond (.t 20)
          (.region 0 [
            (none, .stop (some 21)),
            (none, .stop none)])
          .skip)))))
      (.region 0 [
        (none, .v 22 (.add (.t 11) (.k (.int .i64 (1))))),
        (none, .v 11 (.move (.t 22)))])))))))
  (.seq
  (.region 2 [
    (none, .v 23 (.move (.t 3))),
    (none, .callP (some 24) 74 [.k (.sl (.int .u8) [] .full), .t 23] 0 1 true),
    (none, .mk 6 1 (.int .u8) (.t 24))])
  (.seq
  (.seq
  (.region 0 [
    (none, .v 25 (.move (.t 0))),
    (none, .v 26 (.len false (.t 25))),
    (none, .v 27 (.move (.k (.int .i64 (0)))))])
  (.block 2
    (.loop [6, 25, 26, 27]
      (.seq
      (.region 0 [
        (none, .v 28 (.cmp .lt (.t 27) (.t 26)))])
      (.seq
      (.cond (.t 28)
        .skip
        (.exit 2))
      (.seq
      (.block 3
        (.seq
        (.region 0 [
          (none, .v 29 (.iadr none (.sl (.int .u8)) (.t 25) (.t 27))),
          (none, .load 30 (.sl (.int .u8)) (.t 29)),
          (none, .v 8 (.move (.t 30)))])
        (.region 1 [
          (none, .v 31 (.move (.t 6))),
          (none, .v 32 (.move (.t 8))),
          (none, .app 33 0 (.int .u8) 1 (.t 31) (.t 32) false),
          (none, .v 6 (.move (.t 33)))])))
      (.region 0 [
        (none, .v 34 (.add (.t 27) (.k (.int .i64 (1))))),
        (none, .v 27 (.move (.t 34)))])))))))
  (.seq
  (.region 0 [
    (none, .v 35 (.move (.t 6))),
    (none, .v 2 (.move (.t 35)))])
  .ret))))))
def nt_slices_Concat_u8 : Nat := 36
def rs_slices_Concat_u8 : List RV := [.tmp 2]
/-- pontage/tag.Put -/
abbrev f_tag_Put : FuncId := 47
def ac_tag_Put : AC :=
  (.seq
  (.region 0 [
    (none, .boxc 1 T24 (.t 0)),
    (none, .v 2 (.move (.k (.sl (.int .u8) [] .full)))),
    (none, .v 3 (.move (.k (.int .i64 (0)))))])
  (.seq
  (.seq
  (.region 0 [
    (none, .load 5 T24 (.t 1)),
    (none, .callP (some 6) 52 [.t 5] 0 0 true),
    (none, .v 4 (.move (.t 6)))])
  (.seq
  (.region 0 [
    (none, .v 7 (.move (.t 4))),
    (none, .v 8 (.cmp .ne (.t 7) (.k (.int .i64 (0)))))])
  (.cond (.t 8)
    (.seq
    (.region 0 [
      (none, .v 9 (.move (.t 4))),
      (none, .v 2 (.move (.k (.sl (.int .u8) [] .full)))),
      (none, .v 3 (.move (.t 9)))])
    .ret)
    .skip)))
  (.seq
  (.draw 1 [[], [], [], [], [], [], [5], [], [], [], []] [
    (none, .v 10 (.fadr T24 0 (.t 1))),
    (none, .load 11 (.int .i64) (.t 10)),
    (none, .v 12 (.conv .u32 (.t 11))),
    (none, .v 13 (.shl (.t 12) (.k (.int .u64 (13))))),
    (none, .v 14 (.fadr T24 1 (.t 1))),
    (none, .load 15 .bool (.t 14)),
    (none, .callP (some 16) 76 [.t 15, .k (.int .u64 (12))] 0 0 false),
    (none, .v 17 (.bit .or (.t 13) (.t 16))),
    (none, .v 18 (.fadr T24 2 (.t 1))),
    (none, .load 19 (.int .i64) (.t 18)),
    (none, .v 20 (.conv .u32 (.t 19)))] [
    (none, .v 21 (.bit .or (.t 17) (.t 20))),
    (none, .callP (some 22) 75 [.t 21, .k (.int .i64 (2))] 0 1 true),
    (none, .v 2 (.move (.t 22))),
    (none, .v 3 (.move (.k (.int .i64 (0)))))])
  .ret)))
def nt_tag_Put : Nat := 23
def rs_tag_Put : List RV := [.tmp 2, .tmp 3]
/-- pontage/tag.PutType -/
abbrev f_tag_PutType : FuncId := 48
def ac_tag_PutType : AC :=
  (.seq
  (.region 0 [
    (none, .v 4 (.move (.k (.sl (.int .u8) [] .full)))),
    (none, .v 5 (.move (.k (.int .i64 (0)))))])
  (.seq
  (.seq
  (.region 0 [
    (none, .v 6 (.move (.t 0))),
    (none, .callP (some 7) 77 [.t 6, .k (.int .i64 (0)), .k (.int .i64 (65535))] 0 0 true),
    (none, .v 8 (.not (.t 7)))])
  (.cond (.t 8)
    (.seq
    (.region 0 [
      (none, .v 4 (.move (.k (.sl (.int .u8) [] .full)))),
      (none, .v 5 (.move (.k (.int .i64 (1)))))])
    .ret)
    .skip))
  (.seq
  (.region 3 [
    (none, .v 9 (.move (.t 0))),
    (none, .v 10 (.conv .u32 (.t 9))),
    (none, .callP (some 11) 75 [.t 10, .k (.int .i64 (2))] 0 1 true),
    (none, .v 12 (.move (.t 1))),
    (none, .callP (some 13) 46 [.t 12] 1 1 true),
    (none, .app 14 2 (.int .u8) 1 (.t 11) (.t 13) false),
    (none, .v 4 (.move (.t 14))),
    (none, .v 5 (.move (.k (.int .i64 (0)))))])
  .ret)))
def nt_tag_PutType : Nat := 15
def rs_tag_PutType : List RV := [.tmp 4, .tmp 5]
/-- pontage/pontageref03.Check -/
abbrev f_r03_Check : FuncId := 49
def ac_r03_Check : AC :=
  (.seq
  (.region 0 [
    (none, .boxc 1 T27 (.t 0)),
    (none, .v 2 (.move (.k (.int .i64 (0)))))])
  (.seq
  (.seq
  (.region 0 [
    (none, .v 3 (.fadr T27 4 (.t 1))),
    (none, .load 4 (.sl (.int .u8)) (.t 3)),
    (none, .v 5 (.len false (.t 4))),
    (none, .v 6 (.cmp .gt (.t 5) (.k (.int .i64 (1502)))))])
  (.cond (.t 6)
    (.seq
    (.region 0 [
      (none, .v 2 (.move (.k (.int .i64 (2)))))])
    .ret)
    .skip))
  (.seq
  (.seq
  (.region 0 [
    (none, .v 7 (.fadr T27 1 (.t 1))),
    (none, .load 8 T22 (.t 7)),
    (none, .callP (some 9) 65 [.t 8] 0 0 true),
    (none, .v 10 (.cmp .ne (.t 9) (.k (.int .i64 (1))))),
    (none, .v 11 (.move (.t 10))),
    (some (11, false), .v 12 (.fadr T27 0 (.t 1))),
    (some (11, false), .load 13 T22 (.t 12)),
    (some (11, false), .callP (some 14) 65 [.t 13] 0 0 true),
    (some (11, false), .v 15 (.cmp .eq (.t 14) (.k (.int .i64 (6))))),
    (none, .v 16 (.pick (.t 11) (.k (.bool true)) (.t 15))),
    (none, .v 17 (.move (.t 16))),
    (some (17, false), .v 18 (.fadr T27 4 (.t 1))),
    (some (17, false), .load 19 (.sl (.int .u8)) (.t 18)),
    (some (17, false), .v 20 (.len false (.t 19))),
    (some (17, false), .v 21 (.cmp .lt (.t 20) (.k (.int .i64 (2))))),
    (none, .v 22 (.pick (.t 17) (.k (.bool true)) (.t 21)))])
  (.cond (.t 22)
    (.seq
    (.region 0 [
      (none, .v 2 (.move (.k (.int .i64 (30)))))])
    .ret)
    .skip))
  (.seq
  (.seq
  (.region 0 [
    (none, .v 23 (.fadr T27 2 (.t 1))),
    (none, .load 24 .bool (.t 23)),
    (none, .v 25 (.move (.t 24))),
    (some (25, true), .v 26 (.fadr T27 3 (.t 1))),
    (some (25, true), .load 27 T24 (.t 26)),
    (some (25, true), .callP (some 28) 78 [.t 27] 0 0 true),
    (some (25, true), .v 29 (.cmp .ne (.t 28) (.k (.int .i64 (0))))),
    (none, .v 30 (.pick (.t 25) (.t 29) (.k (.bool false)))),
    (none, .v 31 (.move (.t 30))),
    (some (31, false), .v 32 (.fadr T27 2 (.t 1))),
    (some (31, false), .load 33 .bool (.t 32)),
    (some (31, false), .v 34 (.not (.t 33))),
    (some (31, false), .v 35 (.move (.t 34))),
    (some (35, true), .v 36 (.fadr T27 3 (.t 1))),
    (some (35, true), .load 37 T24 (.t 36)),
    (some (35, true), .v 38 (.build T24 [])),
    (some (35, true), .v 39 (.eqT T24 true (.t 37) (.t 38))),
    (some (35, true), .v 40 (.move (.t 39))),
    (some (40, false), .v 41 (.fadr T27 4 (.t 1))),
    (some (40, false), .load 42 (.sl (.int .u8)) (.t 41)),
    (some (40, false), .callP (some 43) 57 [.t 42] 0 0 true),
    (some (35, true), .v 44 (.pick (.t 40) (.k (.bool true)) (.t 43))),
    (some (31, false), .v 45 (.pick (.t 35) (.t 44) (.k (.bool false)))),
    (none, .v 46 (.pick (.t 31) (.k (.bool true)) (.t 45)))])
  (.cond (.t 46)
    (.seq
    (.region 0 [
      (none, .v 2 (.move (.k (.int .i64 (30)))))])
    .ret)
    .skip))
  (.seq
  (.region 0 [
    (none, .v 2 (.move (.k (.int .i64 (0)))))])
  .ret)))))
def nt_r03_Check : Nat := 47
def rs_r03_Check : List RV := [.tmp 2]
/-- pontage/mac.Kind -/
abbrev f_mac_Kind : FuncId := 51
def ac_mac_Kind : AC :=
  (.seq
  (.region 0 [
    (none, .boxc 1 T22 (.t 0)),
    (none, .v 2 (.move (.k (.int .i64 (0)))))])
  (.block 0
    (.seq
    (.region 0 [
      (none, .load 4 T22 (.t 1)),
      (none, .v 5 (.build T22 [])),
      (none, .v 6 (.eqT T22 false (.t 4) (.t 5))),
      (none, .v 3 (.move (.t 6)))])
    (.cond (.t 3)
      (.seq
      (.region 0 [
        (none, .v 2 (.move (.k (.int .i64 (6)))))])
      .ret)
      (.seq
      (.region 0 [
        (none, .load 8 T22 (.t 1)),
        (none, .v 9 (.build T22 [(0, .k (.int .u8 (255))), (1, .k (.int .u8 (255))), (2, .k (.int .u8 (255))), (3, .k (.int .u8 (255))), (4, .k (.int .u8 (255))), (5, .k (.int .u8 (255)))])),
        (none, .v 10 (.eqT T22 false (.t 8) (.t 9))),
        (none, .v 7 (.move (.t 10)))])
      (.cond (.t 7)
        (.seq
        (.region 0 [
          (none, .v 2 (.move (.k (.int .i64 (3)))))])
        .ret)
        (.seq
        (.region 0 [
          (none, .v 12 (.sliceA 6 (.int .u8) (.t 1) none (some (.k (.int .i64 (5)))))),
          (none, .v 13 (.sarr 5 (.int .u8) (.t 12))),
          (none, .load 14 T108 (.t 13)),
          (none, .v 15 (.build T108 [(0, .k (.int .u8 (1))), (1, .k (.int .u8 (128))), (2, .k (.int .u8 (194))), (3, .k (.int .u8 (0))), (4, .k (.int .u8 (0)))])),
          (none, .v 16 (.eqT T108 false (.t 14) (.t 15))),
          (none, .v 17 (.move (.t 16))),
          (some (17, true), .v 18 (.iadr (some 6) (.int .u8) (.t 1) (.k (.int .i64 (5))))),
          (some (17, true), .load 19 (.int .u8) (.t 18)),
          (some (17, true), .v 20 (.cmp .lt (.t 19) (.k (.int .u8 (16))))),
          (none, .v 21 (.pick (.t 17) (.t 20) (.k (.bool false)))),
          (none, .v 11 (.move (.t 21)))])
        (.cond (.t 11)
          (.seq
          (.region 0 [
            (none, .v 2 (.move (.k (.int .i64 (4)))))])
          .ret)
          (.seq
          (.region 0 [
            (none, .v 23 (.sliceA 6 (.int .u8) (.t 1) none (some (.k (.int .i64 (3)))))),
            (none, .v 24 (.sarr 3 (.int .u8) (.t 23))),
            (none, .load 25 T109 (.t 24)),
            (none, .v 26 (.build T109 [(0, .k (.int .u8 (1))), (1, .k (.int .u8 (30))), (2, .k (.int .u8 (131)))])),
            (none, .v 27 (.eqT T109 false (.t 25) (.t 26))),
            (none, .v 22 (.move (.t 27)))])
          (.cond (.t 22)
            (.seq
            (.region 0 [
              (none, .v 2 (.move (.k (.int .i64 (5)))))])
            .ret)
            (.seq
            (.region 0 [
              (none, .load 29 T22 (.t 1)),
              (none, .callP (some 30) 80 [.t 29] 0 0 true),
              (none, .v 28 (.move (.t 30)))])
            (.cond (.t 28)
              (.seq
              (.region 0 [
                (none, .v 2 (.move (.k (.int .i64 (2)))))])
              .ret)
              (.seq
              (.region 0 [
                (none, .v 2 (.move (.k (.int .i64 (1)))))])
              .ret)))))))))))))
def nt_mac_Kind : Nat := 31
def rs_mac_Kind : List RV := [.tmp 2]
/-- pontage/tag.Check -/
abbrev f_tag_Check : FuncId := 52
def ac_tag_Check : AC :=
  (.seq
  (.region 0 [
    (none, .boxc 1 T24 (.t 0)),
    (none, .v 2 (.move (.k (.int .i64 (0)))))])
  (.seq
  (.seq
  (.region 0 [
    (none, .v 3 (.fadr T24 0 (.t 1))),
    (none, .load 4 (.int .i64) (.t 3)),
    (none, .callP (some 5) 77 [.t 4, .k (.int .i64 (0)), .k (.int .i64 (7))] 0 0 true),
    (none, .v 6 (.not (.t 5))),
    (none, .v 7 (.move (.t 6))),
    (some (7, false), .v 8 (.fadr T24 2 (.t 1))),
    (some (7, false), .load 9 (.int .i64) (.t 8)),
    (some (7, false), .callP (some 10) 77 [.t 9, .k (.int .i64 (1)), .k (.int .i64 (4094))] 0 0 true),
    (some (7, false), .v 11 (.not (.t 10))),
    (none, .v 12 (.pick (.t 7) (.k (.bool true)) (.t 11)))])
  (.cond (.t 12)
    (.seq
    (.region 0 [
      (none, .v 2 (.move (.k (.int .i64 (20)))))])
    .ret)
    .skip))
  (.seq
  (.region 0 [
    (none, .v 2 (.move (.k (.int .i64 (0)))))])
  .ret)))
def nt_tag_Check : Nat := 13
def rs_tag_Check : List RV := [.tmp 2]
/-- pontage/ether.marked -/
abbrev f_ether_marked : FuncId := 53
def ac_ether_marked : AC :=
  (.seq
  (.region 0 [
    (none, .v 2 (.move (.k (.bool false))))])
  (.seq
  (.region 1 [
    (none, .v 7 (.move (.t 0))),
    (none, .callP (some 8) 61 [.t 7] 0 1 true),
    (none, .v 6 (.move (.t 8))),
    (none, .v 9 (.ext (.t 6) 0)),
    (none, .v 10 (.ext (.t 6) 1)),
    (none, .v 11 (.ext (.t 6) 2)),
    (none, .v 3 (.move (.t 9))),
    (none, .v 4 (.move (.t 10))),
    (none, .v 5 (.move (.t 11)))])
  (.seq
  (.region 0 [
    (none, .v 12 (.move (.t 5))),
    (none, .v 13 (.cmp .eq (.t 12) (.k (.int .i64 (0))))),
    (none, .v 14 (.move (.t 13))),
    (some (14, true), .v 15 (.move (.t 3))),
    (some (14, true), .v 16 (.cmp .eq (.t 15) (.k (.int .i64 (34984))))),
    (none, .v 17 (.pick (.t 14) (.t 16) (.k (.bool false)))),
    (none, .v 2 (.move (.t 17)))])
  .ret)))
def nt_ether_marked : Nat := 18
def rs_ether_marked : List RV := [.tmp 2]
/-- pontage/tag.Take -/
abbrev f_tag_Take : FuncId := 55
def ac_tag_Take : AC :=
  (.seq
  (.region 1 [
    (none, .alloc 2 0 T24),
    (none, .v 3 (.move (.k (.sl (.int .u8) [] .full)))),
    (none, .v 4 (.move (.k (.int .i64 (0)))))])
  (.seq
  (.seq
  (.region 0 [
    (none, .v 8 (.move (.t 0))),
    (none, .v 9 (.len false (.t 8))),
    (none, .v 10 (.cmp .lt (.t 9) (.k (.int .i64 (2)))))])
  (.cond (.t 10)
    (.seq
    (.region 0 [
      (none, .v 11 (.build T24 [])),
      (none, .store T24 (.t 2) (.t 11)),
      (none, .v 3 (.move (.k (.sl (.int .u8) [] .full)))),
      (none, .v 4 (.move (.k (.int .i64 (6)))))])
    .ret)
    .skip))
  (.seq
  (.region 1 [
    (none, .v 12 (.move (.t 0))),
    (none, .v 13 (.slice (.int .u8) (.t 12) none (some (.k (.int .i64 (2)))) none)),
    (none, .callP (some 14) 82 [.t 13] 0 0 true),
    (none, .callP (some 15) 81 [.t 14] 0 1 true),
    (none, .v 5 (.move (.t 15)))])
  (.seq
  (.region 1 [
    (none, .v 16 (.move (.t 5))),
    (none, .callS (some 17) (.t 16) [.k (.int .u64 (12))] [] [86]),
    (none, .v 18 (.build T24 [(2, .t 17)])),
    (none, .alloc 6 0 T24),
    (none, .store T24 (.t 6) (.t 18))])
  (.seq
  (.region 0 [
    (none, .v 19 (.move (.t 5))),
    (none, .callS (some 20) (.t 19) [.k (.int .u64 (1))] [] [86]),
    (none, .v 21 (.cmp .eq (.t 20) (.k (.int .i64 (1))))),
    (none, .v 22 (.fadr T24 1 (.t 6))),
    (none, .store .bool (.t 22) (.t 21))])
  (.seq
  (.region 0 [
    (none, .v 23 (.move (.t 5))),
    (none, .callS (some 24) (.t 23) [.k (.int .u64 (3))] [] [86]),
    (none, .v 25 (.fadr T24 0 (.t 6))),
    (none, .store (.int .i64) (.t 25) (.t 24))])
  (.seq
  (.seq
  (.region 0 [
    (none, .load 26 T24 (.t 6)),
    (none, .callP (some 27) 52 [.t 26] 0 0 true),
    (none, .v 7 (.move (.t 27)))])
  (.seq
  (.region 0 [
    (none, .v 28 (.move (.t 7))),
    (none, .v 29 (.cmp .ne (.t 28) (.k (.int .i64 (0)))))])
  (.cond (.t 29)
    (.seq
    (.region 0 [
      (none, .v 30 (.build T24 [])),
      (none, .v 31 (.move (.t 7))),
      (none, .store T24 (.t 2) (.t 30)),
      (none, .v 3 (.move (.k (.sl (.int .u8) [] .full)))),
      (none, .v 4 (.move (.t 31)))])
    .ret)
    .skip)))
  (.seq
  (.draw 1 [[], [], [], []] [
    (none, .load 32 T24 (.t 6)),
    (none, .v 33 (.move (.t 0))),
    (none, .v 34 (.slice (.int .u8) (.t 33) (some (.k (.int .i64 (2)))) none none)),
    (none, .callP (some 35) 56 [.t 34] 0 1 false)] [
    (none, .store T24 (.t 2) (.t 32)),
    (none, .v 3 (.move (.t 35))),
    (none, .v 4 (.move (.k (.int .i64 (0)))))])
  .ret))))))))
def nt_tag_Take : Nat := 36
def rs_tag_Take : List RV := [.cell 2 T24, .tmp 3, .tmp 4]
/-- slices.Clone[[]byte,byte] -/
abbrev f_slices_Clone_u8 : FuncId := 56
def ac_slices_Clone_u8 : AC :=
  (.seq
  (.region 0 [
    (none, .v 2 (.move (.k (.sl (.int .u8) [] .full))))])
  (.seq
  (.seq
  (.region 0 [
    (none, .v 3 (.move (.t 0))),
    (none, .eqnil 4 false (.t 3))])
  (.cond (.t 4)
    (.seq
    (.region 1 [
      (none, .mk 2 0 (.int .u8) (.k (.sl (.int .u8) [] .full)))])
    .ret)
    .skip))
  (.seq
  (.region 2 [
    (none, .lit 5 0 (.int .u8) 0 [] true),
    (none, .v 6 (.move (.t 0))),
    (none, .app 7 1 (.int .u8) 1 (.t 5) (.t 6) false),
    (none, .v 2 (.move (.t 7)))])
  .ret)))
def nt_slices_Clone_u8 : Nat := 8
def rs_slices_Clone_u8 : List RV := [.tmp 2]
/-- pontage/pontageref03.tagged -/
abbrev f_r03_tagged : FuncId := 57
def ac_r03_tagged : AC :=
  (.seq
  (.region 0 [
    (none, .v 2 (.move (.k (.bool false))))])
  (.seq
  (.region 0 [
    (none, .v 3 (.move (.t 0))),
    (none, .v 4 (.len false (.t 3))),
    (none, .v 5 (.cmp .ge (.t 4) (.k (.int .i64 (2))))),
    (none, .v 6 (.move (.t 5))),
    (some (6, true), .v 7 (.move (.t 0))),
    (some (6, true), .v 8 (.iadr none (.int .u8) (.t 7) (.k (.int .i64 (0))))),
    (some (6, true), .load 9 (.int .u8) (.t 8)),
    (some (6, true), .v 10 (.cmp .eq (.t 9) (.k (.int .u8 (136))))),
    (none, .v 11 (.pick (.t 6) (.t 10) (.k (.bool false)))),
    (none, .v 12 (.move (.t 11))),
    (some (12, true), .v 13 (.move (.t 0))),
    (some (12, true), .v 14 (.iadr none (.int .u8) (.t 13) (.k (.int .i64 (1))))),
    (some (12, true), .load 15 (.int .u8) (.t 14)),
    (some (12, true), .v 16 (.cmp .eq (.t 15) (.k (.int .u8 (168))))),
    (none, .v 17 (.pick (.t 12) (.t 16) (.k (.bool false)))),
    (none, .v 2 (.move (.t 17)))])
  .ret))
def nt_r03_tagged : Nat := 18
def rs_r03_tagged : List RV := [.tmp 2]
/-- slices.Equal[[]byte,byte] -/
abbrev f_slices_Equal_u8 : FuncId := 60
def ac_slices_Equal_u8 : AC :=
  (.seq
  (.region 0 [
    (none, .v 4 (.move (.k (.bool false))))])
  (.seq
  (.seq
  (.region 0 [
    (none, .v 6 (.move (.t 0))),
    (none, .v 7 (.len false (.t 6))),
    (none, .v 8 (.move (.t 1))),
    (none, .v 9 (.len false (.t 8))),
    (none, .v 10 (.cmp .ne (.t 7) (.t 9)))])
  (.cond (.t 10)
    (.seq
    (.region 0 [
      (none, .v 4 (.move (.k (.bool false))))])
    .ret)
    .skip))
  (.seq
  (.seq
  (.region 0 [
    (none, .v 11 (.move (.t 0))),
    (none, .v 12 (.len false (.t 11))),
    (none, .v 13 (.move (.k (.int .i64 (0)))))])
  (.block 0
    (.loop [0, 1, 12, 13]
      (.seq
      (.region 0 [
        (none, .v 14 (.cmp .lt (.t 13) (.t 12)))])
      (.seq
      (.cond (.t 14)
        .skip
        (.exit 0))
      (.seq
      (.block 1
        (.seq
        (.region 0 [
          (none, .v 15 (.move (.t 13))),
          (none, .v 5 (.move (.t 15)))])
        (.seq
        (.draw 0 [[], [], [], [], [], [], [], []] [
          (none, .v 16 (.move (.t 0))),
          (none, .v 17 (.move (.t 5))),
          (none, .v 18 (.iadr none (.int .u8) (.t 16) (.t 17))),
          (none, .load 19 (.int .u8) (.t 18)),
          (none, .v 20 (.move (.t 1))),
          (none, .v 21 (.move (.t 5))),
          (none, .v 22 (.iadr none (.int .u8) (.t 20) (.t 21))),
          (none, .load 23 (.int .u8) (.t 22))] [
          (none, .v 24 (.cmp .ne (.t 19) (.t 23)))])
        (.cond (.t 24)
          (.seq
          (.region 0 [
            (none, .v 4 (.move (.k (.bool false))))])
          .ret)
          .skip))))
      (.region 0 [
        (none, .v 25 (.add (.t 13) (.k (.int .i64 (1))))),
        (none, .v 13 (.move (.t 25)))])))))))
  (.seq
  (.region 0 [
    (none, .v 4 (.move (.k (.bool true))))])
  .ret))))
def nt_slices_Equal_u8 : Nat := 26
def rs_slices_Equal_u8 : List RV := [.tmp 4]
/-- pontage/tag.TakeType -/
abbrev f_tag_TakeType : FuncId := 61
def ac_tag_TakeType : AC :=
  (.seq
  (.region 0 [
    (none, .v 2 (.move (.k (.int .i64 (0))))),
    (none, .v 3 (.move (.k (.sl (.int .u8) [] .full)))),
    (none, .v 4 (.move (.k (.int .i64 (0)))))])
  (.seq
  (.seq
  (.region 0 [
    (none, .v 5 (.move (.t 0))),
    (none, .v 6 (.len false (.t 5))),
    (none, .v 7 (.cmp .lt (.t 6) (.k (.int .i64 (2)))))])
  (.cond (.t 7)
    (.seq
    (.region 0 [
      (none, .v 2 (.move (.k (.int .i64 (0))))),
      (none, .v 3 (.move (.k (.sl (.int .u8) [] .full)))),
      (none, .v 4 (.move (.k (.int .i64 (6)))))])
    .ret)
    .skip))
  (.seq
  (.draw 1 [[], [], [], [], [], [], [2]] [
    (none, .v 8 (.move (.t 0))),
    (none, .v 9 (.slice (.int .u8) (.t 8) none (some (.k (.int .i64 (2)))) none)),
    (none, .callP (some 10) 82 [.t 9] 0 0 false),
    (none, .v 11 (.conv .i64 (.t 10))),
    (none, .v 12 (.move (.t 0))),
    (none, .v 13 (.slice (.int .u8) (.t 12) (some (.k (.int .i64 (2)))) none none)),
    (none, .callP (some 14) 56 [.t 13] 0 1 false)] [
    (none, .v 2 (.move (.t 11))),
    (none, .v 3 (.move (.t 14))),
    (none, .v 4 (.move (.k (.int .i64 (0)))))])
  .ret)))
def nt_tag_TakeType : Nat := 15
def rs_tag_TakeType : List RV := [.tmp 2, .tmp 3, .tmp 4]
/-- pontage/tag.PutI -/
abbrev f_tag_PutI : FuncId := 62
def ac_tag_PutI : AC :=
  (.seq
  (.region 0 [
    (none, .boxc 1 T52 (.t 0)),
    (none, .v 2 (.move (.k (.sl (.int .u8) [] .full)))),
    (none, .v 3 (.move (.k (.int .i64 (0)))))])
  (.seq
  (.seq
  (.region 0 [
    (none, .load 6 T52 (.t 1)),
    (none, .callP (some 7) 64 [.t 6] 0 0 true),
    (none, .v 4 (.move (.t 7)))])
  (.seq
  (.region 0 [
    (none, .v 8 (.move (.t 4))),
    (none, .v 9 (.cmp .ne (.t 8) (.k (.int .i64 (0)))))])
  (.cond (.t 9)
    (.seq
    (.region 0 [
      (none, .v 10 (.move (.t 4))),
      (none, .v 2 (.move (.k (.sl (.int .u8) [] .full)))),
      (none, .v 3 (.move (.t 10)))])
    .ret)
    .skip)))
  (.seq
  (.draw 0 [[], [], [], [], [], [], [5], [], [], [], [5, 6, 9], [], [], [], []] [
    (none, .v 11 (.fadr T52 0 (.t 1))),
    (none, .load 12 (.int .i64) (.t 11)),
    (none, .v 13 (.conv .u32 (.t 12))),
    (none, .v 14 (.shl (.t 13) (.k (.int .u64 (29))))),
    (none, .v 15 (.fadr T52 1 (.t 1))),
    (none, .load 16 .bool (.t 15)),
    (none, .callP (some 17) 76 [.t 16, .k (.int .u64 (28))] 0 0 false),
    (none, .v 18 (.bit .or (.t 14) (.t 17))),
    (none, .v 19 (.fadr T52 2 (.t 1))),
    (none, .load 20 .bool (.t 19)),
    (none, .callP (some 21) 76 [.t 20, .k (.int .u64 (27))] 0 0 false),
    (none, .v 22 (.bit .or (.t 18) (.t 21))),
    (none, .v 23 (.fadr T52 3 (.t 1))),
    (none, .load 24 (.int .i64) (.t 23)),
    (none, .v 25 (.conv .u32 (.t 24)))] [
    (none, .v 26 (.bit .or (.t 22) (.t 25))),
    (none, .v 5 (.move (.t 26)))])
  (.seq
  (.draw 3 [[], [], [], [], [], []] [
    (none, .v 27 (.move (.t 5))),
    (none, .callP (some 28) 75 [.t 27, .k (.int .i64 (4))] 0 1 false),
    (none, .v 29 (.fadr T52 4 (.t 1))),
    (none, .v 30 (.sliceA 6 (.int .u8) (.t 29) none none)),
    (none, .v 31 (.fadr T52 5 (.t 1))),
    (none, .v 32 (.sliceA 6 (.int .u8) (.t 31) none none))] [
    (none, .lit 33 1 (.sl (.int .u8)) 3 [(0, .t 28), (1, .t 30), (2, .t 32)] false),
    (none, .callP (some 34) 46 [.t 33] 2 1 true),
    (none, .v 2 (.move (.t 34))),
    (none, .v 3 (.move (.k (.int .i64 (0)))))])
  .ret))))
def nt_tag_PutI : Nat := 35
def rs_tag_PutI : List RV := [.tmp 2, .tmp 3]
/-- pontage/tag.CheckI -/
abbrev f_tag_CheckI : FuncId := 64
def ac_tag_CheckI : AC :=
  (.seq
  (.region 0 [
    (none, .boxc 1 T52 (.t 0)),
    (none, .v 2 (.move (.k (.int .i64 (0)))))])
  (.seq
  (.seq
  (.region 0 [
    (none, .v 3 (.fadr T52 0 (.t 1))),
    (none, .load 4 (.int .i64) (.t 3)),
    (none, .callP (some 5) 77 [.t 4, .k (.int .i64 (0)), .k (.int .i64 (7))] 0 0 true),
    (none, .v 6 (.not (.t 5))),
    (none, .v 7 (.move (.t 6))),
    (some (7, false), .v 8 (.fadr T52 3 (.t 1))),
    (some (7, false), .load 9 (.int .i64) (.t 8)),
    (some (7, false), .callP (some 10) 77 [.t 9, .k (.int .i64 (0)), .k (.int .i64 (16777215))] 0 0 true),
    (some (7, false), .v 11 (.not (.t 10))),
    (none, .v 12 (.pick (.t 7) (.k (.bool true)) (.t 11)))])
  (.cond (.t 12)
    (.seq
    (.region 0 [
      (none, .v 2 (.move (.k (.int .i64 (20)))))])
    .ret)
    .skip))
  (.seq
  (.region 0 [
    (none, .v 2 (.move (.k (.int .i64 (0)))))])
  .ret)))
def nt_tag_CheckI : Nat := 13
def rs_tag_CheckI : List RV := [.tmp 2]
/-- pontage/pontageref01.Kind -/
abbrev f_r01_Kind : FuncId := 65
def ac_r01_Kind : AC :=
  (.seq
  (.region 0 [
    (none, .boxc 1 T22 (.t 0)),
    (none, .v 2 (.move (.k (.int .i64 (0)))))])
  (.seq
  (.block 0
    (.seq
    (.region 0 [
      (none, .load 4 T22 (.t 1)),
      (none, .callP (some 5) 84 [.t 4, .k (.int .u8 (0))] 0 0 true),
      (none, .v 3 (.move (.t 5)))])
    (.cond (.t 3)
      (.seq
      (.region 0 [
        (none, .v 2 (.move (.k (.int .i64 (6)))))])
      .ret)
      (.seq
      (.region 0 [
        (none, .load 7 T22 (.t 1)),
        (none, .callP (some 8) 84 [.t 7, .k (.int .u8 (255))] 0 0 true),
        (none, .v 6 (.move (.t 8)))])
      (.cond (.t 6)
        (.seq
        (.region 0 [
          (none, .v 2 (.move (.k (.int .i64 (3)))))])
        .ret)
        (.seq
        (.region 0 [
          (none, .v 10 (.iadr (some 6) (.int .u8) (.t 1) (.k (.int .i64 (0))))),
          (none, .load 11 (.int .u8) (.t 10)),
          (none, .v 12 (.cmp .eq (.t 11) (.k (.int .u8 (1))))),
          (none, .v 13 (.move (.t 12))),
          (some (13, true), .v 14 (.iadr (some 6) (.int .u8) (.t 1) (.k (.int .i64 (1))))),
          (some (13, true), .load 15 (.int .u8) (.t 14)),
          (some (13, true), .v 16 (.cmp .eq (.t 15) (.k (.int .u8 (128))))),
          (none, .v 17 (.pick (.t 13) (.t 16) (.k (.bool false)))),
          (none, .v 18 (.move (.t 17))),
          (some (18, true), .v 19 (.iadr (some 6) (.int .u8) (.t 1) (.k (.int .i64 (2))))),
          (some (18, true), .load 20 (.int .u8) (.t 19)),
          (some (18, true), .v 21 (.cmp .eq (.t 20) (.k (.int .u8 (194))))),
          (none, .v 22 (.pick (.t 18) (.t 21) (.k (.bool false)))),
          (none, .v 23 (.move (.t 22))),
          (some (23, true), .v 24 (.iadr (some 6) (.int .u8) (.t 1) (.k (.int .i64 (3))))),
          (some (23, true), .load 25 (.int .u8) (.t 24)),
          (some (23, true), .v 26 (.cmp .eq (.t 25) (.k (.int .u8 (0))))),
          (none, .v 27 (.pick (.t 23) (.t 26) (.k (.bool false)))),
          (none, .v 28 (.move (.t 27))),
          (some (28, true), .v 29 (.iadr (some 6) (.int .u8) (.t 1) (.k (.int .i64 (4))))),
          (some (28, true), .load 30 (.int .u8) (.t 29)),
          (some (28, true), .v 31 (.cmp .eq (.t 30) (.k (.int .u8 (0))))),
          (none, .v 32 (.pick (.t 28) (.t 31) (.k (.bool false)))),
          (none, .v 33 (.move (.t 32))),
          (some (33, true), .v 34 (.iadr (some 6) (.int .u8) (.t 1) (.k (.int .i64 (5))))),
          (some (33, true), .load 35 (.int .u8) (.t 34)),
          (some (33, true), .v 36 (.cmp .lt (.t 35) (.k (.int .u8 (16))))),
          (none, .v 37 (.pick (.t 33) (.t 36) (.k (.bool false)))),
          (none, .v 9 (.move (.t 37)))])
        (.cond (.t 9)
          (.seq
          (.region 0 [
            (none, .v 2 (.move (.k (.int .i64 (4)))))])
          .ret)
          (.seq
          (.region 0 [
            (none, .v 39 (.iadr (some 6) (.int .u8) (.t 1) (.k (.int .i64 (0))))),
            (none, .load 40 (.int .u8) (.t 39)),
            (none, .v 41 (.cmp .eq (.t 40) (.k (.int .u8 (1))))),
            (none, .v 42 (.move (.t 41))),
            (some (42, true), .v 43 (.iadr (some 6) (.int .u8) (.t 1) (.k (.int .i64 (1))))),
            (some (42, true), .load 44 (.int .u8) (.t 43)),
            (some (42, true), .v 45 (.cmp .eq (.t 44) (.k (.int .u8 (30))))),
            (none, .v 46 (.pick (.t 42) (.t 45) (.k (.bool false)))),
            (none, .v 47 (.move (.t 46))),
            (some (47, true), .v 48 (.iadr (some 6) (.int .u8) (.t 1) (.k (.int .i64 (2))))),
            (some (47, true), .load 49 (.int .u8) (.t 48)),
            (some (47, true), .v 50 (.cmp .eq (.t 49) (.k (.int .u8 (131))))),
            (none, .v 51 (.pick (.t 47) (.t 50) (.k (.bool false)))),
            (none, .v 38 (.move (.t 51)))])
          (.cond (.t 38)
            (.seq
            (.region 0 [
              (none, .v 2 (.move (.k (.int .i64 (5)))))])
            .ret)
            (.seq
            (.region 0 [
              (none, .v 53 (.iadr (some 6) (.int .u8) (.t 1) (.k (.int .i64 (0))))),
              (none, .load 54 (.int .u8) (.t 53)),
              (none, .v 55 (.rem (.t 54) (.k (.int .u8 (2))))),
              (none, .v 56 (.cmp .eq (.t 55) (.k (.int .u8 (1))))),
              (none, .v 52 (.move (.t 56)))])
            (.cond (.t 52)
              (.seq
              (.region 0 [
                (none, .v 2 (.move (.k (.int .i64 (2)))))])
              .ret)
              .skip)))))))))))
  (.seq
  (.region 0 [
    (none, .v 2 (.move (.k (.int .i64 (1)))))])
  .ret)))
def nt_r01_Kind : Nat := 57
def rs_r01_Kind : List RV := [.tmp 2]
/-- pontage/pontageref02.Is -/
abbrev f_r02_Is : FuncId := 66
def ac_r02_Is : AC :=
  (.seq
  (.region 0 [
    (none, .boxc 1 T24 (.t 0)),
    (none, .v 2 (.move (.k (.bool false))))])
  (.seq
  (.region 0 [
    (none, .v 3 (.fadr T24 0 (.t 1))),
    (none, .load 4 (.int .i64) (.t 3)),
    (none, .v 5 (.cmp .ge (.t 4) (.k (.int .i64 (0))))),
    (none, .v 6 (.move (.t 5))),
    (some (6, true), .v 7 (.fadr T24 0 (.t 1))),
    (some (6, true), .load 8 (.int .i64) (.t 7)),
    (some (6, true), .v 9 (.cmp .le (.t 8) (.k (.int .i64 (7))))),
    (none, .v 10 (.pick (.t 6) (.t 9) (.k (.bool false)))),
    (none, .v 11 (.move (.t 10))),
    (some (11, true), .v 12 (.fadr T24 2 (.t 1))),
    (some (11, true), .load 13 (.int .i64) (.t 12)),
    (some (11, true), .v 14 (.cmp .ge (.t 13) (.k (.int .i64 (1))))),
    (none, .v 15 (.pick (.t 11) (.t 14) (.k (.bool false)))),
    (none, .v 16 (.move (.t 15))),
    (some (16, true), .v 17 (.fadr T24 2 (.t 1))),
    (some (16, true), .load 18 (.int .i64) (.t 17)),
    (some (16, true), .v 19 (.cmp .le (.t 18) (.k (.int .i64 (4094))))),
    (none, .v 20 (.pick (.t 16) (.t 19) (.k (.bool false)))),
    (none, .v 2 (.move (.t 20)))])
  .ret))
def nt_r02_Is : Nat := 21
def rs_r02_Is : List RV := [.tmp 2]
/-- pontage/pontageref02.IsI -/
abbrev f_r02_IsI : FuncId := 67
def ac_r02_IsI : AC :=
  (.seq
  (.region 0 [
    (none, .boxc 1 T52 (.t 0)),
    (none, .v 2 (.move (.k (.bool false))))])
  (.seq
  (.region 0 [
    (none, .v 3 (.fadr T52 0 (.t 1))),
    (none, .load 4 (.int .i64) (.t 3)),
    (none, .v 5 (.cmp .ge (.t 4) (.k (.int .i64 (0))))),
    (none, .v 6 (.move (.t 5))),
    (some (6, true), .v 7 (.fadr T52 0 (.t 1))),
    (some (6, true), .load 8 (.int .i64) (.t 7)),
    (some (6, true), .v 9 (.cmp .le (.t 8) (.k (.int .i64 (7))))),
    (none, .v 10 (.pick (.t 6) (.t 9) (.k (.bool false)))),
    (none, .v 11 (.move (.t 10))),
    (some (11, true), .v 12 (.fadr T52 3 (.t 1))),
    (some (11, true), .load 13 (.int .i64) (.t 12)),
    (some (11, true), .v 14 (.cmp .ge (.t 13) (.k (.int .i64 (0))))),
    (none, .v 15 (.pick (.t 11) (.t 14) (.k (.bool false)))),
    (none, .v 16 (.move (.t 15))),
    (some (16, true), .v 17 (.fadr T52 3 (.t 1))),
    (some (16, true), .load 18 (.int .i64) (.t 17)),
    (some (16, true), .v 19 (.cmp .le (.t 18) (.k (.int .i64 (16777215))))),
    (none, .v 20 (.pick (.t 16) (.t 19) (.k (.bool false)))),
    (none, .v 2 (.move (.t 20)))])
  .ret))
def nt_r02_IsI : Nat := 21
def rs_r02_IsI : List RV := [.tmp 2]
/-- pontage/pontagelaw04.one -/
abbrev f_l04_one : FuncId := 68
def ac_l04_one : AC :=
  (.seq
  (.region 1 [
    (none, .alloc 0 0 T54)])
  (.seq
  (.region 1 [
    (none, .v 1 (.build T22 [(0, .k (.int .u8 (1))), (1, .k (.int .u8 (30))), (2, .k (.int .u8 (131))), (3, .k (.int .u8 (0))), (4, .k (.int .u8 (0))), (5, .k (.int .u8 (7)))])),
    (none, .v 2 (.build T22 [(0, .k (.int .u8 (2))), (1, .k (.int .u8 (0))), (2, .k (.int .u8 (0))), (3, .k (.int .u8 (0))), (4, .k (.int .u8 (0))), (5, .k (.int .u8 (1)))])),
    (none, .v 3 (.build T24 [(2, .k (.int .i64 (10)))])),
    (none, .v 4 (.build T22 [(0, .k (.int .u8 (2))), (1, .k (.int .u8 (9)))])),
    (none, .v 5 (.build T22 [(0, .k (.int .u8 (2))), (1, .k (.int .u8 (8)))])),
    (none, .v 6 (.build T52 [(3, .k (.int .i64 (7))), (2, .k (.bool true)), (4, .t 4), (5, .t 5)])),
    (none, .make 7 500 (.int .u8) 1 (.k (.int .i64 (46)))),
    (none, .v 8 (.build T54 [(0, .t 1), (1, .t 2), (2, .t 3), (3, .t 6), (4, .t 7)])),
    (none, .store T54 (.t 0) (.t 8))])
  .ret))
def nt_l04_one : Nat := 9
def rs_l04_one : List RV := [.cell 0 T54]
/-- (*pontage/pbb.walk).address -/
abbrev f_pbb_walk_address : FuncId := 69
def ac_pbb_walk_address : AC :=
  (.seq
  (.region 1 [
    (none, .alloc 2 0 T22)])
  (.seq
  (.region 0 [
    (none, .v 4 (.move (.t 0))),
    (none, .v 5 (.nilck (.t 4))),
    (none, .v 6 (.fadr T95 0 (.t 5))),
    (none, .callS (some 7) (.k (.fn 71 [])) [.t 6, .k (.int .i64 (6))] [] [71]),
    (none, .v 3 (.move (.t 7)))])
  (.seq
  (.seq
  (.region 0 [
    (none, .v 8 (.move (.t 3))),
    (none, .v 9 (.len false (.t 8))),
    (none, .v 10 (.cmp .lt (.t 9) (.k (.int .i64 (6)))))])
  (.cond (.t 10)
    (.seq
    (.region 0 [
      (none, .v 11 (.move (.t 0))),
      (none, .v 12 (.nilck (.t 11))),
      (none, .v 13 (.fadr T95 1 (.t 12))),
      (none, .store .bool (.t 13) (.k (.bool true)))])
    (.seq
    (.region 0 [
      (none, .v 14 (.build T22 [])),
      (none, .store T22 (.t 2) (.t 14))])
    .ret))
    .skip))
  (.seq
  (.region 0 [
    (none, .v 15 (.move (.t 3))),
    (none, .v 16 (.sarr 6 (.int .u8) (.t 15))),
    (none, .load 17 T22 (.t 16)),
    (none, .store T22 (.t 2) (.t 17))])
  .ret))))
def nt_pbb_walk_address : Nat := 18
def rs_pbb_walk_address : List RV := [.cell 2 T22]
/-- (*pontage/pbb.walk).kind -/
abbrev f_pbb_walk_kind : FuncId := 70
def ac_pbb_walk_kind : AC :=
  (.seq
  (.region 1 [
    (none, .v 8 (.move (.t 0))),
    (none, .v 9 (.nilck (.t 8))),
    (none, .v 10 (.fadr T95 0 (.t 9))),
    (none, .callS (some 11) (.k (.fn 71 [])) [.t 10, .k (.int .i64 (2))] [] [71]),
    (none, .callP (some 12) 61 [.t 11] 0 1 true),
    (none, .v 7 (.move (.t 12))),
    (none, .v 13 (.ext (.t 7) 0)),
    (none, .v 14 (.ext (.t 7) 1)),
    (none, .v 15 (.ext (.t 7) 2)),
    (none, .v 4 (.move (.t 13))),
    (none, .v 5 (.move (.t 14))),
    (none, .v 6 (.move (.t 15)))])
  (.region 0 [
    (none, .v 16 (.move (.t 0))),
    (none, .v 17 (.move (.t 0))),
    (none, .v 18 (.nilck (.t 17))),
    (none, .v 19 (.fadr T95 1 (.t 18))),
    (none, .load 20 .bool (.t 19)),
    (none, .v 21 (.move (.t 20))),
    (some (21, false), .v 22 (.move (.t 6))),
    (some (21, false), .v 23 (.cmp .ne (.t 22) (.k (.int .i64 (0))))),
    (none, .v 24 (.pick (.t 21) (.k (.bool true)) (.t 23))),
    (none, .v 25 (.move (.t 24))),
    (some (25, false), .v 26 (.move (.t 4))),
    (some (25, false), .v 27 (.move (.t 1))),
    (some (25, false), .v 28 (.cmp .ne (.t 26) (.t 27))),
    (none, .v 29 (.pick (.t 25) (.k (.bool true)) (.t 28))),
    (none, .v 30 (.nilck (.t 16))),
    (none, .v 31 (.fadr T95 1 (.t 30))),
    (none, .store .bool (.t 31) (.t 29))]))
def nt_pbb_walk_kind : Nat := 32
def rs_pbb_walk_kind : List RV := []
/-- (*pontage/pbb.left).cut -/
abbrev f_pbb_left_cut : FuncId := 71
def ac_pbb_left_cut : AC :=
  (.seq
  (.region 0 [
    (none, .v 4 (.move (.k (.sl (.int .u8) [] .full))))])
  (.seq
  (.region 0 [
    (none, .v 6 (.move (.t 1))),
    (none, .v 7 (.move (.t 0))),
    (none, .v 8 (.nilck (.t 7))),
    (none, .v 9 (.fadr T93 0 (.t 8))),
    (none, .load 10 (.sl (.int .u8)) (.t 9)),
    (none, .v 11 (.len false (.t 10))),
    (none, .v 12 (.min (.t 6) (.t 11))),
    (none, .v 1 (.move (.t 12)))])
  (.seq
  (.region 0 [
    (none, .v 13 (.move (.t 0))),
    (none, .v 14 (.nilck (.t 13))),
    (none, .v 15 (.fadr T93 0 (.t 14))),
    (none, .load 16 (.sl (.int .u8)) (.t 15)),
    (none, .v 17 (.move (.t 1))),
    (none, .v 18 (.move (.t 1))),
    (none, .v 19 (.slice (.int .u8) (.t 16) none (some (.t 17)) (some (.t 18)))),
    (none, .v 5 (.move (.t 19)))])
  (.seq
  (.region 0 [
    (none, .v 20 (.move (.t 0))),
    (none, .v 21 (.move (.t 0))),
    (none, .v 22 (.nilck (.t 21))),
    (none, .v 23 (.fadr T93 0 (.t 22))),
    (none, .load 24 (.sl (.int .u8)) (.t 23)),
    (none, .v 25 (.move (.t 1))),
    (none, .v 26 (.slice (.int .u8) (.t 24) (some (.t 25)) none none)),
    (none, .v 27 (.nilck (.t 20))),
    (none, .v 28 (.fadr T93 0 (.t 27))),
    (none, .store (.sl (.int .u8)) (.t 28) (.t 26))])
  (.seq
  (.region 0 [
    (none, .v 29 (.move (.t 5))),
    (none, .v 4 (.move (.t 29)))])
  .ret)))))
def nt_pbb_left_cut : Nat := 30
def rs_pbb_left_cut : List RV := [.tmp 4]
/-- pontage/tag.TakeI -/
abbrev f_tag_TakeI : FuncId := 72
def ac_tag_TakeI : AC :=
  (.seq
  (.region 1 [
    (none, .alloc 2 0 T52),
    (none, .v 3 (.move (.k (.sl (.int .u8) [] .full)))),
    (none, .v 4 (.move (.k (.int .i64 (0)))))])
  (.seq
  (.seq
  (.region 0 [
    (none, .v 8 (.move (.t 0))),
    (none, .v 9 (.len false (.t 8))),
    (none, .v 10 (.cmp .lt (.t 9) (.k (.int .i64 (16)))))])
  (.cond (.t 10)
    (.seq
    (.region 0 [
      (none, .v 11 (.build T52 [])),
      (none, .store T52 (.t 2) (.t 11)),
      (none, .v 3 (.move (.k (.sl (.int .u8) [] .full)))),
      (none, .v 4 (.move (.k (.int .i64 (6)))))])
    .ret)
    .skip))
  (.seq
  (.region 1 [
    (none, .v 12 (.move (.t 0))),
    (none, .v 13 (.slice (.int .u8) (.t 12) none (some (.k (.int .i64 (4)))) none)),
    (none, .callP (some 14) 82 [.t 13] 0 0 true),
    (none, .callP (some 15) 81 [.t 14] 0 1 true),
    (none, .v 5 (.move (.t 15)))])
  (.seq
  (.draw 1 [[], [], [], [], [], [], [], [], [], [], [], []] [
    (none, .v 16 (.move (.t 5))),
    (none, .callS (some 17) (.t 16) [.k (.int .u64 (24))] [] [86]),
    (none, .v 18 (.move (.t 0))),
    (none, .v 19 (.slice (.int .u8) (.t 18) (some (.k (.int .i64 (4)))) (some (.k (.int .i64 (10)))) none)),
    (none, .v 20 (.sarr 6 (.int .u8) (.t 19))),
    (none, .load 21 T22 (.t 20)),
    (none, .v 22 (.move (.t 0))),
    (none, .v 23 (.slice (.int .u8) (.t 22) (some (.k (.int .i64 (10)))) (some (.k (.int .i64 (16)))) none)),
    (none, .v 24 (.sarr 6 (.int .u8) (.t 23))),
    (none, .load 25 T22 (.t 24)),
    (none, .v 26 (.build T52 [(3, .t 17), (4, .t 21), (5, .t 25)])),
    (none, .alloc 6 0 T52)] [
    (none, .store T52 (.t 6) (.t 26))])
  (.seq
  (.region 0 [
    (none, .v 27 (.move (.t 5))),
    (none, .callS (some 28) (.t 27) [.k (.int .u64 (3))] [] [86]),
    (none, .v 7 (.move (.t 28)))])
  (.seq
  (.region 0 [
    (none, .v 29 (.move (.t 5))),
    (none, .callS (some 30) (.t 29) [.k (.int .u64 (1))] [] [86]),
    (none, .v 31 (.cmp .eq (.t 30) (.k (.int .i64 (1))))),
    (none, .v 32 (.fadr T52 2 (.t 6))),
    (none, .store .bool (.t 32) (.t 31))])
  (.seq
  (.region 0 [
    (none, .v 33 (.move (.t 5))),
    (none, .callS (some 34) (.t 33) [.k (.int .u64 (1))] [] [86]),
    (none, .v 35 (.cmp .eq (.t 34) (.k (.int .i64 (1))))),
    (none, .v 36 (.fadr T52 1 (.t 6))),
    (none, .store .bool (.t 36) (.t 35))])
  (.seq
  (.region 0 [
    (none, .v 37 (.move (.t 5))),
    (none, .callS (some 38) (.t 37) [.k (.int .u64 (3))] [] [86]),
    (none, .v 39 (.fadr T52 0 (.t 6))),
    (none, .store (.int .i64) (.t 39) (.t 38))])
  (.seq
  (.seq
  (.region 0 [
    (none, .v 40 (.move (.t 7))),
    (none, .v 41 (.cmp .ne (.t 40) (.k (.int .i64 (0))))),
    (none, .v 42 (.move (.t 41))),
    (some (42, false), .load 43 T52 (.t 6)),
    (some (42, false), .callP (some 44) 64 [.t 43] 0 0 true),
    (some (42, false), .v 45 (.cmp .ne (.t 44) (.k (.int .i64 (0))))),
    (none, .v 46 (.pick (.t 42) (.k (.bool true)) (.t 45)))])
  (.cond (.t 46)
    (.seq
    (.region 0 [
      (none, .v 47 (.build T52 [])),
      (none, .store T52 (.t 2) (.t 47)),
      (none, .v 3 (.move (.k (.sl (.int .u8) [] .full)))),
      (none, .v 4 (.move (.k (.int .i64 (20)))))])
    .ret)
    .skip))
  (.seq
  (.draw 1 [[], [], [], []] [
    (none, .load 48 T52 (.t 6)),
    (none, .v 49 (.move (.t 0))),
    (none, .v 50 (.slice (.int .u8) (.t 49) (some (.k (.int .i64 (16)))) none none)),
    (none, .callP (some 51) 56 [.t 50] 0 1 false)] [
    (none, .store T52 (.t 2) (.t 48)),
    (none, .v 3 (.move (.t 51))),
    (none, .v 4 (.move (.k (.int .i64 (0)))))])
  .ret))))))))))
def nt_tag_TakeI : Nat := 52
def rs_tag_TakeI : List RV := [.cell 2 T52, .tmp 3, .tmp 4]
/-- slices.Grow[[]byte,byte] -/
abbrev f_slices_Grow_u8 : FuncId := 74
def ac_slices_Grow_u8 : AC :=
  (.seq
  (.region 0 [
    (none, .v 4 (.move (.k (.sl (.int .u8) [] .full))))])
  (.seq
  (.seq
  (.region 0 [
    (none, .v 5 (.move (.t 1))),
    (none, .v 6 (.cmp .lt (.t 5) (.k (.int .i64 (0)))))])
  (.cond (.t 6)
    (.region 0 [
      (none, .stop (some 7)),
      (none, .stop none)])
    .skip))
  (.seq
  (.seq
  (.region 0 [
    (none, .v 8 (.move (.t 1))),
    (none, .v 9 (.move (.t 0))),
    (none, .cap 10 (.t 9)),
    (none, .v 11 (.move (.t 0))),
    (none, .v 12 (.len false (.t 11))),
    (none, .v 13 (.sub (.t 10) (.t 12))),
    (none, .v 14 (.sub (.t 8) (.t 13))),
    (none, .v 1 (.move (.t 14)))])
  (.seq
  (.region 0 [
    (none, .v 15 (.move (.t 1))),
    (none, .v 16 (.cmp .gt (.t 15) (.k (.int .i64 (0)))))])
  (.cond (.t 16)
    (.region 1 [
      (none, .v 17 (.move (.t 0))),
      (none, .v 18 (.move (.t 0))),
      (none, .cap 19 (.t 18)),
      (none, .v 20 (.slc (.int .u8) (.t 17) (.t 19))),
      (none, .v 21 (.move (.t 1))),
      (none, .appz 22 0 (.int .u8) 1 (.t 20) (.t 21)),
      (none, .v 23 (.move (.t 0))),
      (none, .v 24 (.len false (.t 23))),
      (none, .trim 25 (.t 22) (.t 24)),
      (none, .v 0 (.move (.t 25)))])
    .skip)))
  (.seq
  (.region 0 [
    (none, .v 26 (.move (.t 0))),
    (none, .v 4 (.move (.t 26)))])
  .ret))))
def nt_slices_Grow_u8 : Nat := 27
def rs_slices_Grow_u8 : List RV := [.tmp 4]
/-- pontage/tag.numbered -/
abbrev f_tag_numbered : FuncId := 75
def ac_tag_numbered : AC :=
  (.seq
  (.region 0 [
    (none, .v 4 (.move (.k (.sl (.int .u8) [] .full))))])
  (.seq
  (.region 1 [
    (none, .v 7 (.move (.t 1))),
    (none, .make 8 0 (.int .u8) 1 (.t 7)),
    (none, .v 5 (.move (.t 8)))])
  (.seq
  (.seq
  (.region 0 [
    (none, .v 9 (.move (.t 5))),
    (none, .v 10 (.len false (.t 9))),
    (none, .v 11 (.move (.k (.int .i64 (0)))))])
  (.block 0
    (.loop [0, 1, 5, 10, 11]
      (.seq
      (.region 0 [
        (none, .v 12 (.cmp .lt (.t 11) (.t 10)))])
      (.seq
      (.cond (.t 12)
        .skip
        (.exit 0))
      (.seq
      (.block 1
        (.seq
        (.region 0 [
          (none, .v 13 (.move (.t 11))),
          (none, .v 6 (.move (.t 13)))])
        (.region 0 [
          (none, .v 14 (.move (.t 5))),
          (none, .v 15 (.move (.t 1))),
          (none, .v 16 (.sub (.t 15) (.k (.int .i64 (1))))),
          (none, .v 17 (.move (.t 6))),
          (none, .v 18 (.sub (.t 16) (.t 17))),
          (none, .v 19 (.move (.t 0))),
          (none, .v 20 (.move (.t 6))),
          (none, .v 21 (.conv .u64 (.t 20))),
          (none, .v 22 (.mul (.k (.int .u64 (8))) (.t 21))),
          (none, .v 23 (.shr (.t 19) (.t 22))),
          (none, .v 24 (.conv .u8 (.t 23))),
          (none, .v 25 (.iadr none (.int .u8) (.t 14) (.t 18))),
          (none, .store (.int .u8) (.t 25) (.t 24))])))
      (.region 0 [
        (none, .v 26 (.add (.t 11) (.k (.int .i64 (1))))),
        (none, .v 11 (.move (.t 26)))])))))))
  (.seq
  (.region 0 [
    (none, .v 27 (.move (.t 5))),
    (none, .close 4 (.t 27))])
  .ret))))
def nt_tag_numbered : Nat := 28
def rs_tag_numbered : List RV := [.tmp 4]
/-- pontage/tag.bit -/
abbrev f_tag_bit : FuncId := 76
def ac_tag_bit : AC :=
  (.seq
  (.region 0 [
    (none, .v 4 (.move (.k (.int .u32 (0)))))])
  (.seq
  (.seq
  (.region 0 [
    (none, .v 5 (.move (.t 0)))])
  (.cond (.t 5)
    (.seq
    (.region 0 [
      (none, .v 6 (.move (.t 1))),
      (none, .v 7 (.shl (.k (.int .u32 (1))) (.t 6))),
      (none, .v 4 (.move (.t 7)))])
    .ret)
    .skip))
  (.seq
  (.region 0 [
    (none, .v 4 (.move (.k (.int .u32 (0)))))])
  .ret)))
def nt_tag_bit : Nat := 8
def rs_tag_bit : List RV := [.tmp 4]
/-- pontage/tag.within -/
abbrev f_tag_within : FuncId := 77
def ac_tag_within : AC :=
  (.seq
  (.region 0 [
    (none, .v 6 (.move (.k (.bool false))))])
  (.seq
  (.region 0 [
    (none, .v 7 (.move (.t 0))),
    (none, .v 8 (.move (.t 1))),
    (none, .v 9 (.cmp .ge (.t 7) (.t 8))),
    (none, .v 10 (.move (.t 9))),
    (some (10, true), .v 11 (.move (.t 0))),
    (some (10, true), .v 12 (.move (.t 2))),
    (some (10, true), .v 13 (.cmp .le (.t 11) (.t 12))),
    (none, .v 14 (.pick (.t 10) (.t 13) (.k (.bool false)))),
    (none, .v 6 (.move (.t 14)))])
  .ret))
def nt_tag_within : Nat := 15
def rs_tag_within : List RV := [.tmp 6]
/-- pontage/pontageref02.Check -/
abbrev f_r02_Check : FuncId := 78
def ac_r02_Check : AC :=
  (.seq
  (.region 0 [
    (none, .boxc 1 T24 (.t 0)),
    (none, .v 2 (.move (.k (.int .i64 (0)))))])
  (.seq
  (.seq
  (.region 0 [
    (none, .load 3 T24 (.t 1)),
    (none, .callP (some 4) 66 [.t 3] 0 0 true)])
  (.cond (.t 4)
    (.seq
    (.region 0 [
      (none, .v 2 (.move (.k (.int .i64 (0)))))])
    .ret)
    .skip))
  (.seq
  (.region 0 [
    (none, .v 2 (.move (.k (.int .i64 (20)))))])
  .ret)))
def nt_r02_Check : Nat := 5
def rs_r02_Check : List RV := [.tmp 2]
/-- pontage/mac.Many -/
abbrev f_mac_Many : FuncId := 80
def ac_mac_Many : AC :=
  (.seq
  (.region 0 [
    (none, .boxc 1 T22 (.t 0)),
    (none, .v 2 (.move (.k (.bool false))))])
  (.seq
  (.region 0 [
    (none, .v 3 (.iadr (some 6) (.int .u8) (.t 1) (.k (.int .i64 (0))))),
    (none, .load 4 (.int .u8) (.t 3)),
    (none, .v 5 (.bit .and (.t 4) (.k (.int .u8 (1))))),
    (none, .v 6 (.cmp .eq (.t 5) (.k (.int .u8 (1))))),
    (none, .v 2 (.move (.t 6)))])
  .ret))
def nt_mac_Many : Nat := 7
def rs_mac_Many : List RV := [.tmp 2]
/-- pontage/tag.cutter -/
abbrev f_tag_cutter : FuncId := 81
def ac_tag_cutter : AC :=
  (.seq
  (.region 1 [
    (none, .box 1 0 (.int .u32) (.t 0)),
    (none, .v 2 (.move (.k .nilfn)))])
  (.seq
  (.region 0 [
    (none, .v 3 (.mkfn 86 [.t 1])),
    (none, .v 2 (.move (.t 3)))])
  .ret))
def nt_tag_cutter : Nat := 4
def rs_tag_cutter : List RV := [.tmp 2]
/-- pontage/tag.number -/
abbrev f_tag_number : FuncId := 82
def ac_tag_number : AC :=
  (.seq
  (.region 0 [
    (none, .v 2 (.move (.k (.int .u32 (0)))))])
  (.seq
  (.region 0 [
    (none, .v 3 (.move (.k (.int .u32 (0)))))])
  (.seq
  (.seq
  (.region 0 [
    (none, .v 6 (.move (.t 0))),
    (none, .v 7 (.len false (.t 6))),
    (none, .v 8 (.move (.k (.int .i64 (0)))))])
  (.block 0
    (.loop [3, 6, 7, 8]
      (.seq
      (.region 0 [
        (none, .v 9 (.cmp .lt (.t 8) (.t 7)))])
      (.seq
      (.cond (.t 9)
        .skip
        (.exit 0))
      (.seq
      (.block 1
        (.seq
        (.region 0 [
          (none, .v 10 (.iadr none (.int .u8) (.t 6) (.t 8))),
          (none, .load 11 (.int .u8) (.t 10)),
          (none, .v 5 (.move (.t 11)))])
        (.region 0 [
          (none, .v 12 (.move (.t 3))),
          (none, .v 13 (.shl (.t 12) (.k (.int .u64 (8))))),
          (none, .v 14 (.move (.t 5))),
          (none, .v 15 (.conv .u32 (.t 14))),
          (none, .v 16 (.bit .or (.t 13) (.t 15))),
          (none, .v 3 (.move (.t 16)))])))
      (.region 0 [
        (none, .v 17 (.add (.t 8) (.k (.int .i64 (1))))),
        (none, .v 8 (.move (.t 17)))])))))))
  (.seq
  (.region 0 [
    (none, .v 18 (.move (.t 3))),
    (none, .v 2 (.move (.t 18)))])
  .ret))))
def nt_tag_number : Nat := 19
def rs_tag_number : List RV := [.tmp 2]
/-- pontage/pontageref01.same -/
abbrev f_r01_same : FuncId := 84
def ac_r01_same : AC :=
  (.seq
  (.region 0 [
    (none, .boxc 2 T22 (.t 0)),
    (none, .v 4 (.move (.k (.bool false))))])
  (.seq
  (.seq
  (.region 0 [
    (none, .v 5 (.move (.k (.int .i64 (0)))))])
  (.block 0
    (.loop [1, 2, 5]
      (.seq
      (.seq
      (.region 0 [
        (none, .v 6 (.move (.t 5))),
        (none, .v 7 (.cmp .lt (.t 6) (.k (.int .i64 (6)))))])
      (.cond (.t 7)
        .skip
        (.exit 0)))
      (.seq
      (.block 1
        (.seq
        (.region 0 [
          (none, .v 10 (.move (.t 5))),
          (none, .v 11 (.iadr (some 6) (.int .u8) (.t 2) (.t 10))),
          (none, .load 12 (.int .u8) (.t 11)),
          (none, .v 13 (.move (.t 1))),
          (none, .v 14 (.cmp .ne (.t 12) (.t 13)))])
        (.cond (.t 14)
          (.seq
          (.region 0 [
            (none, .v 4 (.move (.k (.bool false))))])
          .ret)
          .skip)))
      (.region 0 [
        (none, .v 8 (.move (.t 5))),
        (none, .v 9 (.add (.t 8) (.k (.int .i64 (1))))),
        (none, .v 5 (.move (.t 9)))]))))))
  (.seq
  (.region 0 [
    (none, .v 4 (.move (.k (.bool true))))])
  .ret)))
def nt_r01_same : Nat := 15
def rs_r01_same : List RV := [.tmp 4]
/-- pontage/tag.cutter$1 -/
abbrev f_tag_cutter_1 : FuncId := 86
def ac_tag_cutter_1 : AC :=
  (.seq
  (.region 0 [
    (none, .v 3 (.move (.k (.int .i64 (0)))))])
  (.seq
  (.region 0 [
    (none, .load 5 (.int .u32) (.t 1)),
    (none, .v 6 (.move (.t 0))),
    (none, .v 7 (.shl (.k (.int .u32 (1))) (.t 6))),
    (none, .v 8 (.sub (.t 7) (.k (.int .u32 (1))))),
    (none, .v 9 (.bit .and (.t 5) (.t 8))),
    (none, .v 4 (.move (.t 9)))])
  (.seq
  (.region 0 [
    (none, .load 10 (.int .u32) (.t 1)),
    (none, .v 11 (.move (.t 0))),
    (none, .v 12 (.shr (.t 10) (.t 11))),
    (none, .store (.int .u32) (.t 1) (.t 12))])
  (.seq
  (.region 0 [
    (none, .v 13 (.move (.t 4))),
    (none, .v 14 (.conv .i64 (.t 13))),
    (none, .v 3 (.move (.t 14)))])
  .ret))))
def nt_tag_cutter_1 : Nat := 15
def rs_tag_cutter_1 : List RV := [.tmp 3]
theorem mixed : prog.follows .mixedOrders = true := by kernel_rfl
theorem ok_l04_PbbHides : funOK prog f_l04_PbbHides nt_l04_PbbHides rs_l04_PbbHides ac_l04_PbbHides = true := by kernel_rfl
theorem ok_ether_Check : funOK prog f_ether_Check nt_ether_Check rs_ether_Check ac_ether_Check = true := by kernel_rfl
theorem ok_r03_Same : funOK prog f_r03_Same nt_r03_Same rs_r03_Same ac_r03_Same = true := by kernel_rfl
theorem ok_l04_Few : funOK prog f_l04_Few nt_l04_Few rs_l04_Few ac_l04_Few = true := by kernel_rfl
theorem ok_pbb_Encode : funOK prog f_pbb_Encode nt_pbb_Encode rs_pbb_Encode ac_pbb_Encode = true := by kernel_rfl
theorem ok_pbb_Check : funOK prog f_pbb_Check nt_pbb_Check rs_pbb_Check ac_pbb_Check = true := by kernel_rfl
theorem ok_r04_Check : funOK prog f_r04_Check nt_r04_Check rs_r04_Check ac_r04_Check = true := by kernel_rfl
theorem ok_pbb_Inside : funOK prog f_pbb_Inside nt_pbb_Inside rs_pbb_Inside ac_pbb_Inside = true := by kernel_rfl
theorem ok_r04_Inside : funOK prog f_r04_Inside nt_r04_Inside rs_r04_Inside ac_r04_Inside = true := by kernel_rfl
theorem ok_l04_awake : funOK prog f_l04_awake nt_l04_awake rs_l04_awake ac_l04_awake = true := by kernel_rfl
theorem ok_pbb_Decode : funOK prog f_pbb_Decode nt_pbb_Decode rs_pbb_Decode ac_pbb_Decode = true := by kernel_rfl
theorem ok_r04_Same : funOK prog f_r04_Same nt_r04_Same rs_r04_Same ac_r04_Same = true := by kernel_rfl
theorem ok_l04_few : funOK prog f_l04_few nt_l04_few rs_l04_few ac_l04_few = true := by kernel_rfl
theorem ok_pbb_Hide : funOK prog f_pbb_Hide nt_pbb_Hide rs_pbb_Hide ac_pbb_Hide = true := by kernel_rfl
theorem ok_pbb_Show : funOK prog f_pbb_Show nt_pbb_Show rs_pbb_Show ac_pbb_Show = true := by kernel_rfl
theorem ok_r04_Hide : funOK prog f_r04_Hide nt_r04_Hide rs_r04_Hide ac_r04_Hide = true := by kernel_rfl
theorem ok_r04_Show : funOK prog f_r04_Show nt_r04_Show rs_r04_Show ac_r04_Show = true := by kernel_rfl
theorem ok_pbb_Same : funOK prog f_pbb_Same nt_pbb_Same rs_pbb_Same ac_pbb_Same = true := by kernel_rfl
theorem ok_slices_Concat_u8 : funOK prog f_slices_Concat_u8 nt_slices_Concat_u8 rs_slices_Concat_u8 ac_slices_Concat_u8 = true := by kernel_rfl
theorem ok_tag_Put : funOK prog f_tag_Put nt_tag_Put rs_tag_Put ac_tag_Put = true := by kernel_rfl
theorem ok_tag_PutType : funOK prog f_tag_PutType nt_tag_PutType rs_tag_PutType ac_tag_PutType = true := by kernel_rfl
theorem ok_r03_Check : funOK prog f_r03_Check nt_r03_Check rs_r03_Check ac_r03_Check = true := by kernel_rfl
theorem ok_mac_Kind : funOK prog f_mac_Kind nt_mac_Kind rs_mac_Kind ac_mac_Kind = true := by kernel_rfl
theorem ok_tag_Check : funOK prog f_tag_Check nt_tag_Check rs_tag_Check ac_tag_Check = true := by kernel_rfl
theorem ok_ether_marked : funOK prog f_ether_marked nt_ether_marked rs_ether_marked ac_ether_marked = true := by kernel_rfl
theorem ok_tag_Take : funOK prog f_tag_Take nt_tag_Take rs_tag_Take ac_tag_Take = true := by kernel_rfl
theorem ok_slices_Clone_u8 : funOK prog f_slices_Clone_u8 nt_slices_Clone_u8 rs_slices_Clone_u8 ac_slices_Clone_u8 = true := by kernel_rfl
theorem ok_r03_tagged : funOK prog f_r03_tagged nt_r03_tagged rs_r03_tagged ac_r03_tagged = true := by kernel_rfl
theorem ok_slices_Equal_u8 : funOK prog f_slices_Equal_u8 nt_slices_Equal_u8 rs_slices_Equal_u8 ac_slices_Equal_u8 = true := by kernel_rfl
theorem ok_tag_TakeType : funOK prog f_tag_TakeType nt_tag_TakeType rs_tag_TakeType ac_tag_TakeType = true := by kernel_rfl
theorem ok_tag_PutI : funOK prog f_tag_PutI nt_tag_PutI rs_tag_PutI ac_tag_PutI = true := by kernel_rfl
theorem ok_tag_CheckI : funOK prog f_tag_CheckI nt_tag_CheckI rs_tag_CheckI ac_tag_CheckI = true := by kernel_rfl
theorem ok_r01_Kind : funOK prog f_r01_Kind nt_r01_Kind rs_r01_Kind ac_r01_Kind = true := by kernel_rfl
theorem ok_r02_Is : funOK prog f_r02_Is nt_r02_Is rs_r02_Is ac_r02_Is = true := by kernel_rfl
theorem ok_r02_IsI : funOK prog f_r02_IsI nt_r02_IsI rs_r02_IsI ac_r02_IsI = true := by kernel_rfl
theorem ok_l04_one : funOK prog f_l04_one nt_l04_one rs_l04_one ac_l04_one = true := by kernel_rfl
theorem ok_pbb_walk_address : funOK prog f_pbb_walk_address nt_pbb_walk_address rs_pbb_walk_address ac_pbb_walk_address = true := by kernel_rfl
theorem ok_pbb_walk_kind : funOK prog f_pbb_walk_kind nt_pbb_walk_kind rs_pbb_walk_kind ac_pbb_walk_kind = true := by kernel_rfl
theorem ok_pbb_left_cut : funOK prog f_pbb_left_cut nt_pbb_left_cut rs_pbb_left_cut ac_pbb_left_cut = true := by kernel_rfl
theorem ok_tag_TakeI : funOK prog f_tag_TakeI nt_tag_TakeI rs_tag_TakeI ac_tag_TakeI = true := by kernel_rfl
theorem ok_slices_Grow_u8 : funOK prog f_slices_Grow_u8 nt_slices_Grow_u8 rs_slices_Grow_u8 ac_slices_Grow_u8 = true := by kernel_rfl
theorem ok_tag_numbered : funOK prog f_tag_numbered nt_tag_numbered rs_tag_numbered ac_tag_numbered = true := by kernel_rfl
theorem ok_tag_bit : funOK prog f_tag_bit nt_tag_bit rs_tag_bit ac_tag_bit = true := by kernel_rfl
theorem ok_tag_within : funOK prog f_tag_within nt_tag_within rs_tag_within ac_tag_within = true := by kernel_rfl
theorem ok_r02_Check : funOK prog f_r02_Check nt_r02_Check rs_r02_Check ac_r02_Check = true := by kernel_rfl
theorem ok_mac_Many : funOK prog f_mac_Many nt_mac_Many rs_mac_Many ac_mac_Many = true := by kernel_rfl
theorem ok_tag_cutter : funOK prog f_tag_cutter nt_tag_cutter rs_tag_cutter ac_tag_cutter = true := by kernel_rfl
theorem ok_tag_number : funOK prog f_tag_number nt_tag_number rs_tag_number ac_tag_number = true := by kernel_rfl
theorem ok_r01_same : funOK prog f_r01_same nt_r01_same rs_r01_same ac_r01_same = true := by kernel_rfl
theorem ok_tag_cutter_1 : funOK prog f_tag_cutter_1 nt_tag_cutter_1 rs_tag_cutter_1 ac_tag_cutter_1 = true := by kernel_rfl
def orc : Orc where
  p := fun f args => match f with
    | 3 => pFr1 args
    | 4 => pB1 args
    | 5 => pFr2 args
    | 6 => pFrB args
    | 8 => pBf1 args
    | 9 => pB1 args
    | 10 => pBfBk args
    | 11 => pBfThrough args
    | 13 => pBfHides args
    | 14 => pLight args
    | 15 => pFrEnc args
    | 16 => pFrEnc args
    | 17 => pFrCheck args
    | 18 => pYes3 args
    | 19 => pCut17 args
    | 20 => pFrDec args
    | 21 => pFrDec args
    | 22 => pFrSame args
    | 23 => pRetag args
    | 24 => pRRetag args
    | 25 => pFrSame args
    | 26 => pFrType args
    | 27 => pFrType args
    | 28 => pBfFew args
    | 29 => pBfEnc args
    | 30 => pBfEnc args
    | 31 => pBfCheck args
    | 32 => pBfCheck args
    | 33 => pInside args
    | 34 => pInside args
    | 35 => pYes3 args
    | 36 => pCut16 args
    | 37 => pBfDec args
    | 38 => pBfDec args
    | 39 => pBfSame args
    | 40 => pFrFew args
    | 41 => pHide args
    | 42 => pShow args
    | 43 => pHide args
    | 44 => pShow args
    | 45 => pBfSame args
    | 46 => pConcat8 args
    | 47 => pTagPut args
    | 48 => pPutType args
    | 49 => pFrCheck args
    | 50 => pTagPut args
    | 51 => pKind args
    | 52 => pTagCheck args
    | 53 => pMarked args
    | 54 => pPlain args
    | 55 => pTake args
    | 56 => pClone8 args
    | 57 => pMarked args
    | 58 => pTake args
    | 59 => pCarried args
    | 60 => pEqual8 args
    | 61 => pTakeType args
    | 62 => pTagPutI args
    | 63 => pBfBytes args
    | 64 => pTagCheckI args
    | 65 => pKind args
    | 66 => pTagIs args
    | 67 => pTagIsI args
    | 68 => pOne args
    | 72 => pTakeI args
    | 73 => pTakeI args
    | 74 => pGrow8 args
    | 75 => pNumbered args
    | 76 => pBit args
    | 77 => pWithin args
    | 78 => pTagCheck args
    | 79 => pTagBytes args
    | 80 => pMany args
    | 81 => pCutter args
    | 82 => pNumber args
    | 83 => pTagBytesI args
    | 84 => pSame1 args
    | 85 => pRBit args
    | _ => .bad
  s := fun f args h => match f with
    | 69 => sAddress args h
    | 70 => sKind args h
    | 71 => sLeftCut args h
    | 86 => sCutter args h
    | _ => .bad
  fu := fun f => match f with
    | 74 => true
    | _ => false
end Go.Vc.Seat
