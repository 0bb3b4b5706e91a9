/- The seat's code in abstract form, held against the program; what is known of its functions. -/
import Derived.Test.YtdhfofnfhlnjbaaProg
import Derived.KernelRfl
import Derived.Test.YtdhfofnfhlnjbaaSpTag
import Derived.Test.YtdhfofnfhlnjbaaEpSpTag2
import Derived.Test.YtdhfofnfhlnjbaaSpEth
import Derived.Test.YtdhfofnfhlnjbaaSpPbb
set_option linter.unusedVariables false
set_option maxRecDepth 100000
namespace Go.Vc.Seat
open Go.Vc Go.Proofs.Try
abbrev T22 : Ty := .arr 6 (.int .u8)
abbrev T24 : Ty := .st [.int .i64, .bool, .int .i64]
abbrev T27 : Ty := .st [.arr 6 (.int .u8), .arr 6 (.int .u8), .bool, .st [.int .i64, .bool, .int .i64], .sl (.int .u8)]
abbrev T52 : Ty := .st [.int .i64, .bool, .bool, .int .i64, .arr 6 (.int .u8), .arr 6 (.int .u8)]
abbrev T54 : Ty := .st [.arr 6 (.int .u8), .arr 6 (.int .u8), .st [.int .i64, .bool, .int .i64], .st [.int .i64, .bool, .bool, .int .i64, .arr 6 (.int .u8), .arr 6 (.int .u8)], .sl (.int .u8)]
abbrev T93 : Ty := .st [.sl (.int .u8)]
abbrev T95 : Ty := .st [.st [.sl (.int .u8)], .bool]
abbrev T108 : Ty := .arr 5 (.int .u8)
abbrev T109 : Ty := .arr 3 (.int .u8)
/-- pontage/pontagelaw03.EtherEncodes -/
abbrev f_l03_EtherEncodes : FuncId := 3
def ac_l03_EtherEncodes : AC :=
  (.seq
  (.region 1 [
    (none, .box 1 0 T27 (.t 0)),
    (none, .v 2 (.move (.k (.bool false))))])
  (.seq
  (.region 0 [
    (none, .load 7 T27 (.t 1)),
    (none, .callP (some 8) 14 [.t 7] 0 0 true),
    (none, .store T27 (.t 1) (.t 8))])
  (.seq
  (.region 1 [
    (none, .load 10 T27 (.t 1)),
    (none, .callP (some 11) 15 [.t 10] 0 1 true),
    (none, .v 9 (.move (.t 11))),
    (none, .v 12 (.ext (.t 9) 0)),
    (none, .v 13 (.ext (.t 9) 1)),
    (none, .v 3 (.move (.t 12))),
    (none, .v 4 (.move (.t 13)))])
  (.seq
  (.region 1 [
    (none, .load 15 T27 (.t 1)),
    (none, .callP (some 16) 16 [.t 15] 0 1 true),
    (none, .v 14 (.move (.t 16))),
    (none, .v 17 (.ext (.t 14) 0)),
    (none, .v 18 (.ext (.t 14) 1)),
    (none, .v 5 (.move (.t 17))),
    (none, .v 6 (.move (.t 18)))])
  (.seq
  (.region 0 [
    (none, .v 19 (.move (.t 3))),
    (none, .v 20 (.convS true (.t 19))),
    (none, .v 21 (.move (.t 5))),
    (none, .v 22 (.convS true (.t 21))),
    (none, .v 23 (.eqT .str false (.t 20) (.t 22))),
    (none, .v 24 (.move (.t 23))),
    (some (24, true), .v 25 (.move (.t 4))),
    (some (24, true), .v 26 (.move (.t 6))),
    (some (24, true), .v 27 (.cmp .eq (.t 25) (.t 26))),
    (none, .v 28 (.pick (.t 24) (.t 27) (.k (.bool false)))),
    (none, .v 29 (.move (.t 28))),
    (some (29, true), .load 30 T27 (.t 1)),
    (some (29, true), .callP (some 31) 17 [.t 30] 0 0 true),
    (some (29, true), .v 32 (.move (.t 6))),
    (some (29, true), .v 33 (.cmp .eq (.t 31) (.t 32))),
    (none, .v 34 (.pick (.t 29) (.t 33) (.k (.bool false)))),
    (none, .v 35 (.move (.t 34))),
    (some (35, true), .callP (some 36) 18 [] 0 0 true),
    (none, .v 37 (.pick (.t 35) (.t 36) (.k (.bool false)))),
    (none, .v 2 (.move (.t 37)))])
  .ret)))))
def nt_l03_EtherEncodes : Nat := 38
def rs_l03_EtherEncodes : List RV := [.tmp 2]
/-- pontage/pontagelaw03.EtherTells -/
abbrev f_l03_EtherTells : FuncId := 5
def ac_l03_EtherTells : AC :=
  (.seq
  (.region 2 [
    (none, .box 3 0 T27 (.t 0)),
    (none, .box 4 1 T27 (.t 1)),
    (none, .v 6 (.move (.k (.bool false))))])
  (.seq
  (.draw 0 [[], [0], []] [
    (none, .load 11 T27 (.t 3)),
    (none, .callP (some 12) 14 [.t 11] 0 0 false),
    (none, .load 13 T27 (.t 4))] [
    (none, .callP (some 14) 14 [.t 13] 0 0 true),
    (none, .store T27 (.t 3) (.t 12)),
    (none, .store T27 (.t 4) (.t 14))])
  (.seq
  (.region 2 [
    (none, .load 16 T27 (.t 3)),
    (none, .v 17 (.move (.t 2))),
    (none, .callP (some 18) 23 [.t 16, .t 17] 0 1 true),
    (none, .v 15 (.move (.t 18))),
    (none, .v 19 (.ext (.t 15) 0)),
    (none, .v 20 (.ext (.t 15) 1)),
    (none, .alloc 7 1 T27),
    (none, .store T27 (.t 7) (.t 19)),
    (none, .v 8 (.move (.t 20)))])
  (.seq
  (.region 1 [
    (none, .load 22 T27 (.t 3)),
    (none, .v 23 (.move (.t 2))),
    (none, .callP (some 24) 24 [.t 22, .t 23] 0 0 true),
    (none, .v 21 (.move (.t 24))),
    (none, .v 25 (.ext (.t 21) 0)),
    (none, .v 26 (.ext (.t 21) 1)),
    (none, .alloc 9 0 T27),
    (none, .store T27 (.t 9) (.t 25)),
    (none, .v 10 (.move (.t 26)))])
  (.seq
  (.draw 0 [[], [], [0, 1], [], [], [0, 1, 2, 3, 4], [], [], [2, 5], [2, 5], [0, 1, 2, 3, 4, 5, 8, 9], [], [], [2, 5, 10], [2, 5, 10], [0, 1, 2, 3, 4, 5, 8, 9, 10, 13, 14], [], [], [], [], [], [], [], [2, 5, 10, 15], [0, 1, 2, 3, 4, 5, 8, 9, 10, 13, 14, 15, 23], [2, 5, 10, 15]] [
    (none, .load 27 T27 (.t 3)),
    (none, .load 28 T27 (.t 4)),
    (none, .callP (some 29) 25 [.t 27, .t 28] 0 0 false),
    (none, .load 30 T27 (.t 3)),
    (none, .load 31 T27 (.t 4)),
    (none, .callP (some 32) 22 [.t 30, .t 31] 0 0 false),
    (none, .v 33 (.eqT .bool false (.t 29) (.t 32))),
    (none, .v 34 (.move (.t 33))),
    (some (34, true), .load 35 T27 (.t 3)),
    (some (34, true), .load 36 T27 (.t 3)),
    (some (34, true), .callP (some 37) 25 [.t 35, .t 36] 0 0 false),
    (none, .v 38 (.pick (.t 34) (.t 37) (.k (.bool false)))),
    (none, .v 39 (.move (.t 38))),
    (some (39, true), .load 40 T27 (.t 7)),
    (some (39, true), .load 41 T27 (.t 9)),
    (some (39, true), .callP (some 42) 22 [.t 40, .t 41] 0 0 false),
    (none, .v 43 (.pick (.t 39) (.t 42) (.k (.bool false)))),
    (none, .v 44 (.move (.t 43))),
    (some (44, true), .v 45 (.move (.t 8))),
    (some (44, true), .v 46 (.move (.t 10))),
    (some (44, true), .v 47 (.cmp .eq (.t 45) (.t 46))),
    (none, .v 48 (.pick (.t 44) (.t 47) (.k (.bool false)))),
    (none, .v 49 (.move (.t 48))),
    (some (49, true), .load 50 T27 (.t 3)),
    (some (49, true), .callP (some 51) 26 [.t 50] 0 0 false),
    (some (49, true), .load 52 T27 (.t 3))] [
    (some (49, true), .callP (some 53) 27 [.t 52] 0 0 true),
    (some (49, true), .v 54 (.cmp .eq (.t 51) (.t 53))),
    (none, .v 55 (.pick (.t 49) (.t 54) (.k (.bool false)))),
    (none, .v 56 (.move (.t 55))),
    (some (56, true), .callP (some 57) 18 [] 0 0 true),
    (none, .v 58 (.pick (.t 56) (.t 57) (.k (.bool false)))),
    (none, .v 6 (.move (.t 58)))])
  .ret)))))
def nt_l03_EtherTells : Nat := 59
def rs_l03_EtherTells : List RV := [.tmp 6]
/-- pontage/pontagelaw03.EtherBack -/
abbrev f_l03_EtherBack : FuncId := 6
def ac_l03_EtherBack : AC :=
  (.seq
  (.region 1 [
    (none, .box 2 0 T27 (.t 0)),
    (none, .v 4 (.move (.k (.bool false))))])
  (.seq
  (.region 0 [
    (none, .load 13 T27 (.t 2)),
    (none, .callP (some 14) 14 [.t 13] 0 0 true),
    (none, .v 15 (.move (.t 1))),
    (none, .callP (some 16) 19 [.t 15] 0 0 true),
    (none, .store T27 (.t 2) (.t 14)),
    (none, .v 1 (.move (.t 16)))])
  (.seq
  (.seq
  (.region 1 [
    (none, .load 18 T27 (.t 2)),
    (none, .callP (some 19) 15 [.t 18] 0 1 true),
    (none, .v 17 (.move (.t 19))),
    (none, .v 20 (.ext (.t 17) 0)),
    (none, .v 21 (.ext (.t 17) 1)),
    (none, .v 5 (.move (.t 20))),
    (none, .v 6 (.move (.t 21)))])
  (.seq
  (.region 0 [
    (none, .v 22 (.move (.t 6))),
    (none, .v 23 (.cmp .eq (.t 22) (.k (.int .i64 (0)))))])
  (.cond (.t 23)
    (.seq
    (.region 2 [
      (none, .v 25 (.move (.t 5))),
      (none, .callP (some 26) 20 [.t 25] 0 1 true),
      (none, .v 24 (.move (.t 26))),
      (none, .v 27 (.ext (.t 24) 0)),
      (none, .v 28 (.ext (.t 24) 1)),
      (none, .alloc 7 1 T27),
      (none, .store T27 (.t 7) (.t 27)),
      (none, .v 8 (.move (.t 28)))])
    (.seq
    (.region 0 [
      (none, .v 29 (.move (.t 8))),
      (none, .v 30 (.cmp .ne (.t 29) (.k (.int .i64 (0))))),
      (none, .v 31 (.move (.t 30))),
      (some (31, false), .load 32 T27 (.t 7)),
      (some (31, false), .load 33 T27 (.t 2)),
      (some (31, false), .callP (some 34) 22 [.t 32, .t 33] 0 0 true),
      (some (31, false), .v 35 (.not (.t 34))),
      (none, .v 36 (.pick (.t 31) (.k (.bool true)) (.t 35)))])
    (.cond (.t 36)
      (.seq
      (.region 0 [
        (none, .v 4 (.move (.k (.bool false))))])
      .ret)
      .skip)))
    .skip)))
  (.seq
  (.region 2 [
    (none, .v 38 (.move (.t 1))),
    (none, .callP (some 39) 20 [.t 38] 0 1 true),
    (none, .v 37 (.move (.t 39))),
    (none, .v 40 (.ext (.t 37) 0)),
    (none, .v 41 (.ext (.t 37) 1)),
    (none, .alloc 9 1 T27),
    (none, .store T27 (.t 9) (.t 40)),
    (none, .v 10 (.move (.t 41)))])
  (.seq
  (.seq
  (.region 0 [
    (none, .v 42 (.move (.t 10))),
    (none, .v 43 (.cmp .ne (.t 42) (.k (.int .i64 (0)))))])
  (.cond (.t 43)
    (.seq
    (.region 0 [
      (none, .load 44 T27 (.t 9)),
      (none, .v 45 (.build T27 [])),
      (none, .callP (some 46) 22 [.t 44, .t 45] 0 0 true),
      (none, .v 47 (.move (.t 46))),
      (some (47, true), .callP (some 48) 18 [] 0 0 true),
      (none, .v 49 (.pick (.t 47) (.t 48) (.k (.bool false)))),
      (none, .v 4 (.move (.t 49)))])
    .ret)
    .skip))
  (.seq
  (.region 1 [
    (none, .load 51 T27 (.t 9)),
    (none, .callP (some 52) 15 [.t 51] 0 1 true),
    (none, .v 50 (.move (.t 52))),
    (none, .v 53 (.ext (.t 50) 0)),
    (none, .v 54 (.ext (.t 50) 1)),
    (none, .v 11 (.move (.t 53))),
    (none, .v 12 (.move (.t 54)))])
  (.seq
  (.region 0 [
    (none, .v 55 (.move (.t 12))),
    (none, .v 56 (.cmp .eq (.t 55) (.k (.int .i64 (0))))),
    (none, .v 57 (.move (.t 56))),
    (some (57, true), .v 58 (.move (.t 11))),
    (some (57, true), .v 59 (.convS true (.t 58))),
    (some (57, true), .v 60 (.move (.t 1))),
    (some (57, true), .v 61 (.convS true (.t 60))),
    (some (57, true), .v 62 (.eqT .str false (.t 59) (.t 61))),
    (none, .v 63 (.pick (.t 57) (.t 62) (.k (.bool false)))),
    (none, .v 64 (.move (.t 63))),
    (some (64, true), .callP (some 65) 18 [] 0 0 true),
    (none, .v 66 (.pick (.t 64) (.t 65) (.k (.bool false)))),
    (none, .v 4 (.move (.t 66)))])
  .ret)))))))
def nt_l03_EtherBack : Nat := 67
def rs_l03_EtherBack : List RV := [.tmp 4]
/-- pontage/pontagelaw03.Light -/
abbrev f_l03_Light : FuncId := 14
def ac_l03_Light : AC :=
  (.seq
  (.region 2 [
    (none, .box 1 0 T27 (.t 0)),
    (none, .alloc 2 1 T27)])
  (.seq
  (.region 0 [
    (none, .v 3 (.fadr T27 4 (.t 1))),
    (none, .load 4 (.sl (.int .u8)) (.t 3)),
    (none, .v 5 (.fadr T27 4 (.t 1))),
    (none, .load 6 (.sl (.int .u8)) (.t 5)),
    (none, .v 7 (.len false (.t 6))),
    (none, .v 8 (.min (.t 7) (.k (.int .i64 (1600))))),
    (none, .v 9 (.slice (.int .u8) (.t 4) none (some (.t 8)) none)),
    (none, .v 10 (.fadr T27 4 (.t 1))),
    (none, .store (.sl (.int .u8)) (.t 10) (.t 9))])
  (.seq
  (.region 0 [
    (none, .load 11 T27 (.t 1)),
    (none, .store T27 (.t 2) (.t 11))])
  .ret)))
def nt_l03_Light : Nat := 12
def rs_l03_Light : List RV := [.cell 2 T27]
/-- pontage/ether.Encode -/
abbrev f_ether_Encode : FuncId := 15
def ac_ether_Encode : AC :=
  (.seq
  (.region 0 [
    (none, .boxc 1 T27 (.t 0)),
    (none, .v 2 (.move (.k (.sl (.int .u8) [] .full)))),
    (none, .v 3 (.move (.k (.int .i64 (0)))))])
  (.seq
  (.seq
  (.region 0 [
    (none, .load 10 T27 (.t 1)),
    (none, .callP (some 11) 17 [.t 10] 0 0 true),
    (none, .v 4 (.move (.t 11)))])
  (.seq
  (.region 0 [
    (none, .v 12 (.move (.t 4))),
    (none, .v 13 (.cmp .ne (.t 12) (.k (.int .i64 (0)))))])
  (.cond (.t 13)
    (.seq
    (.region 0 [
      (none, .v 14 (.move (.t 4))),
      (none, .v 2 (.move (.k (.sl (.int .u8) [] .full)))),
      (none, .v 3 (.move (.t 14)))])
    .ret)
    .skip)))
  (.seq
  (.draw 2 [[], [], [], []] [
    (none, .v 15 (.fadr T27 0 (.t 1))),
    (none, .v 16 (.sliceA 6 (.int .u8) (.t 15) none none)),
    (none, .v 17 (.fadr T27 1 (.t 1))),
    (none, .v 18 (.sliceA 6 (.int .u8) (.t 17) none none))] [
    (none, .lit 19 0 (.sl (.int .u8)) 2 [(0, .t 16), (1, .t 18)] false),
    (none, .callP (some 20) 46 [.t 19] 1 1 true),
    (none, .v 5 (.move (.t 20)))])
  (.seq
  (.seq
  (.region 0 [
    (none, .v 21 (.fadr T27 2 (.t 1))),
    (none, .load 22 .bool (.t 21))])
  (.cond (.t 22)
    (.seq
    (.region 1 [
      (none, .v 24 (.fadr T27 3 (.t 1))),
      (none, .load 25 T24 (.t 24)),
      (none, .callP (some 26) 47 [.t 25] 0 1 true),
      (none, .v 23 (.move (.t 26))),
      (none, .v 27 (.ext (.t 23) 0)),
      (none, .v 28 (.ext (.t 23) 1)),
      (none, .v 6 (.move (.t 27))),
      (none, .v 7 (.move (.t 28)))])
    (.seq
    (.region 2 [
      (none, .v 30 (.move (.t 6))),
      (none, .lit 31 0 (.sl (.int .u8)) 1 [(0, .t 30)] false),
      (none, .callP (some 32) 48 [.k (.int .i64 (34984)), .t 31] 1 1 true),
      (none, .v 29 (.move (.t 32))),
      (none, .v 33 (.ext (.t 29) 0)),
      (none, .v 34 (.ext (.t 29) 1)),
      (none, .v 8 (.move (.t 33))),
      (none, .v 9 (.move (.t 34)))])
    (.region 1 [
      (none, .v 35 (.move (.t 5))),
      (none, .v 36 (.move (.t 8))),
      (none, .app 37 0 (.int .u8) 1 (.t 35) (.t 36) false),
      (none, .v 5 (.move (.t 37)))])))
    .skip))
  (.seq
  (.region 1 [
    (none, .v 38 (.move (.t 5))),
    (none, .v 39 (.fadr T27 4 (.t 1))),
    (none, .load 40 (.sl (.int .u8)) (.t 39)),
    (none, .app 41 0 (.int .u8) 1 (.t 38) (.t 40) false),
    (none, .v 2 (.move (.t 41))),
    (none, .v 3 (.move (.k (.int .i64 (0)))))])
  .ret)))))
def nt_ether_Encode : Nat := 42
def rs_ether_Encode : List RV := [.tmp 2, .tmp 3]
/-- pontage/pontageref03.Encode -/
abbrev f_r03_Encode : FuncId := 16
def ac_r03_Encode : AC :=
  (.seq
  (.region 0 [
    (none, .boxc 1 T27 (.t 0)),
    (none, .v 2 (.move (.k (.sl (.int .u8) [] .full)))),
    (none, .v 3 (.move (.k (.int .i64 (0)))))])
  (.seq
  (.region 0 [
    (none, .load 10 T27 (.t 1)),
    (none, .callP (some 11) 49 [.t 10] 0 0 true),
    (none, .v 4 (.move (.t 11)))])
  (.seq
  (.seq
  (.region 0 [
    (none, .v 12 (.move (.t 4))),
    (none, .v 13 (.cmp .ne (.t 12) (.k (.int .i64 (0)))))])
  (.cond (.t 13)
    (.seq
    (.region 0 [
      (none, .v 14 (.move (.t 4))),
      (none, .v 2 (.move (.k (.sl (.int .u8) [] .full)))),
      (none, .v 3 (.move (.t 14)))])
    .ret)
    .skip))
  (.seq
  (.region 1 [
    (none, .mk 5 0 (.int .u8) (.k (.sl (.int .u8) [] .full)))])
  (.seq
  (.seq
  (.region 0 [
    (none, .v 6 (.move (.k (.int .i64 (0)))))])
  (.block 0
    (.loop [1, 5, 6]
      (.seq
      (.seq
      (.region 0 [
        (none, .v 15 (.move (.t 6))),
        (none, .v 16 (.cmp .lt (.t 15) (.k (.int .i64 (6)))))])
      (.cond (.t 16)
        .skip
        (.exit 0)))
      (.seq
      (.block 1
        (.region 2 [
          (none, .v 19 (.move (.t 5))),
          (none, .v 20 (.move (.t 6))),
          (none, .v 21 (.fadr T27 0 (.t 1))),
          (none, .v 22 (.iadr (some 6) (.int .u8) (.t 21) (.t 20))),
          (none, .load 23 (.int .u8) (.t 22)),
          (none, .lit 24 0 (.int .u8) 1 [(0, .t 23)] false),
          (none, .app 25 1 (.int .u8) 1 (.t 19) (.t 24) false),
          (none, .v 5 (.move (.t 25)))]))
      (.region 0 [
        (none, .v 17 (.move (.t 6))),
        (none, .v 18 (.add (.t 17) (.k (.int .i64 (1))))),
        (none, .v 6 (.move (.t 18)))]))))))
  (.seq
  (.seq
  (.region 0 [
    (none, .v 7 (.move (.k (.int .i64 (0)))))])
  (.block 2
    (.loop [1, 5, 7]
      (.seq
      (.seq
      (.region 0 [
        (none, .v 26 (.move (.t 7))),
        (none, .v 27 (.cmp .lt (.t 26) (.k (.int .i64 (6)))))])
      (.cond (.t 27)
        .skip
        (.exit 2)))
      (.seq
      (.block 3
        (.region 2 [
          (none, .v 30 (.move (.t 5))),
          (none, .v 31 (.move (.t 7))),
          (none, .v 32 (.fadr T27 1 (.t 1))),
          (none, .v 33 (.iadr (some 6) (.int .u8) (.t 32) (.t 31))),
          (none, .load 34 (.int .u8) (.t 33)),
          (none, .lit 35 0 (.int .u8) 1 [(0, .t 34)] false),
          (none, .app 36 1 (.int .u8) 1 (.t 30) (.t 35) false),
          (none, .v 5 (.move (.t 36)))]))
      (.region 0 [
        (none, .v 28 (.move (.t 7))),
        (none, .v 29 (.add (.t 28) (.k (.int .i64 (1))))),
        (none, .v 7 (.move (.t 29)))]))))))
  (.seq
  (.seq
  (.region 0 [
    (none, .v 37 (.fadr T27 2 (.t 1))),
    (none, .load 38 .bool (.t 37))])
  (.cond (.t 38)
    (.seq
    (.region 1 [
      (none, .v 40 (.fadr T27 3 (.t 1))),
      (none, .load 41 T24 (.t 40)),
      (none, .callP (some 42) 50 [.t 41] 0 1 true),
      (none, .v 39 (.move (.t 42))),
      (none, .v 43 (.ext (.t 39) 0)),
      (none, .v 44 (.ext (.t 39) 1)),
      (none, .v 8 (.move (.t 43))),
      (none, .v 9 (.move (.t 44)))])
    (.region 3 [
      (none, .v 45 (.move (.t 5))),
      (none, .lit 46 0 (.int .u8) 2 [(0, .k (.int .u8 (136))), (1, .k (.int .u8 (168)))] false),
      (none, .app 47 1 (.int .u8) 1 (.t 45) (.t 46) false),
      (none, .v 48 (.move (.t 8))),
      (none, .app 49 2 (.int .u8) 1 (.t 47) (.t 48) false),
      (none, .v 5 (.move (.t 49)))]))
    .skip))
  (.seq
  (.region 1 [
    (none, .v 50 (.move (.t 5))),
    (none, .v 51 (.fadr T27 4 (.t 1))),
    (none, .load 52 (.sl (.int .u8)) (.t 51)),
    (none, .app 53 0 (.int .u8) 1 (.t 50) (.t 52) false),
    (none, .v 2 (.move (.t 53))),
    (none, .v 3 (.move (.k (.int .i64 (0)))))])
  .ret))))))))
def nt_r03_Encode : Nat := 54
def rs_r03_Encode : List RV := [.tmp 2, .tmp 3]
/-- pontage/ether.Check -/
abbrev f_ether_Check : FuncId := 17
def ac_ether_Check : AC :=
  (.seq
  (.region 0 [
    (none, .boxc 1 T27 (.t 0)),
    (none, .v 2 (.move (.k (.int .i64 (0)))))])
  (.seq
  (.region 0 [
    (none, .v 3 (.move (.k (.int .i64 (0)))))])
  (.seq
  .skip
  (.seq
  (.block 0
    (.loop [1, 3]
      (.block 1
        (.block 2
          (.seq
          (.region 0 [
            (none, .v 5 (.fadr T27 4 (.t 1))),
            (none, .load 6 (.sl (.int .u8)) (.t 5)),
            (none, .v 7 (.len false (.t 6))),
            (none, .v 8 (.cmp .gt (.t 7) (.k (.int .i64 (1502))))),
            (none, .v 4 (.move (.t 8)))])
          (.cond (.t 4)
            (.seq
            (.region 0 [
              (none, .v 3 (.move (.k (.int .i64 (2)))))])
            (.exit 0))
            (.seq
            (.region 0 [
              (none, .v 10 (.fadr T27 1 (.t 1))),
              (none, .load 11 T22 (.t 10)),
              (none, .callP (some 12) 51 [.t 11] 0 0 true),
              (none, .v 13 (.cmp .ne (.t 12) (.k (.int .i64 (1))))),
              (none, .v 14 (.move (.t 13))),
              (some (14, false), .v 15 (.fadr T27 0 (.t 1))),
              (some (14, false), .load 16 T22 (.t 15)),
              (some (14, false), .callP (some 17) 51 [.t 16] 0 0 true),
              (some (14, false), .v 18 (.cmp .eq (.t 17) (.k (.int .i64 (6))))),
              (none, .v 19 (.pick (.t 14) (.k (.bool true)) (.t 18))),
              (none, .v 20 (.move (.t 19))),
              (some (20, false), .v 21 (.fadr T27 4 (.t 1))),
              (some (20, false), .load 22 (.sl (.int .u8)) (.t 21)),
              (some (20, false), .v 23 (.len false (.t 22))),
              (some (20, false), .v 24 (.cmp .lt (.t 23) (.k (.int .i64 (2))))),
              (none, .v 25 (.pick (.t 20) (.k (.bool true)) (.t 24))),
              (none, .v 9 (.move (.t 25)))])
            (.cond (.t 9)
              (.seq
              (.region 0 [
                (none, .v 3 (.move (.k (.int .i64 (30)))))])
              (.exit 0))
              (.seq
              (.region 0 [
                (none, .v 27 (.fadr T27 2 (.t 1))),
                (none, .load 28 .bool (.t 27)),
                (none, .v 29 (.move (.t 28))),
                (some (29, true), .v 30 (.fadr T27 3 (.t 1))),
                (some (29, true), .load 31 T24 (.t 30)),
                (some (29, true), .callP (some 32) 52 [.t 31] 0 0 true),
                (some (29, true), .v 33 (.cmp .ne (.t 32) (.k (.int .i64 (0))))),
                (none, .v 34 (.pick (.t 29) (.t 33) (.k (.bool false)))),
                (none, .v 35 (.move (.t 34))),
                (some (35, false), .v 36 (.fadr T27 2 (.t 1))),
                (some (35, false), .load 37 .bool (.t 36)),
                (some (35, false), .v 38 (.not (.t 37))),
                (some (35, false), .v 39 (.move (.t 38))),
                (some (39, true), .v 40 (.fadr T27 3 (.t 1))),
                (some (39, true), .load 41 T24 (.t 40)),
                (some (39, true), .v 42 (.build T24 [])),
                (some (39, true), .v 43 (.eqT T24 true (.t 41) (.t 42))),
                (some (39, true), .v 44 (.move (.t 43))),
                (some (44, false), .v 45 (.fadr T27 4 (.t 1))),
                (some (44, false), .load 46 (.sl (.int .u8)) (.t 45)),
                (some (44, false), .callP (some 47) 53 [.t 46] 0 0 true),
                (some (39, true), .v 48 (.pick (.t 44) (.k (.bool true)) (.t 47))),
                (some (35, false), .v 49 (.pick (.t 39) (.t 48) (.k (.bool false)))),
                (none, .v 50 (.pick (.t 35) (.k (.bool true)) (.t 49))),
                (none, .v 26 (.move (.t 50)))])
              (.cond (.t 26)
                (.seq
                (.region 0 [
                  (none, .v 3 (.move (.k (.int .i64 (30)))))])
                (.exit 0))
                (.exit 0)))))))))))
  (.seq
  (.region 0 [
    (none, .v 51 (.move (.t 3))),
    (none, .v 2 (.move (.t 51)))])
  .ret)))))
def nt_ether_Check : Nat := 52
def rs_ether_Check : List RV := [.tmp 2]
/-- pontage/pontagelaw03.awake -/
abbrev f_l03_awake : FuncId := 18
def ac_l03_awake : AC :=
  (.seq
  (.region 0 [
    (none, .v 0 (.move (.k (.bool false))))])
  (.seq
  (.region 2 [
    (none, .callP (some 10) 54 [] 0 1 true),
    (none, .callP (some 11) 15 [.t 10] 1 1 true),
    (none, .v 9 (.move (.t 11))),
    (none, .v 12 (.ext (.t 9) 0)),
    (none, .v 13 (.ext (.t 9) 1)),
    (none, .v 1 (.move (.t 12))),
    (none, .v 2 (.move (.t 13)))])
  (.seq
  (.region 2 [
    (none, .v 15 (.move (.t 1))),
    (none, .callP (some 16) 20 [.t 15] 0 1 true),
    (none, .v 14 (.move (.t 16))),
    (none, .v 17 (.ext (.t 14) 0)),
    (none, .v 18 (.ext (.t 14) 1)),
    (none, .alloc 3 1 T27),
    (none, .store T27 (.t 3) (.t 17)),
    (none, .v 4 (.move (.t 18)))])
  (.seq
  (.region 2 [
    (none, .callP (some 20) 20 [.k (.sl (.int .u8) [] .full)] 0 1 true),
    (none, .v 19 (.move (.t 20))),
    (none, .v 21 (.ext (.t 19) 0)),
    (none, .v 22 (.ext (.t 19) 1)),
    (none, .alloc 5 1 T27),
    (none, .store T27 (.t 5) (.t 21)),
    (none, .v 6 (.move (.t 22)))])
  (.seq
  (.region 3 [
    (none, .callP (some 24) 54 [] 0 1 true),
    (none, .callP (some 25) 23 [.t 24, .k (.int .i64 (200))] 1 1 true),
    (none, .v 23 (.move (.t 25))),
    (none, .v 26 (.ext (.t 23) 0)),
    (none, .v 27 (.ext (.t 23) 1)),
    (none, .alloc 7 2 T27),
    (none, .store T27 (.t 7) (.t 26)),
    (none, .v 8 (.move (.t 27)))])
  (.seq
  (.draw 1 [[], [], [], [], [], [], [], [], [], [], [], [], [], [], [], [], [], [], [], []] [
    (none, .v 28 (.move (.t 2))),
    (none, .v 29 (.cmp .eq (.t 28) (.k (.int .i64 (0))))),
    (none, .v 30 (.move (.t 29))),
    (some (30, true), .v 31 (.move (.t 1))),
    (some (30, true), .v 32 (.len false (.t 31))),
    (some (30, true), .v 33 (.cmp .eq (.t 32) (.k (.int .i64 (19))))),
    (none, .v 34 (.pick (.t 30) (.t 33) (.k (.bool false)))),
    (none, .v 35 (.move (.t 34))),
    (some (35, true), .v 36 (.move (.t 1))),
    (some (35, true), .v 37 (.slice (.int .u8) (.t 36) (some (.k (.int .i64 (12)))) none none)),
    (some (35, true), .v 38 (.convS true (.t 37))),
    (some (35, true), .v 39 (.eqT .str false (.t 38) (.k (.str ⟨#[136, 168, 96, 100, 8, 0, 69]⟩)))),
    (none, .v 40 (.pick (.t 35) (.t 39) (.k (.bool false)))),
    (none, .v 41 (.move (.t 40))),
    (some (41, true), .v 42 (.move (.t 4))),
    (some (41, true), .v 43 (.cmp .eq (.t 42) (.k (.int .i64 (0))))),
    (none, .v 44 (.pick (.t 41) (.t 43) (.k (.bool false)))),
    (none, .v 45 (.move (.t 44))),
    (some (45, true), .load 46 T27 (.t 3)),
    (some (45, true), .callP (some 47) 54 [] 0 1 false)] [
    (some (45, true), .callP (some 48) 25 [.t 46, .t 47] 1 0 true),
    (none, .v 49 (.pick (.t 45) (.t 48) (.k (.bool false)))),
    (none, .v 50 (.move (.t 49))),
    (some (50, true), .v 51 (.move (.t 6))),
    (some (50, true), .v 52 (.cmp .eq (.t 51) (.k (.int .i64 (6))))),
    (none, .v 53 (.pick (.t 50) (.t 52) (.k (.bool false)))),
    (none, .v 54 (.move (.t 53))),
    (some (54, true), .v 55 (.fadr T27 3 (.t 7))),
    (some (54, true), .v 56 (.fadr T24 2 (.t 55))),
    (some (54, true), .load 57 (.int .i64) (.t 56)),
    (some (54, true), .v 58 (.cmp .eq (.t 57) (.k (.int .i64 (200))))),
    (none, .v 59 (.pick (.t 54) (.t 58) (.k (.bool false)))),
    (none, .v 60 (.move (.t 59))),
    (some (60, true), .v 61 (.move (.t 8))),
    (some (60, true), .v 62 (.cmp .eq (.t 61) (.k (.int .i64 (0))))),
    (none, .v 63 (.pick (.t 60) (.t 62) (.k (.bool false)))),
    (none, .v 64 (.move (.t 63))),
    (some (64, true), .load 65 T27 (.t 3)),
    (some (64, true), .callP (some 66) 26 [.t 65] 1 0 true),
    (some (64, true), .v 67 (.cmp .eq (.t 66) (.k (.int .i64 (2048))))),
    (none, .v 68 (.pick (.t 64) (.t 67) (.k (.bool false)))),
    (none, .v 69 (.move (.t 68))),
    (some (69, true), .v 70 (.build T27 [])),
    (some (69, true), .callP (some 71) 17 [.t 70] 1 0 true),
    (some (69, true), .v 72 (.cmp .eq (.t 71) (.k (.int .i64 (30))))),
    (none, .v 73 (.pick (.t 69) (.t 72) (.k (.bool false)))),
    (none, .v 0 (.move (.t 73)))])
  .ret))))))
def nt_l03_awake : Nat := 74
def rs_l03_awake : List RV := [.tmp 0]
/-- pontage/pontagelaw03.cut -/
abbrev f_l03_cut : FuncId := 19
def ac_l03_cut : AC :=
  (.seq
  (.region 0 [
    (none, .v 2 (.move (.k (.sl (.int .u8) [] .full))))])
  (.seq
  (.region 0 [
    (none, .v 3 (.move (.t 0))),
    (none, .v 4 (.move (.t 0))),
    (none, .v 5 (.len false (.t 4))),
    (none, .v 6 (.min (.t 5) (.k (.int .i64 (1700))))),
    (none, .v 7 (.slice (.int .u8) (.t 3) none (some (.t 6)) none)),
    (none, .v 2 (.move (.t 7)))])
  .ret))
def nt_l03_cut : Nat := 8
def rs_l03_cut : List RV := [.tmp 2]
/-- pontage/ether.Decode -/
abbrev f_ether_Decode : FuncId := 20
def ac_ether_Decode : AC :=
  (.seq
  (.region 1 [
    (none, .alloc 2 0 T27),
    (none, .v 3 (.move (.k (.int .i64 (0)))))])
  (.seq
  (.seq
  (.region 0 [
    (none, .v 9 (.move (.t 0))),
    (none, .v 10 (.len false (.t 9))),
    (none, .v 11 (.cmp .lt (.t 10) (.k (.int .i64 (14)))))])
  (.cond (.t 11)
    (.seq
    (.region 0 [
      (none, .v 12 (.build T27 [])),
      (none, .store T27 (.t 2) (.t 12)),
      (none, .v 3 (.move (.k (.int .i64 (6)))))])
    .ret)
    .skip))
  (.seq
  (.draw 1 [[], [], [], [], [], [], [], [], [], []] [
    (none, .v 13 (.move (.t 0))),
    (none, .v 14 (.slice (.int .u8) (.t 13) none (some (.k (.int .i64 (6)))) (some (.k (.int .i64 (6)))))),
    (none, .v 15 (.sarr 6 (.int .u8) (.t 14))),
    (none, .load 16 T22 (.t 15)),
    (none, .v 17 (.move (.t 0))),
    (none, .v 18 (.slice (.int .u8) (.t 17) (some (.k (.int .i64 (6)))) (some (.k (.int .i64 (12)))) (some (.k (.int .i64 (12)))))),
    (none, .v 19 (.sarr 6 (.int .u8) (.t 18))),
    (none, .load 20 T22 (.t 19)),
    (none, .v 21 (.build T27 [(0, .t 16), (1, .t 20)])),
    (none, .alloc 4 0 T27)] [
    (none, .store T27 (.t 4) (.t 21))])
  (.seq
  (.region 0 [
    (none, .v 22 (.move (.t 0))),
    (none, .v 23 (.move (.t 0))),
    (none, .v 24 (.len false (.t 23))),
    (none, .v 25 (.move (.t 0))),
    (none, .v 26 (.len false (.t 25))),
    (none, .v 27 (.slice (.int .u8) (.t 22) (some (.k (.int .i64 (12)))) (some (.t 24)) (some (.t 26)))),
    (none, .v 5 (.move (.t 27)))])
  (.seq
  (.region 0 [
    (none, .v 28 (.move (.t 5))),
    (none, .callP (some 29) 53 [.t 28] 0 0 true),
    (none, .v 30 (.fadr T27 2 (.t 4))),
    (none, .store .bool (.t 30) (.t 29))])
  (.seq
  (.seq
  (.region 0 [
    (none, .v 31 (.fadr T27 2 (.t 4))),
    (none, .load 32 .bool (.t 31))])
  (.cond (.t 32)
    (.seq
    (.seq
    (.region 0 [
      (none, .v 33 (.move (.t 5))),
      (none, .v 34 (.len false (.t 33))),
      (none, .v 35 (.cmp .lt (.t 34) (.k (.int .i64 (6)))))])
    (.cond (.t 35)
      (.seq
      (.region 0 [
        (none, .v 36 (.build T27 [])),
        (none, .store T27 (.t 2) (.t 36)),
        (none, .v 3 (.move (.k (.int .i64 (6)))))])
      .ret)
      .skip))
    (.region 0 [
      (none, .v 37 (.move (.t 5))),
      (none, .v 38 (.slice (.int .u8) (.t 37) (some (.k (.int .i64 (4)))) none none)),
      (none, .v 5 (.move (.t 38)))]))
    .skip))
  (.seq
  (.seq
  (.region 0 [
    (none, .v 39 (.move (.t 5))),
    (none, .v 40 (.len false (.t 39))),
    (none, .v 41 (.cmp .gt (.t 40) (.k (.int .i64 (1502)))))])
  (.cond (.t 41)
    (.seq
    (.region 0 [
      (none, .v 42 (.build T27 [])),
      (none, .store T27 (.t 2) (.t 42)),
      (none, .v 3 (.move (.k (.int .i64 (2)))))])
    .ret)
    .skip))
  (.seq
  (.seq
  (.region 0 [
    (none, .v 43 (.fadr T27 2 (.t 4))),
    (none, .load 44 .bool (.t 43))])
  (.cond (.t 44)
    (.seq
    (.region 2 [
      (none, .v 46 (.move (.t 0))),
      (none, .v 47 (.slice (.int .u8) (.t 46) (some (.k (.int .i64 (14)))) none none)),
      (none, .callP (some 48) 55 [.t 47] 0 1 true),
      (none, .v 45 (.move (.t 48))),
      (none, .v 49 (.ext (.t 45) 0)),
      (none, .v 50 (.ext (.t 45) 1)),
      (none, .v 51 (.ext (.t 45) 2)),
      (none, .alloc 6 1 T24),
      (none, .store T24 (.t 6) (.t 49)),
      (none, .v 7 (.move (.t 50))),
      (none, .v 8 (.move (.t 51)))])
    (.seq
    (.seq
    (.region 0 [
      (none, .v 52 (.move (.t 8))),
      (none, .v 53 (.cmp .ne (.t 52) (.k (.int .i64 (0)))))])
    (.cond (.t 53)
      (.seq
      (.region 0 [
        (none, .v 54 (.build T27 [])),
        (none, .store T27 (.t 2) (.t 54)),
        (none, .v 3 (.move (.k (.int .i64 (30)))))])
      .ret)
      .skip))
    (.region 0 [
      (none, .load 55 T24 (.t 6)),
      (none, .v 56 (.fadr T27 3 (.t 4))),
      (none, .store T24 (.t 56) (.t 55))])))
    .skip))
  (.seq
  (.region 1 [
    (none, .v 57 (.move (.t 5))),
    (none, .callP (some 58) 56 [.t 57] 0 1 true),
    (none, .v 59 (.fadr T27 4 (.t 4))),
    (none, .store (.sl (.int .u8)) (.t 59) (.t 58))])
  (.seq
  (.seq
  (.region 0 [
    (none, .load 60 T27 (.t 4)),
    (none, .callP (some 61) 17 [.t 60] 0 0 true),
    (none, .v 62 (.cmp .ne (.t 61) (.k (.int .i64 (0)))))])
  (.cond (.t 62)
    (.seq
    (.region 0 [
      (none, .v 63 (.build T27 [])),
      (none, .store T27 (.t 2) (.t 63)),
      (none, .v 3 (.move (.k (.int .i64 (30)))))])
    .ret)
    .skip))
  (.seq
  (.region 0 [
    (none, .load 64 T27 (.t 4)),
    (none, .store T27 (.t 2) (.t 64)),
    (none, .v 3 (.move (.k (.int .i64 (0)))))])
  .ret)))))))))))
def nt_ether_Decode : Nat := 65
def rs_ether_Decode : List RV := [.cell 2 T27, .tmp 3]
/-- pontage/pontageref03.Same -/
abbrev f_r03_Same : FuncId := 22
def ac_r03_Same : AC :=
  (.seq
  (.region 0 [
    (none, .boxc 2 T27 (.t 0)),
    (none, .boxc 3 T27 (.t 1)),
    (none, .v 4 (.move (.k (.bool false))))])
  (.seq
  (.region 0 [
    (none, .v 5 (.fadr T27 0 (.t 2))),
    (none, .load 6 T22 (.t 5)),
    (none, .v 7 (.fadr T27 0 (.t 3))),
    (none, .load 8 T22 (.t 7)),
    (none, .v 9 (.eqT T22 false (.t 6) (.t 8))),
    (none, .v 10 (.move (.t 9))),
    (some (10, true), .v 11 (.fadr T27 1 (.t 2))),
    (some (10, true), .load 12 T22 (.t 11)),
    (some (10, true), .v 13 (.fadr T27 1 (.t 3))),
    (some (10, true), .load 14 T22 (.t 13)),
    (some (10, true), .v 15 (.eqT T22 false (.t 12) (.t 14))),
    (none, .v 16 (.pick (.t 10) (.t 15) (.k (.bool false)))),
    (none, .v 17 (.move (.t 16))),
    (some (17, true), .v 18 (.fadr T27 2 (.t 2))),
    (some (17, true), .load 19 .bool (.t 18)),
    (some (17, true), .v 20 (.fadr T27 2 (.t 3))),
    (some (17, true), .load 21 .bool (.t 20)),
    (some (17, true), .v 22 (.eqT .bool false (.t 19) (.t 21))),
    (none, .v 23 (.pick (.t 17) (.t 22) (.k (.bool false)))),
    (none, .v 24 (.move (.t 23))),
    (some (24, true), .v 25 (.fadr T27 3 (.t 2))),
    (some (24, true), .load 26 T24 (.t 25)),
    (some (24, true), .v 27 (.fadr T27 3 (.t 3))),
    (some (24, true), .load 28 T24 (.t 27)),
    (some (24, true), .v 29 (.eqT T24 false (.t 26) (.t 28))),
    (none, .v 30 (.pick (.t 24) (.t 29) (.k (.bool false)))),
    (none, .v 31 (.move (.t 30))),
    (some (31, true), .v 32 (.fadr T27 4 (.t 2))),
    (some (31, true), .load 33 (.sl (.int .u8)) (.t 32)),
    (some (31, true), .v 34 (.convS true (.t 33))),
    (some (31, true), .v 35 (.fadr T27 4 (.t 3))),
    (some (31, true), .load 36 (.sl (.int .u8)) (.t 35)),
    (some (31, true), .v 37 (.convS true (.t 36))),
    (some (31, true), .v 38 (.eqT .str false (.t 34) (.t 37))),
    (none, .v 39 (.pick (.t 31) (.t 38) (.k (.bool false)))),
    (none, .v 4 (.move (.t 39)))])
  .ret))
def nt_r03_Same : Nat := 40
def rs_r03_Same : List RV := [.tmp 4]
/-- pontage/ether.Retag -/
abbrev f_ether_Retag : FuncId := 23
def ac_ether_Retag : AC :=
  (.seq
  (.region 2 [
    (none, .box 2 0 T27 (.t 0)),
    (none, .alloc 4 1 T27),
    (none, .v 5 (.move (.k (.int .i64 (0)))))])
  (.seq
  (.seq
  (.region 0 [
    (none, .load 9 T27 (.t 2)),
    (none, .callP (some 10) 17 [.t 9] 0 0 true),
    (none, .v 6 (.move (.t 10)))])
  (.seq
  (.region 0 [
    (none, .v 11 (.move (.t 6))),
    (none, .v 12 (.cmp .ne (.t 11) (.k (.int .i64 (0)))))])
  (.cond (.t 12)
    (.seq
    (.region 0 [
      (none, .v 13 (.build T27 [])),
      (none, .v 14 (.move (.t 6))),
      (none, .store T27 (.t 4) (.t 13)),
      (none, .v 5 (.move (.t 14)))])
    .ret)
    .skip)))
  (.seq
  (.seq
  (.region 0 [
    (none, .v 15 (.fadr T27 2 (.t 2))),
    (none, .load 16 .bool (.t 15)),
    (none, .v 17 (.not (.t 16)))])
  (.cond (.t 17)
    (.seq
    (.region 0 [
      (none, .v 18 (.build T27 [])),
      (none, .store T27 (.t 4) (.t 18)),
      (none, .v 5 (.move (.k (.int .i64 (30)))))])
    .ret)
    .skip))
  (.seq
  (.region 1 [
    (none, .v 20 (.fadr T27 3 (.t 2))),
    (none, .load 21 T24 (.t 20)),
    (none, .v 22 (.move (.t 1))),
    (none, .callP (some 23) 59 [.t 21, .t 22] 0 0 true),
    (none, .v 19 (.move (.t 23))),
    (none, .v 24 (.ext (.t 19) 0)),
    (none, .v 25 (.ext (.t 19) 1)),
    (none, .alloc 7 0 T24),
    (none, .store T24 (.t 7) (.t 24)),
    (none, .v 8 (.move (.t 25)))])
  (.seq
  (.seq
  (.region 0 [
    (none, .v 26 (.move (.t 8))),
    (none, .v 27 (.cmp .ne (.t 26) (.k (.int .i64 (0)))))])
  (.cond (.t 27)
    (.seq
    (.region 0 [
      (none, .v 28 (.build T27 [])),
      (none, .store T27 (.t 4) (.t 28)),
      (none, .v 5 (.move (.k (.int .i64 (1)))))])
    .ret)
    .skip))
  (.seq
  (.draw 1 [[], [], [], [2], []] [
    (none, .load 29 T24 (.t 7)),
    (none, .v 30 (.fadr T27 4 (.t 2))),
    (none, .load 31 (.sl (.int .u8)) (.t 30)),
    (none, .callP (some 32) 56 [.t 31] 0 1 false),
    (none, .v 33 (.fadr T27 3 (.t 2)))] [
    (none, .store T24 (.t 33) (.t 29)),
    (none, .v 34 (.fadr T27 4 (.t 2))),
    (none, .store (.sl (.int .u8)) (.t 34) (.t 32))])
  (.seq
  (.region 0 [
    (none, .load 35 T27 (.t 2)),
    (none, .store T27 (.t 4) (.t 35)),
    (none, .v 5 (.move (.k (.int .i64 (0)))))])
  .ret)))))))
def nt_ether_Retag : Nat := 36
def rs_ether_Retag : List RV := [.cell 4 T27, .tmp 5]
/-- pontage/pontageref03.Retag -/
abbrev f_r03_Retag : FuncId := 24
def ac_r03_Retag : AC :=
  (.seq
  (.region 2 [
    (none, .box 2 0 T27 (.t 0)),
    (none, .alloc 4 1 T27),
    (none, .v 5 (.move (.k (.int .i64 (0)))))])
  (.seq
  (.region 0 [
    (none, .load 7 T27 (.t 2)),
    (none, .callP (some 8) 49 [.t 7] 0 0 true),
    (none, .v 6 (.move (.t 8)))])
  (.seq
  (.block 0
    (.seq
    (.region 0 [
      (none, .v 10 (.move (.t 6))),
      (none, .v 11 (.cmp .ne (.t 10) (.k (.int .i64 (0))))),
      (none, .v 9 (.move (.t 11)))])
    (.cond (.t 9)
      (.seq
      (.region 0 [
        (none, .v 12 (.build T27 [])),
        (none, .v 13 (.move (.t 6))),
        (none, .store T27 (.t 4) (.t 12)),
        (none, .v 5 (.move (.t 13)))])
      .ret)
      (.seq
      (.region 0 [
        (none, .v 15 (.fadr T27 2 (.t 2))),
        (none, .load 16 .bool (.t 15)),
        (none, .v 17 (.not (.t 16))),
        (none, .v 14 (.move (.t 17)))])
      (.cond (.t 14)
        (.seq
        (.region 0 [
          (none, .v 18 (.build T27 [])),
          (none, .store T27 (.t 4) (.t 18)),
          (none, .v 5 (.move (.k (.int .i64 (30)))))])
        .ret)
        (.seq
        (.region 0 [
          (none, .v 20 (.move (.t 1))),
          (none, .v 21 (.cmp .lt (.t 20) (.k (.int .i64 (1))))),
          (none, .v 22 (.move (.t 21))),
          (some (22, false), .v 23 (.move (.t 1))),
          (some (22, false), .v 24 (.cmp .gt (.t 23) (.k (.int .i64 (4094))))),
          (none, .v 25 (.pick (.t 22) (.k (.bool true)) (.t 24))),
          (none, .v 19 (.move (.t 25)))])
        (.cond (.t 19)
          (.seq
          (.region 0 [
            (none, .v 26 (.build T27 [])),
            (none, .store T27 (.t 4) (.t 26)),
            (none, .v 5 (.move (.k (.int .i64 (1)))))])
          .ret)
          .skip)))))))
  (.seq
  (.region 0 [
    (none, .v 27 (.move (.t 1))),
    (none, .v 28 (.fadr T27 3 (.t 2))),
    (none, .v 29 (.fadr T24 2 (.t 28))),
    (none, .store (.int .i64) (.t 29) (.t 27))])
  (.seq
  (.region 0 [
    (none, .load 30 T27 (.t 2)),
    (none, .store T27 (.t 4) (.t 30)),
    (none, .v 5 (.move (.k (.int .i64 (0)))))])
  .ret)))))
def nt_r03_Retag : Nat := 31
def rs_r03_Retag : List RV := [.cell 4 T27, .tmp 5]
/-- pontage/ether.Same -/
abbrev f_ether_Same : FuncId := 25
def ac_ether_Same : AC :=
  (.seq
  (.region 0 [
    (none, .boxc 2 T27 (.t 0)),
    (none, .boxc 3 T27 (.t 1)),
    (none, .v 4 (.move (.k (.bool false))))])
  (.seq
  (.region 0 [
    (none, .v 5 (.fadr T27 0 (.t 2))),
    (none, .load 6 T22 (.t 5)),
    (none, .v 7 (.fadr T27 0 (.t 3))),
    (none, .load 8 T22 (.t 7)),
    (none, .v 9 (.eqT T22 false (.t 6) (.t 8))),
    (none, .v 10 (.move (.t 9))),
    (some (10, true), .v 11 (.fadr T27 1 (.t 2))),
    (some (10, true), .load 12 T22 (.t 11)),
    (some (10, true), .v 13 (.fadr T27 1 (.t 3))),
    (some (10, true), .load 14 T22 (.t 13)),
    (some (10, true), .v 15 (.eqT T22 false (.t 12) (.t 14))),
    (none, .v 16 (.pick (.t 10) (.t 15) (.k (.bool false)))),
    (none, .v 17 (.move (.t 16))),
    (some (17, true), .v 18 (.fadr T27 2 (.t 2))),
    (some (17, true), .load 19 .bool (.t 18)),
    (some (17, true), .v 20 (.fadr T27 2 (.t 3))),
    (some (17, true), .load 21 .bool (.t 20)),
    (some (17, true), .v 22 (.eqT .bool false (.t 19) (.t 21))),
    (none, .v 23 (.pick (.t 17) (.t 22) (.k (.bool false)))),
    (none, .v 24 (.move (.t 23))),
    (some (24, true), .v 25 (.fadr T27 3 (.t 2))),
    (some (24, true), .load 26 T24 (.t 25)),
    (some (24, true), .v 27 (.fadr T27 3 (.t 3))),
    (some (24, true), .load 28 T24 (.t 27)),
    (some (24, true), .v 29 (.eqT T24 false (.t 26) (.t 28))),
    (none, .v 30 (.pick (.t 24) (.t 29) (.k (.bool false)))),
    (none, .v 31 (.move (.t 30))),
    (some (31, true), .v 32 (.fadr T27 4 (.t 2))),
    (some (31, true), .load 33 (.sl (.int .u8)) (.t 32)),
    (some (31, true), .v 34 (.fadr T27 4 (.t 3))),
    (some (31, true), .load 35 (.sl (.int .u8)) (.t 34)),
    (some (31, true), .callP (some 36) 60 [.t 33, .t 35] 0 0 true),
    (none, .v 37 (.pick (.t 31) (.t 36) (.k (.bool false)))),
    (none, .v 4 (.move (.t 37)))])
  .ret))
def nt_ether_Same : Nat := 38
def rs_ether_Same : List RV := [.tmp 4]
/-- pontage/ether.Type -/
abbrev f_ether_Type : FuncId := 26
def ac_ether_Type : AC :=
  (.seq
  (.region 0 [
    (none, .boxc 1 T27 (.t 0)),
    (none, .v 2 (.move (.k (.int .i64 (0)))))])
  (.seq
  (.region 1 [
    (none, .v 7 (.fadr T27 4 (.t 1))),
    (none, .load 8 (.sl (.int .u8)) (.t 7)),
    (none, .callP (some 9) 61 [.t 8] 0 1 true),
    (none, .v 6 (.move (.t 9))),
    (none, .v 10 (.ext (.t 6) 0)),
    (none, .v 11 (.ext (.t 6) 1)),
    (none, .v 12 (.ext (.t 6) 2)),
    (none, .v 3 (.move (.t 10))),
    (none, .v 4 (.move (.t 11))),
    (none, .v 5 (.move (.t 12)))])
  (.seq
  (.region 0 [
    (none, .v 13 (.move (.t 3))),
    (none, .v 2 (.move (.t 13)))])
  .ret)))
def nt_ether_Type : Nat := 14
def rs_ether_Type : List RV := [.tmp 2]
/-- pontage/pontageref03.Type -/
abbrev f_r03_Type : FuncId := 27
def ac_r03_Type : AC :=
  (.seq
  (.region 0 [
    (none, .boxc 1 T27 (.t 0)),
    (none, .v 2 (.move (.k (.int .i64 (0)))))])
  (.seq
  (.seq
  (.region 0 [
    (none, .v 3 (.fadr T27 4 (.t 1))),
    (none, .load 4 (.sl (.int .u8)) (.t 3)),
    (none, .v 5 (.len false (.t 4))),
    (none, .v 6 (.cmp .lt (.t 5) (.k (.int .i64 (2)))))])
  (.cond (.t 6)
    (.seq
    (.region 0 [
      (none, .v 2 (.move (.k (.int .i64 (0)))))])
    .ret)
    .skip))
  (.seq
  (.draw 0 [[], [], [], [], [], [], [], [], [], [], []] [
    (none, .v 7 (.fadr T27 4 (.t 1))),
    (none, .load 8 (.sl (.int .u8)) (.t 7)),
    (none, .v 9 (.iadr none (.int .u8) (.t 8) (.k (.int .i64 (0))))),
    (none, .load 10 (.int .u8) (.t 9)),
    (none, .v 11 (.conv .i64 (.t 10))),
    (none, .v 12 (.mul (.k (.int .i64 (256))) (.t 11))),
    (none, .v 13 (.fadr T27 4 (.t 1))),
    (none, .load 14 (.sl (.int .u8)) (.t 13)),
    (none, .v 15 (.iadr none (.int .u8) (.t 14) (.k (.int .i64 (1))))),
    (none, .load 16 (.int .u8) (.t 15)),
    (none, .v 17 (.conv .i64 (.t 16)))] [
    (none, .v 18 (.add (.t 12) (.t 17))),
    (none, .v 2 (.move (.t 18)))])
  .ret)))
def nt_r03_Type : Nat := 19
def rs_r03_Type : List RV := [.tmp 2]
/-- slices.Concat[[]byte,byte] -/
abbrev f_slices_Concat_u8 : FuncId := 46
def ac_slices_Concat_u8 : AC :=
  (.seq
  (.region 0 [
    (none, .v 2 (.move (.k (.sl (.int .u8) [] .full))))])
  (.seq
  (.region 0 [
    (none, .v 3 (.move (.k (.int .i64 (0)))))])
  (.seq
  (.seq
  (.region 0 [
    (none, .v 9 (.move (.t 0))),
    (none, .v 10 (.len false (.t 9))),
    (none, .v 11 (.move (.k (.int .i64 (0)))))])
  (.block 0
    (.loop [0, 3, 9, 10, 11]
      (.seq
      (.region 0 [
        (none, .v 12 (.cmp .lt (.t 11) (.t 10)))])
      (.seq
      (.cond (.t 12)
        .skip
        (.exit 0))
      (.seq
      (.block 1
        (.seq
        (.region 0 [
          (none, .v 13 (.iadr none (.sl (.int .u8)) (.t 9) (.t 11))),
          (none, .load 14 (.sl (.int .u8)) (.t 13)),
          (none, .v 5 (.move (.t 14)))])
        (.seq
        (.region 0 [
          (none, .v 15 (.move (.t 3))),
          (none, .v 16 (.move (.t 5))),
          (none, .v 17 (.len false (.t 16))),
          (none, .v 18 (.add (.t 15) (.t 17))),
          (none, .v 3 (.move (.t 18)))])
        (.seq
        (.region 0 [
          (none, .v 19 (.move (.t 3))),
          (none, .v 20 (.cmp .lt (.t 19) (.k (.int .i64 (0)))))])
        (.cond (.t 20)
          (.region 0 [
            (none, .stop (some 21)),
            (none, .stop none)])
          .skip)))))
      (.region 0 [
        (none, .v 22 (.add (.t 11) (.k (.int .i64 (1))))),
        (none, .v 11 (.move (.t 22)))])))))))
  (.seq
  (.region 2 [
    (none, .v 23 (.move (.t 3))),
    (none, .callP (some 24) 74 [.k (.sl (.int .u8) [] .full), .t 23] 0 1 true),
    (none, .mk 6 1 (.int .u8) (.t 24))])
  (.seq
  (.seq
  (.region 0 [
    (none, .v 25 (.move (.t 0))),
    (none, .v 26 (.len false (.t 25))),
    (none, .v 27 (.move (.k (.int .i64 (0)))))])
  (.block 2
    (.loop [6, 25, 26, 27]
      (.seq
      (.region 0 [
        (none, .v 28 (.cmp .lt (.t 27) (.t 26)))])
      (.seq
      (.cond (.t 28)
        .skip
        (.exit 2))
      (.seq
      (.block 3
        (.seq
        (.region 0 [
          (none, .v 29 (.iadr none (.sl (.int .u8)) (.t 25) (.t 27))),
          (none, .load 30 (.sl (.int .u8)) (.t 29)),
          (none, .v 8 (.move (.t 30)))])
        (.region 1 [
          (none, .v 31 (.move (.t 6))),
          (none, .v 32 (.move (.t 8))),
          (none, .app 33 0 (.int .u8) 1 (.t 31) (.t 32) false),
          (none, .v 6 (.move (.t 33)))])))
      (.region 0 [
        (none, .v 34 (.add (.t 27) (.k (.int .i64 (1))))),
        (none, .v 27 (.move (.t 34)))])))))))
  (.seq
  (.region 0 [
    (none, .v 35 (.move (.t 6))),
    (none, .v 2 (.move (.t 35)))])
  .ret))))))
def nt_slices_Concat_u8 : Nat := 36
def rs_slices_Concat_u8 : List RV := [.tmp 2]
/-- pontage/tag.Put -/
abbrev f_tag_Put : FuncId := 47
def ac_tag_Put : AC :=
  (.seq
  (.region 0 [
    (none, .boxc 1 T24 (.t 0)),
    (none, .v 2 (.move (.k (.sl (.int .u8) [] .full)))),
    (none, .v 3 (.move (.k (.int .i64 (0)))))])
  (.seq
  (.seq
  (.region 0 [
    (none, .load 5 T24 (.t 1)),
    (none, .callP (some 6) 52 [.t 5] 0 0 true),
    (none, .v 4 (.move (.t 6)))])
  (.seq
  (.region 0 [
    (none, .v 7 (.move (.t 4))),
    (none, .v 8 (.cmp .ne (.t 7) (.k (.int .i64 (0)))))])
  (.cond (.t 8)
    (.seq
    (.region 0 [
      (none, .v 9 (.move (.t 4))),
      (none, .v 2 (.move (.k (.sl (.int .u8) [] .full)))),
      (none, .v 3 (.move (.t 9)))])
    .ret)
    .skip)))
  (.seq
  (.draw 1 [[], [], [], [], [], [], [5], [], [], [], []] [
    (none, .v 10 (.fadr T24 0 (.t 1))),
    (none, .load 11 (.int .i64) (.t 10)),
    (none, .v 12 (.conv .u32 (.t 11))),
    (none, .v 13 (.shl (.t 12) (.k (.int .u64 (13))))),
    (none, .v 14 (.fadr T24 1 (.t 1))),
    (none, .load 15 .bool (.t 14)),
    (none, .callP (some 16) 76 [.t 15, .k (.int .u64 (12))] 0 0 false),
    (none, .v 17 (.bit .or (.t 13) (.t 16))),
    (none, .v 18 (.fadr T24 2 (.t 1))),
    (none, .load 19 (.int .i64) (.t 18)),
    (none, .v 20 (.conv .u32 (.t 19)))] [
    (none, .v 21 (.bit .or (.t 17) (.t 20))),
    (none, .callP (some 22) 75 [.t 21, .k (.int .i64 (2))] 0 1 true),
    (none, .v 2 (.move (.t 22))),
    (none, .v 3 (.move (.k (.int .i64 (0)))))])
  .ret)))
def nt_tag_Put : Nat := 23
def rs_tag_Put : List RV := [.tmp 2, .tmp 3]
/-- pontage/tag.PutType -/
abbrev f_tag_PutType : FuncId := 48
def ac_tag_PutType : AC :=
  (.seq
  (.region 0 [
    (none, .v 4 (.move (.k (.sl (.int .u8) [] .full)))),
    (none, .v 5 (.move (.k (.int .i64 (0)))))])
  (.seq
  (.seq
  (.region 0 [
    (none, .v 6 (.move (.t 0))),
    (none, .callP (some 7) 77 [.t 6, .k (.int .i64 (0)), .k (.int .i64 (65535))] 0 0 true),
    (none, .v 8 (.not (.t 7)))])
  (.cond (.t 8)
    (.seq
    (.region 0 [
      (none, .v 4 (.move (.k (.sl (.int .u8) [] .full)))),
      (none, .v 5 (.move (.k (.int .i64 (1)))))])
    .ret)
    .skip))
  (.seq
  (.region 3 [
    (none, .v 9 (.move (.t 0))),
    (none, .v 10 (.conv .u32 (.t 9))),
    (none, .callP (some 11) 75 [.t 10, .k (.int .i64 (2))] 0 1 true),
    (none, .v 12 (.move (.t 1))),
    (none, .callP (some 13) 46 [.t 12] 1 1 true),
    (none, .app 14 2 (.int .u8) 1 (.t 11) (.t 13) false),
    (none, .v 4 (.move (.t 14))),
    (none, .v 5 (.move (.k (.int .i64 (0)))))])
  .ret)))
def nt_tag_PutType : Nat := 15
def rs_tag_PutType : List RV := [.tmp 4, .tmp 5]
/-- pontage/pontageref03.Check -/
abbrev f_r03_Check : FuncId := 49
def ac_r03_Check : AC :=
  (.seq
  (.region 0 [
    (none, .boxc 1 T27 (.t 0)),
    (none, .v 2 (.move (.k (.int .i64 (0)))))])
  (.seq
  (.seq
  (.region 0 [
    (none, .v 3 (.fadr T27 4 (.t 1))),
    (none, .load 4 (.sl (.int .u8)) (.t 3)),
    (none, .v 5 (.len false (.t 4))),
    (none, .v 6 (.cmp .gt (.t 5) (.k (.int .i64 (1502)))))])
  (.cond (.t 6)
    (.seq
    (.region 0 [
      (none, .v 2 (.move (.k (.int .i64 (2)))))])
    .ret)
    .skip))
  (.seq
  (.seq
  (.region 0 [
    (none, .v 7 (.fadr T27 1 (.t 1))),
    (none, .load 8 T22 (.t 7)),
    (none, .callP (some 9) 65 [.t 8] 0 0 true),
    (none, .v 10 (.cmp .ne (.t 9) (.k (.int .i64 (1))))),
    (none, .v 11 (.move (.t 10))),
    (some (11, false), .v 12 (.fadr T27 0 (.t 1))),
    (some (11, false), .load 13 T22 (.t 12)),
    (some (11, false), .callP (some 14) 65 [.t 13] 0 0 true),
    (some (11, false), .v 15 (.cmp .eq (.t 14) (.k (.int .i64 (6))))),
    (none, .v 16 (.pick (.t 11) (.k (.bool true)) (.t 15))),
    (none, .v 17 (.move (.t 16))),
    (some (17, false), .v 18 (.fadr T27 4 (.t 1))),
    (some (17, false), .load 19 (.sl (.int .u8)) (.t 18)),
    (some (17, false), .v 20 (.len false (.t 19))),
    (some (17, false), .v 21 (.cmp .lt (.t 20) (.k (.int .i64 (2))))),
    (none, .v 22 (.pick (.t 17) (.k (.bool true)) (.t 21)))])
  (.cond (.t 22)
    (.seq
    (.region 0 [
      (none, .v 2 (.move (.k (.int .i64 (30)))))])
    .ret)
    .skip))
  (.seq
  (.seq
  (.region 0 [
    (none, .v 23 (.fadr T27 2 (.t 1))),
    (none, .load 24 .bool (.t 23)),
    (none, .v 25 (.move (.t 24))),
    (some (25, true), .v 26 (.fadr T27 3 (.t 1))),
    (some (25, true), .load 27 T24 (.t 26)),
    (some (25, true), .callP (some 28) 78 [.t 27] 0 0 true),
    (some (25, true), .v 29 (.cmp .ne (.t 28) (.k (.int .i64 (0))))),
    (none, .v 30 (.pick (.t 25) (.t 29) (.k (.bool false)))),
    (none, .v 31 (.move (.t 30))),
    (some (31, false), .v 32 (.fadr T27 2 (.t 1))),
    (some (31, false), .load 33 .bool (.t 32)),
    (some (31, false), .v 34 (.not (.t 33))),
    (some (31, false), .v 35 (.move (.t 34))),
    (some (35, true), .v 36 (.fadr T27 3 (.t 1))),
    (some (35, true), .load 37 T24 (.t 36)),
    (some (35, true), .v 38 (.build T24 [])),
    (some (35, true), .v 39 (.eqT T24 true (.t 37) (.t 38))),
    (some (35, true), .v 40 (.move (.t 39))),
    (some (40, false), .v 41 (.fadr T27 4 (.t 1))),
    (some (40, false), .load 42 (.sl (.int .u8)) (.t 41)),
    (some (40, false), .callP (some 43) 57 [.t 42] 0 0 true),
    (some (35, true), .v 44 (.pick (.t 40) (.k (.bool true)) (.t 43))),
    (some (31, false), .v 45 (.pick (.t 35) (.t 44) (.k (.bool false)))),
    (none, .v 46 (.pick (.t 31) (.k (.bool true)) (.t 45)))])
  (.cond (.t 46)
    (.seq
    (.region 0 [
      (none, .v 2 (.move (.k (.int .i64 (30)))))])
    .ret)
    .skip))
  (.seq
  (.region 0 [
    (none, .v 2 (.move (.k (.int .i64 (0)))))])
  .ret)))))
def nt_r03_Check : Nat := 47
def rs_r03_Check : List RV := [.tmp 2]
/-- pontage/pontageref02.Put -/
abbrev f_r02_Put : FuncId := 50
def ac_r02_Put : AC :=
  (.seq
  (.region 0 [
    (none, .boxc 1 T24 (.t 0)),
    (none, .v 2 (.move (.k (.sl (.int .u8) [] .full)))),
    (none, .v 3 (.move (.k (.int .i64 (0)))))])
  (.seq
  (.seq
  (.region 0 [
    (none, .load 4 T24 (.t 1)),
    (none, .callP (some 5) 66 [.t 4] 0 0 true),
    (none, .v 6 (.not (.t 5)))])
  (.cond (.t 6)
    (.seq
    (.region 0 [
      (none, .v 2 (.move (.k (.sl (.int .u8) [] .full)))),
      (none, .v 3 (.move (.k (.int .i64 (20)))))])
    .ret)
    .skip))
  (.seq
  (.region 1 [
    (none, .load 7 T24 (.t 1)),
    (none, .callP (some 8) 79 [.t 7] 0 1 true),
    (none, .v 2 (.move (.t 8))),
    (none, .v 3 (.move (.k (.int .i64 (0)))))])
  .ret)))
def nt_r02_Put : Nat := 9
def rs_r02_Put : List RV := [.tmp 2, .tmp 3]
/-- pontage/mac.Kind -/
abbrev f_mac_Kind : FuncId := 51
def ac_mac_Kind : AC :=
  (.seq
  (.region 0 [
    (none, .boxc 1 T22 (.t 0)),
    (none, .v 2 (.move (.k (.int .i64 (0)))))])
  (.block 0
    (.seq
    (.region 0 [
      (none, .load 4 T22 (.t 1)),
      (none, .v 5 (.build T22 [])),
      (none, .v 6 (.eqT T22 false (.t 4) (.t 5))),
      (none, .v 3 (.move (.t 6)))])
    (.cond (.t 3)
      (.seq
      (.region 0 [
        (none, .v 2 (.move (.k (.int .i64 (6)))))])
      .ret)
      (.seq
      (.region 0 [
        (none, .load 8 T22 (.t 1)),
        (none, .v 9 (.build T22 [(0, .k (.int .u8 (255))), (1, .k (.int .u8 (255))), (2, .k (.int .u8 (255))), (3, .k (.int .u8 (255))), (4, .k (.int .u8 (255))), (5, .k (.int .u8 (255)))])),
        (none, .v 10 (.eqT T22 false (.t 8) (.t 9))),
        (none, .v 7 (.move (.t 10)))])
      (.cond (.t 7)
        (.seq
        (.region 0 [
          (none, .v 2 (.move (.k (.int .i64 (3)))))])
        .ret)
        (.seq
        (.region 0 [
          (none, .v 12 (.sliceA 6 (.int .u8) (.t 1) none (some (.k (.int .i64 (5)))))),
          (none, .v 13 (.sarr 5 (.int .u8) (.t 12))),
          (none, .load 14 T108 (.t 13)),
          (none, .v 15 (.build T108 [(0, .k (.int .u8 (1))), (1, .k (.int .u8 (128))), (2, .k (.int .u8 (194))), (3, .k (.int .u8 (0))), (4, .k (.int .u8 (0)))])),
          (none, .v 16 (.eqT T108 false (.t 14) (.t 15))),
          (none, .v 17 (.move (.t 16))),
          (some (17, true), .v 18 (.iadr (some 6) (.int .u8) (.t 1) (.k (.int .i64 (5))))),
          (some (17, true), .load 19 (.int .u8) (.t 18)),
          (some (17, true), .v 20 (.cmp .lt (.t 19) (.k (.int .u8 (16))))),
          (none, .v 21 (.pick (.t 17) (.t 20) (.k (.bool false)))),
          (none, .v 11 (.move (.t 21)))])
        (.cond (.t 11)
          (.seq
          (.region 0 [
            (none, .v 2 (.move (.k (.int .i64 (4)))))])
          .ret)
          (.seq
          (.region 0 [
            (none, .v 23 (.sliceA 6 (.int .u8) (.t 1) none (some (.k (.int .i64 (3)))))),
            (none, .v 24 (.sarr 3 (.int .u8) (.t 23))),
            (none, .load 25 T109 (.t 24)),
            (none, .v 26 (.build T109 [(0, .k (.int .u8 (1))), (1, .k (.int .u8 (30))), (2, .k (.int .u8 (131)))])),
            (none, .v 27 (.eqT T109 false (.t 25) (.t 26))),
            (none, .v 22 (.move (.t 27)))])
          (.cond (.t 22)
            (.seq
            (.region 0 [
              (none, .v 2 (.move (.k (.int .i64 (5)))))])
            .ret)
            (.seq
            (.region 0 [
              (none, .load 29 T22 (.t 1)),
              (none, .callP (some 30) 80 [.t 29] 0 0 true),
              (none, .v 28 (.move (.t 30)))])
            (.cond (.t 28)
              (.seq
              (.region 0 [
                (none, .v 2 (.move (.k (.int .i64 (2)))))])
              .ret)
              (.seq
              (.region 0 [
                (none, .v 2 (.move (.k (.int .i64 (1)))))])
              .ret)))))))))))))
def nt_mac_Kind : Nat := 31
def rs_mac_Kind : List RV := [.tmp 2]
/-- pontage/tag.Check -/
abbrev f_tag_Check : FuncId := 52
def ac_tag_Check : AC :=
  (.seq
  (.region 0 [
    (none, .boxc 1 T24 (.t 0)),
    (none, .v 2 (.move (.k (.int .i64 (0)))))])
  (.seq
  (.seq
  (.region 0 [
    (none, .v 3 (.fadr T24 0 (.t 1))),
    (none, .load 4 (.int .i64) (.t 3)),
    (none, .callP (some 5) 77 [.t 4, .k (.int .i64 (0)), .k (.int .i64 (7))] 0 0 true),
    (none, .v 6 (.not (.t 5))),
    (none, .v 7 (.move (.t 6))),
    (some (7, false), .v 8 (.fadr T24 2 (.t 1))),
    (some (7, false), .load 9 (.int .i64) (.t 8)),
    (some (7, false), .callP (some 10) 77 [.t 9, .k (.int .i64 (1)), .k (.int .i64 (4094))] 0 0 true),
    (some (7, false), .v 11 (.not (.t 10))),
    (none, .v 12 (.pick (.t 7) (.k (.bool true)) (.t 11)))])
  (.cond (.t 12)
    (.seq
    (.region 0 [
      (none, .v 2 (.move (.k (.int .i64 (20)))))])
    .ret)
    .skip))
  (.seq
  (.region 0 [
    (none, .v 2 (.move (.k (.int .i64 (0)))))])
  .ret)))
def nt_tag_Check : Nat := 13
def rs_tag_Check : List RV := [.tmp 2]
/-- pontage/ether.marked -/
abbrev f_ether_marked : FuncId := 53
def ac_ether_marked : AC :=
  (.seq
  (.region 0 [
    (none, .v 2 (.move (.k (.bool false))))])
  (.seq
  (.region 1 [
    (none, .v 7 (.move (.t 0))),
    (none, .callP (some 8) 61 [.t 7] 0 1 true),
    (none, .v 6 (.move (.t 8))),
    (none, .v 9 (.ext (.t 6) 0)),
    (none, .v 10 (.ext (.t 6) 1)),
    (none, .v 11 (.ext (.t 6) 2)),
    (none, .v 3 (.move (.t 9))),
    (none, .v 4 (.move (.t 10))),
    (none, .v 5 (.move (.t 11)))])
  (.seq
  (.region 0 [
    (none, .v 12 (.move (.t 5))),
    (none, .v 13 (.cmp .eq (.t 12) (.k (.int .i64 (0))))),
    (none, .v 14 (.move (.t 13))),
    (some (14, true), .v 15 (.move (.t 3))),
    (some (14, true), .v 16 (.cmp .eq (.t 15) (.k (.int .i64 (34984))))),
    (none, .v 17 (.pick (.t 14) (.t 16) (.k (.bool false)))),
    (none, .v 2 (.move (.t 17)))])
  .ret)))
def nt_ether_marked : Nat := 18
def rs_ether_marked : List RV := [.tmp 2]
/-- pontage/pontagelaw03.plain -/
abbrev f_l03_plain : FuncId := 54
def ac_l03_plain : AC :=
  (.seq
  (.region 1 [
    (none, .alloc 0 0 T27)])
  (.seq
  (.region 1 [
    (none, .v 1 (.build T22 [(0, .k (.int .u8 (255))), (1, .k (.int .u8 (255))), (2, .k (.int .u8 (255))), (3, .k (.int .u8 (255))), (4, .k (.int .u8 (255))), (5, .k (.int .u8 (255)))])),
    (none, .v 2 (.build T22 [(0, .k (.int .u8 (2))), (1, .k (.int .u8 (0))), (2, .k (.int .u8 (0))), (3, .k (.int .u8 (0))), (4, .k (.int .u8 (0))), (5, .k (.int .u8 (1)))])),
    (none, .v 3 (.build T24 [(0, .k (.int .i64 (3))), (2, .k (.int .i64 (100)))])),
    (none, .lit 4 0 (.int .u8) 3 [(0, .k (.int .u8 (8))), (1, .k (.int .u8 (0))), (2, .k (.int .u8 (69)))] false),
    (none, .v 5 (.build T27 [(0, .t 1), (1, .t 2), (2, .k (.bool true)), (3, .t 3), (4, .t 4)])),
    (none, .store T27 (.t 0) (.t 5))])
  .ret))
def nt_l03_plain : Nat := 6
def rs_l03_plain : List RV := [.cell 0 T27]
/-- pontage/tag.Take -/
abbrev f_tag_Take : FuncId := 55
def ac_tag_Take : AC :=
  (.seq
  (.region 1 [
    (none, .alloc 2 0 T24),
    (none, .v 3 (.move (.k (.sl (.int .u8) [] .full)))),
    (none, .v 4 (.move (.k (.int .i64 (0)))))])
  (.seq
  (.seq
  (.region 0 [
    (none, .v 8 (.move (.t 0))),
    (none, .v 9 (.len false (.t 8))),
    (none, .v 10 (.cmp .lt (.t 9) (.k (.int .i64 (2)))))])
  (.cond (.t 10)
    (.seq
    (.region 0 [
      (none, .v 11 (.build T24 [])),
      (none, .store T24 (.t 2) (.t 11)),
      (none, .v 3 (.move (.k (.sl (.int .u8) [] .full)))),
      (none, .v 4 (.move (.k (.int .i64 (6)))))])
    .ret)
    .skip))
  (.seq
  (.region 1 [
    (none, .v 12 (.move (.t 0))),
    (none, .v 13 (.slice (.int .u8) (.t 12) none (some (.k (.int .i64 (2)))) none)),
    (none, .callP (some 14) 82 [.t 13] 0 0 true),
    (none, .callP (some 15) 81 [.t 14] 0 1 true),
    (none, .v 5 (.move (.t 15)))])
  (.seq
  (.region 1 [
    (none, .v 16 (.move (.t 5))),
    (none, .callS (some 17) (.t 16) [.k (.int .u64 (12))] [] [86]),
    (none, .v 18 (.build T24 [(2, .t 17)])),
    (none, .alloc 6 0 T24),
    (none, .store T24 (.t 6) (.t 18))])
  (.seq
  (.region 0 [
    (none, .v 19 (.move (.t 5))),
    (none, .callS (some 20) (.t 19) [.k (.int .u64 (1))] [] [86]),
    (none, .v 21 (.cmp .eq (.t 20) (.k (.int .i64 (1))))),
    (none, .v 22 (.fadr T24 1 (.t 6))),
    (none, .store .bool (.t 22) (.t 21))])
  (.seq
  (.region 0 [
    (none, .v 23 (.move (.t 5))),
    (none, .callS (some 24) (.t 23) [.k (.int .u64 (3))] [] [86]),
    (none, .v 25 (.fadr T24 0 (.t 6))),
    (none, .store (.int .i64) (.t 25) (.t 24))])
  (.seq
  (.seq
  (.region 0 [
    (none, .load 26 T24 (.t 6)),
    (none, .callP (some 27) 52 [.t 26] 0 0 true),
    (none, .v 7 (.move (.t 27)))])
  (.seq
  (.region 0 [
    (none, .v 28 (.move (.t 7))),
    (none, .v 29 (.cmp .ne (.t 28) (.k (.int .i64 (0)))))])
  (.cond (.t 29)
    (.seq
    (.region 0 [
      (none, .v 30 (.build T24 [])),
      (none, .v 31 (.move (.t 7))),
      (none, .store T24 (.t 2) (.t 30)),
      (none, .v 3 (.move (.k (.sl (.int .u8) [] .full)))),
      (none, .v 4 (.move (.t 31)))])
    .ret)
    .skip)))
  (.seq
  (.draw 1 [[], [], [], []] [
    (none, .load 32 T24 (.t 6)),
    (none, .v 33 (.move (.t 0))),
    (none, .v 34 (.slice (.int .u8) (.t 33) (some (.k (.int .i64 (2)))) none none)),
    (none, .callP (some 35) 56 [.t 34] 0 1 false)] [
    (none, .store T24 (.t 2) (.t 32)),
    (none, .v 3 (.move (.t 35))),
    (none, .v 4 (.move (.k (.int .i64 (0)))))])
  .ret))))))))
def nt_tag_Take : Nat := 36
def rs_tag_Take : List RV := [.cell 2 T24, .tmp 3, .tmp 4]
/-- slices.Clone[[]byte,byte] -/
abbrev f_slices_Clone_u8 : FuncId := 56
def ac_slices_Clone_u8 : AC :=
  (.seq
  (.region 0 [
    (none, .v 2 (.move (.k (.sl (.int .u8) [] .full))))])
  (.seq
  (.seq
  (.region 0 [
    (none, .v 3 (.move (.t 0))),
    (none, .eqnil 4 false (.t 3))])
  (.cond (.t 4)
    (.seq
    (.region 1 [
      (none, .mk 2 0 (.int .u8) (.k (.sl (.int .u8) [] .full)))])
    .ret)
    .skip))
  (.seq
  (.region 2 [
    (none, .lit 5 0 (.int .u8) 0 [] true),
    (none, .v 6 (.move (.t 0))),
    (none, .app 7 1 (.int .u8) 1 (.t 5) (.t 6) false),
    (none, .v 2 (.move (.t 7)))])
  .ret)))
def nt_slices_Clone_u8 : Nat := 8
def rs_slices_Clone_u8 : List RV := [.tmp 2]
/-- pontage/pontageref03.tagged -/
abbrev f_r03_tagged : FuncId := 57
def ac_r03_tagged : AC :=
  (.seq
  (.region 0 [
    (none, .v 2 (.move (.k (.bool false))))])
  (.seq
  (.region 0 [
    (none, .v 3 (.move (.t 0))),
    (none, .v 4 (.len false (.t 3))),
    (none, .v 5 (.cmp .ge (.t 4) (.k (.int .i64 (2))))),
    (none, .v 6 (.move (.t 5))),
    (some (6, true), .v 7 (.move (.t 0))),
    (some (6, true), .v 8 (.iadr none (.int .u8) (.t 7) (.k (.int .i64 (0))))),
    (some (6, true), .load 9 (.int .u8) (.t 8)),
    (some (6, true), .v 10 (.cmp .eq (.t 9) (.k (.int .u8 (136))))),
    (none, .v 11 (.pick (.t 6) (.t 10) (.k (.bool false)))),
    (none, .v 12 (.move (.t 11))),
    (some (12, true), .v 13 (.move (.t 0))),
    (some (12, true), .v 14 (.iadr none (.int .u8) (.t 13) (.k (.int .i64 (1))))),
    (some (12, true), .load 15 (.int .u8) (.t 14)),
    (some (12, true), .v 16 (.cmp .eq (.t 15) (.k (.int .u8 (168))))),
    (none, .v 17 (.pick (.t 12) (.t 16) (.k (.bool false)))),
    (none, .v 2 (.move (.t 17)))])
  .ret))
def nt_r03_tagged : Nat := 18
def rs_r03_tagged : List RV := [.tmp 2]
/-- pontage/tag.Carried -/
abbrev f_tag_Carried : FuncId := 59
def ac_tag_Carried : AC :=
  (.seq
  (.region 2 [
    (none, .box 2 0 T24 (.t 0)),
    (none, .alloc 4 1 T24),
    (none, .v 5 (.move (.k (.int .i64 (0)))))])
  (.seq
  (.seq
  (.region 0 [
    (none, .load 6 T24 (.t 2)),
    (none, .callP (some 7) 52 [.t 6] 0 0 true),
    (none, .v 8 (.cmp .ne (.t 7) (.k (.int .i64 (0)))))])
  (.cond (.t 8)
    (.seq
    (.region 0 [
      (none, .v 9 (.build T24 [])),
      (none, .store T24 (.t 4) (.t 9)),
      (none, .v 5 (.move (.k (.int .i64 (20)))))])
    .ret)
    .skip))
  (.seq
  (.region 0 [
    (none, .v 10 (.move (.t 1))),
    (none, .v 11 (.fadr T24 2 (.t 2))),
    (none, .store (.int .i64) (.t 11) (.t 10))])
  (.seq
  (.seq
  (.region 0 [
    (none, .load 12 T24 (.t 2)),
    (none, .callP (some 13) 52 [.t 12] 0 0 true),
    (none, .v 14 (.cmp .ne (.t 13) (.k (.int .i64 (0)))))])
  (.cond (.t 14)
    (.seq
    (.region 0 [
      (none, .v 15 (.build T24 [])),
      (none, .store T24 (.t 4) (.t 15)),
      (none, .v 5 (.move (.k (.int .i64 (20)))))])
    .ret)
    .skip))
  (.seq
  (.region 0 [
    (none, .load 16 T24 (.t 2)),
    (none, .store T24 (.t 4) (.t 16)),
    (none, .v 5 (.move (.k (.int .i64 (0)))))])
  .ret)))))
def nt_tag_Carried : Nat := 17
def rs_tag_Carried : List RV := [.cell 4 T24, .tmp 5]
/-- slices.Equal[[]byte,byte] -/
abbrev f_slices_Equal_u8 : FuncId := 60
def ac_slices_Equal_u8 : AC :=
  (.seq
  (.region 0 [
    (none, .v 4 (.move (.k (.bool false))))])
  (.seq
  (.seq
  (.region 0 [
    (none, .v 6 (.move (.t 0))),
    (none, .v 7 (.len false (.t 6))),
    (none, .v 8 (.move (.t 1))),
    (none, .v 9 (.len false (.t 8))),
    (none, .v 10 (.cmp .ne (.t 7) (.t 9)))])
  (.cond (.t 10)
    (.seq
    (.region 0 [
      (none, .v 4 (.move (.k (.bool false))))])
    .ret)
    .skip))
  (.seq
  (.seq
  (.region 0 [
    (none, .v 11 (.move (.t 0))),
    (none, .v 12 (.len false (.t 11))),
    (none, .v 13 (.move (.k (.int .i64 (0)))))])
  (.block 0
    (.loop [0, 1, 12, 13]
      (.seq
      (.region 0 [
        (none, .v 14 (.cmp .lt (.t 13) (.t 12)))])
      (.seq
      (.cond (.t 14)
        .skip
        (.exit 0))
      (.seq
      (.block 1
        (.seq
        (.region 0 [
          (none, .v 15 (.move (.t 13))),
          (none, .v 5 (.move (.t 15)))])
        (.seq
        (.draw 0 [[], [], [], [], [], [], [], []] [
          (none, .v 16 (.move (.t 0))),
          (none, .v 17 (.move (.t 5))),
          (none, .v 18 (.iadr none (.int .u8) (.t 16) (.t 17))),
          (none, .load 19 (.int .u8) (.t 18)),
          (none, .v 20 (.move (.t 1))),
          (none, .v 21 (.move (.t 5))),
          (none, .v 22 (.iadr none (.int .u8) (.t 20) (.t 21))),
          (none, .load 23 (.int .u8) (.t 22))] [
          (none, .v 24 (.cmp .ne (.t 19) (.t 23)))])
        (.cond (.t 24)
          (.seq
          (.region 0 [
            (none, .v 4 (.move (.k (.bool false))))])
          .ret)
          .skip))))
      (.region 0 [
        (none, .v 25 (.add (.t 13) (.k (.int .i64 (1))))),
        (none, .v 13 (.move (.t 25)))])))))))
  (.seq
  (.region 0 [
    (none, .v 4 (.move (.k (.bool true))))])
  .ret))))
def nt_slices_Equal_u8 : Nat := 26
def rs_slices_Equal_u8 : List RV := [.tmp 4]
/-- pontage/tag.TakeType -/
abbrev f_tag_TakeType : FuncId := 61
def ac_tag_TakeType : AC :=
  (.seq
  (.region 0 [
    (none, .v 2 (.move (.k (.int .i64 (0))))),
    (none, .v 3 (.move (.k (.sl (.int .u8) [] .full)))),
    (none, .v 4 (.move (.k (.int .i64 (0)))))])
  (.seq
  (.seq
  (.region 0 [
    (none, .v 5 (.move (.t 0))),
    (none, .v 6 (.len false (.t 5))),
    (none, .v 7 (.cmp .lt (.t 6) (.k (.int .i64 (2)))))])
  (.cond (.t 7)
    (.seq
    (.region 0 [
      (none, .v 2 (.move (.k (.int .i64 (0))))),
      (none, .v 3 (.move (.k (.sl (.int .u8) [] .full)))),
      (none, .v 4 (.move (.k (.int .i64 (6)))))])
    .ret)
    .skip))
  (.seq
  (.draw 1 [[], [], [], [], [], [], [2]] [
    (none, .v 8 (.move (.t 0))),
    (none, .v 9 (.slice (.int .u8) (.t 8) none (some (.k (.int .i64 (2)))) none)),
    (none, .callP (some 10) 82 [.t 9] 0 0 false),
    (none, .v 11 (.conv .i64 (.t 10))),
    (none, .v 12 (.move (.t 0))),
    (none, .v 13 (.slice (.int .u8) (.t 12) (some (.k (.int .i64 (2)))) none none)),
    (none, .callP (some 14) 56 [.t 13] 0 1 false)] [
    (none, .v 2 (.move (.t 11))),
    (none, .v 3 (.move (.t 14))),
    (none, .v 4 (.move (.k (.int .i64 (0)))))])
  .ret)))
def nt_tag_TakeType : Nat := 15
def rs_tag_TakeType : List RV := [.tmp 2, .tmp 3, .tmp 4]
/-- pontage/pontageref01.Kind -/
abbrev f_r01_Kind : FuncId := 65
def ac_r01_Kind : AC :=
  (.seq
  (.region 0 [
    (none, .boxc 1 T22 (.t 0)),
    (none, .v 2 (.move (.k (.int .i64 (0)))))])
  (.seq
  (.block 0
    (.seq
    (.region 0 [
      (none, .load 4 T22 (.t 1)),
      (none, .callP (some 5) 84 [.t 4, .k (.int .u8 (0))] 0 0 true),
      (none, .v 3 (.move (.t 5)))])
    (.cond (.t 3)
      (.seq
      (.region 0 [
        (none, .v 2 (.move (.k (.int .i64 (6)))))])
      .ret)
      (.seq
      (.region 0 [
        (none, .load 7 T22 (.t 1)),
        (none, .callP (some 8) 84 [.t 7, .k (.int .u8 (255))] 0 0 true),
        (none, .v 6 (.move (.t 8)))])
      (.cond (.t 6)
        (.seq
        (.region 0 [
          (none, .v 2 (.move (.k (.int .i64 (3)))))])
        .ret)
        (.seq
        (.region 0 [
          (none, .v 10 (.iadr (some 6) (.int .u8) (.t 1) (.k (.int .i64 (0))))),
          (none, .load 11 (.int .u8) (.t 10)),
          (none, .v 12 (.cmp .eq (.t 11) (.k (.int .u8 (1))))),
          (none, .v 13 (.move (.t 12))),
          (some (13, true), .v 14 (.iadr (some 6) (.int .u8) (.t 1) (.k (.int .i64 (1))))),
          (some (13, true), .load 15 (.int .u8) (.t 14)),
          (some (13, true), .v 16 (.cmp .eq (.t 15) (.k (.int .u8 (128))))),
          (none, .v 17 (.pick (.t 13) (.t 16) (.k (.bool false)))),
          (none, .v 18 (.move (.t 17))),
          (some (18, true), .v 19 (.iadr (some 6) (.int .u8) (.t 1) (.k (.int .i64 (2))))),
          (some (18, true), .load 20 (.int .u8) (.t 19)),
          (some (18, true), .v 21 (.cmp .eq (.t 20) (.k (.int .u8 (194))))),
          (none, .v 22 (.pick (.t 18) (.t 21) (.k (.bool false)))),
          (none, .v 23 (.move (.t 22))),
          (some (23, true), .v 24 (.iadr (some 6) (.int .u8) (.t 1) (.k (.int .i64 (3))))),
          (some (23, true), .load 25 (.int .u8) (.t 24)),
          (some (23, true), .v 26 (.cmp .eq (.t 25) (.k (.int .u8 (0))))),
          (none, .v 27 (.pick (.t 23) (.t 26) (.k (.bool false)))),
          (none, .v 28 (.move (.t 27))),
          (some (28, true), .v 29 (.iadr (some 6) (.int .u8) (.t 1) (.k (.int .i64 (4))))),
          (some (28, true), .load 30 (.int .u8) (.t 29)),
          (some (28, true), .v 31 (.cmp .eq (.t 30) (.k (.int .u8 (0))))),
          (none, .v 32 (.pick (.t 28) (.t 31) (.k (.bool false)))),
          (none, .v 33 (.move (.t 32))),
          (some (33, true), .v 34 (.iadr (some 6) (.int .u8) (.t 1) (.k (.int .i64 (5))))),
          (some (33, true), .load 35 (.int .u8) (.t 34)),
          (some (33, true), .v 36 (.cmp .lt (.t 35) (.k (.int .u8 (16))))),
          (none, .v 37 (.pick (.t 33) (.t 36) (.k (.bool false)))),
          (none, .v 9 (.move (.t 37)))])
        (.cond (.t 9)
          (.seq
          (.region 0 [
            (none, .v 2 (.move (.k (.int .i64 (4)))))])
          .ret)
          (.seq
          (.region 0 [
            (none, .v 39 (.iadr (some 6) (.int .u8) (.t 1) (.k (.int .i64 (0))))),
            (none, .load 40 (.int .u8) (.t 39)),
            (none, .v 41 (.cmp .eq (.t 40) (.k (.int .u8 (1))))),
            (none, .v 42 (.move (.t 41))),
            (some (42, true), .v 43 (.iadr (some 6) (.int .u8) (.t 1) (.k (.int .i64 (1))))),
            (some (42, true), .load 44 (.int .u8) (.t 43)),
            (some (42, true), .v 45 (.cmp .eq (.t 44) (.k (.int .u8 (30))))),
            (none, .v 46 (.pick (.t 42) (.t 45) (.k (.bool false)))),
            (none, .v 47 (.move (.t 46))),
            (some (47, true), .v 48 (.iadr (some 6) (.int .u8) (.t 1) (.k (.int .i64 (2))))),
            (some (47, true), .load 49 (.int .u8) (.t 48)),
            (some (47, true), .v 50 (.cmp .eq (.t 49) (.k (.int .u8 (131))))),
            (none, .v 51 (.pick (.t 47) (.t 50) (.k (.bool false)))),
            (none, .v 38 (.move (.t 51)))])
          (.cond (.t 38)
            (.seq
            (.region 0 [
              (none, .v 2 (.move (.k (.int .i64 (5)))))])
            .ret)
            (.seq
            (.region 0 [
              (none, .v 53 (.iadr (some 6) (.int .u8) (.t 1) (.k (.int .i64 (0))))),
              (none, .load 54 (.int .u8) (.t 53)),
              (none, .v 55 (.rem (.t 54) (.k (.int .u8 (2))))),
              (none, .v 56 (.cmp .eq (.t 55) (.k (.int .u8 (1))))),
              (none, .v 52 (.move (.t 56)))])
            (.cond (.t 52)
              (.seq
              (.region 0 [
                (none, .v 2 (.move (.k (.int .i64 (2)))))])
              .ret)
              .skip)))))))))))
  (.seq
  (.region 0 [
    (none, .v 2 (.move (.k (.int .i64 (1)))))])
  .ret)))
def nt_r01_Kind : Nat := 57
def rs_r01_Kind : List RV := [.tmp 2]
/-- pontage/pontageref02.Is -/
abbrev f_r02_Is : FuncId := 66
def ac_r02_Is : AC :=
  (.seq
  (.region 0 [
    (none, .boxc 1 T24 (.t 0)),
    (none, .v 2 (.move (.k (.bool false))))])
  (.seq
  (.region 0 [
    (none, .v 3 (.fadr T24 0 (.t 1))),
    (none, .load 4 (.int .i64) (.t 3)),
    (none, .v 5 (.cmp .ge (.t 4) (.k (.int .i64 (0))))),
    (none, .v 6 (.move (.t 5))),
    (some (6, true), .v 7 (.fadr T24 0 (.t 1))),
    (some (6, true), .load 8 (.int .i64) (.t 7)),
    (some (6, true), .v 9 (.cmp .le (.t 8) (.k (.int .i64 (7))))),
    (none, .v 10 (.pick (.t 6) (.t 9) (.k (.bool false)))),
    (none, .v 11 (.move (.t 10))),
    (some (11, true), .v 12 (.fadr T24 2 (.t 1))),
    (some (11, true), .load 13 (.int .i64) (.t 12)),
    (some (11, true), .v 14 (.cmp .ge (.t 13) (.k (.int .i64 (1))))),
    (none, .v 15 (.pick (.t 11) (.t 14) (.k (.bool false)))),
    (none, .v 16 (.move (.t 15))),
    (some (16, true), .v 17 (.fadr T24 2 (.t 1))),
    (some (16, true), .load 18 (.int .i64) (.t 17)),
    (some (16, true), .v 19 (.cmp .le (.t 18) (.k (.int .i64 (4094))))),
    (none, .v 20 (.pick (.t 16) (.t 19) (.k (.bool false)))),
    (none, .v 2 (.move (.t 20)))])
  .ret))
def nt_r02_Is : Nat := 21
def rs_r02_Is : List RV := [.tmp 2]
/-- slices.Grow[[]byte,byte] -/
abbrev f_slices_Grow_u8 : FuncId := 74
def ac_slices_Grow_u8 : AC :=
  (.seq
  (.region 0 [
    (none, .v 4 (.move (.k (.sl (.int .u8) [] .full))))])
  (.seq
  (.seq
  (.region 0 [
    (none, .v 5 (.move (.t 1))),
    (none, .v 6 (.cmp .lt (.t 5) (.k (.int .i64 (0)))))])
  (.cond (.t 6)
    (.region 0 [
      (none, .stop (some 7)),
      (none, .stop none)])
    .skip))
  (.seq
  (.seq
  (.region 0 [
    (none, .v 8 (.move (.t 1))),
    (none, .v 9 (.move (.t 0))),
    (none, .cap 10 (.t 9)),
    (none, .v 11 (.move (.t 0))),
    (none, .v 12 (.len false (.t 11))),
    (none, .v 13 (.sub (.t 10) (.t 12))),
    (none, .v 14 (.sub (.t 8) (.t 13))),
    (none, .v 1 (.move (.t 14)))])
  (.seq
  (.region 0 [
    (none, .v 15 (.move (.t 1))),
    (none, .v 16 (.cmp .gt (.t 15) (.k (.int .i64 (0)))))])
  (.cond (.t 16)
    (.region 1 [
      (none, .v 17 (.move (.t 0))),
      (none, .v 18 (.move (.t 0))),
      (none, .cap 19 (.t 18)),
      (none, .v 20 (.slc (.int .u8) (.t 17) (.t 19))),
      (none, .v 21 (.move (.t 1))),
      (none, .appz 22 0 (.int .u8) 1 (.t 20) (.t 21)),
      (none, .v 23 (.move (.t 0))),
      (none, .v 24 (.len false (.t 23))),
      (none, .trim 25 (.t 22) (.t 24)),
      (none, .v 0 (.move (.t 25)))])
    .skip)))
  (.seq
  (.region 0 [
    (none, .v 26 (.move (.t 0))),
    (none, .v 4 (.move (.t 26)))])
  .ret))))
def nt_slices_Grow_u8 : Nat := 27
def rs_slices_Grow_u8 : List RV := [.tmp 4]
/-- pontage/tag.numbered -/
abbrev f_tag_numbered : FuncId := 75
def ac_tag_numbered : AC :=
  (.seq
  (.region 0 [
    (none, .v 4 (.move (.k (.sl (.int .u8) [] .full))))])
  (.seq
  (.region 1 [
    (none, .v 7 (.move (.t 1))),
    (none, .make 8 0 (.int .u8) 1 (.t 7)),
    (none, .v 5 (.move (.t 8)))])
  (.seq
  (.seq
  (.region 0 [
    (none, .v 9 (.move (.t 5))),
    (none, .v 10 (.len false (.t 9))),
    (none, .v 11 (.move (.k (.int .i64 (0)))))])
  (.block 0
    (.loop [0, 1, 5, 10, 11]
      (.seq
      (.region 0 [
        (none, .v 12 (.cmp .lt (.t 11) (.t 10)))])
      (.seq
      (.cond (.t 12)
        .skip
        (.exit 0))
      (.seq
      (.block 1
        (.seq
        (.region 0 [
          (none, .v 13 (.move (.t 11))),
          (none, .v 6 (.move (.t 13)))])
        (.region 0 [
          (none, .v 14 (.move (.t 5))),
          (none, .v 15 (.move (.t 1))),
          (none, .v 16 (.sub (.t 15) (.k (.int .i64 (1))))),
          (none, .v 17 (.move (.t 6))),
          (none, .v 18 (.sub (.t 16) (.t 17))),
          (none, .v 19 (.move (.t 0))),
          (none, .v 20 (.move (.t 6))),
          (none, .v 21 (.conv .u64 (.t 20))),
          (none, .v 22 (.mul (.k (.int .u64 (8))) (.t 21))),
          (none, .v 23 (.shr (.t 19) (.t 22))),
          (none, .v 24 (.conv .u8 (.t 23))),
          (none, .v 25 (.iadr none (.int .u8) (.t 14) (.t 18))),
          (none, .store (.int .u8) (.t 25) (.t 24))])))
      (.region 0 [
        (none, .v 26 (.add (.t 11) (.k (.int .i64 (1))))),
        (none, .v 11 (.move (.t 26)))])))))))
  (.seq
  (.region 0 [
    (none, .v 27 (.move (.t 5))),
    (none, .close 4 (.t 27))])
  .ret))))
def nt_tag_numbered : Nat := 28
def rs_tag_numbered : List RV := [.tmp 4]
/-- pontage/tag.bit -/
abbrev f_tag_bit : FuncId := 76
def ac_tag_bit : AC :=
  (.seq
  (.region 0 [
    (none, .v 4 (.move (.k (.int .u32 (0)))))])
  (.seq
  (.seq
  (.region 0 [
    (none, .v 5 (.move (.t 0)))])
  (.cond (.t 5)
    (.seq
    (.region 0 [
      (none, .v 6 (.move (.t 1))),
      (none, .v 7 (.shl (.k (.int .u32 (1))) (.t 6))),
      (none, .v 4 (.move (.t 7)))])
    .ret)
    .skip))
  (.seq
  (.region 0 [
    (none, .v 4 (.move (.k (.int .u32 (0)))))])
  .ret)))
def nt_tag_bit : Nat := 8
def rs_tag_bit : List RV := [.tmp 4]
/-- pontage/tag.within -/
abbrev f_tag_within : FuncId := 77
def ac_tag_within : AC :=
  (.seq
  (.region 0 [
    (none, .v 6 (.move (.k (.bool false))))])
  (.seq
  (.region 0 [
    (none, .v 7 (.move (.t 0))),
    (none, .v 8 (.move (.t 1))),
    (none, .v 9 (.cmp .ge (.t 7) (.t 8))),
    (none, .v 10 (.move (.t 9))),
    (some (10, true), .v 11 (.move (.t 0))),
    (some (10, true), .v 12 (.move (.t 2))),
    (some (10, true), .v 13 (.cmp .le (.t 11) (.t 12))),
    (none, .v 14 (.pick (.t 10) (.t 13) (.k (.bool false)))),
    (none, .v 6 (.move (.t 14)))])
  .ret))
def nt_tag_within : Nat := 15
def rs_tag_within : List RV := [.tmp 6]
/-- pontage/pontageref02.Check -/
abbrev f_r02_Check : FuncId := 78
def ac_r02_Check : AC :=
  (.seq
  (.region 0 [
    (none, .boxc 1 T24 (.t 0)),
    (none, .v 2 (.move (.k (.int .i64 (0)))))])
  (.seq
  (.seq
  (.region 0 [
    (none, .load 3 T24 (.t 1)),
    (none, .callP (some 4) 66 [.t 3] 0 0 true)])
  (.cond (.t 4)
    (.seq
    (.region 0 [
      (none, .v 2 (.move (.k (.int .i64 (0)))))])
    .ret)
    .skip))
  (.seq
  (.region 0 [
    (none, .v 2 (.move (.k (.int .i64 (20)))))])
  .ret)))
def nt_r02_Check : Nat := 5
def rs_r02_Check : List RV := [.tmp 2]
/-- pontage/pontageref02.Bytes -/
abbrev f_r02_Bytes : FuncId := 79
def ac_r02_Bytes : AC :=
  (.seq
  (.region 0 [
    (none, .boxc 1 T24 (.t 0)),
    (none, .v 2 (.move (.k (.sl (.int .u8) [] .full))))])
  (.seq
  (.draw 0 [[], [], [], [], [], [4], [], [], []] [
    (none, .v 4 (.fadr T24 0 (.t 1))),
    (none, .load 5 (.int .i64) (.t 4)),
    (none, .v 6 (.mul (.t 5) (.k (.int .i64 (8192))))),
    (none, .v 7 (.fadr T24 1 (.t 1))),
    (none, .load 8 .bool (.t 7)),
    (none, .callP (some 9) 85 [.t 8, .k (.int .i64 (4096))] 0 0 false),
    (none, .v 10 (.add (.t 6) (.t 9))),
    (none, .v 11 (.fadr T24 2 (.t 1))),
    (none, .load 12 (.int .i64) (.t 11))] [
    (none, .v 13 (.add (.t 10) (.t 12))),
    (none, .v 3 (.move (.t 13)))])
  (.seq
  (.region 1 [
    (none, .v 14 (.move (.t 3))),
    (none, .v 15 (.quo (.t 14) (.k (.int .i64 (256))))),
    (none, .v 16 (.conv .u8 (.t 15))),
    (none, .v 17 (.move (.t 3))),
    (none, .v 18 (.rem (.t 17) (.k (.int .i64 (256))))),
    (none, .v 19 (.conv .u8 (.t 18))),
    (none, .lit 20 0 (.int .u8) 2 [(0, .t 16), (1, .t 19)] false),
    (none, .v 2 (.move (.t 20)))])
  .ret)))
def nt_r02_Bytes : Nat := 21
def rs_r02_Bytes : List RV := [.tmp 2]
/-- pontage/mac.Many -/
abbrev f_mac_Many : FuncId := 80
def ac_mac_Many : AC :=
  (.seq
  (.region 0 [
    (none, .boxc 1 T22 (.t 0)),
    (none, .v 2 (.move (.k (.bool false))))])
  (.seq
  (.region 0 [
    (none, .v 3 (.iadr (some 6) (.int .u8) (.t 1) (.k (.int .i64 (0))))),
    (none, .load 4 (.int .u8) (.t 3)),
    (none, .v 5 (.bit .and (.t 4) (.k (.int .u8 (1))))),
    (none, .v 6 (.cmp .eq (.t 5) (.k (.int .u8 (1))))),
    (none, .v 2 (.move (.t 6)))])
  .ret))
def nt_mac_Many : Nat := 7
def rs_mac_Many : List RV := [.tmp 2]
/-- pontage/tag.cutter -/
abbrev f_tag_cutter : FuncId := 81
def ac_tag_cutter : AC :=
  (.seq
  (.region 1 [
    (none, .box 1 0 (.int .u32) (.t 0)),
    (none, .v 2 (.move (.k .nilfn)))])
  (.seq
  (.region 0 [
    (none, .v 3 (.mkfn 86 [.t 1])),
    (none, .v 2 (.move (.t 3)))])
  .ret))
def nt_tag_cutter : Nat := 4
def rs_tag_cutter : List RV := [.tmp 2]
/-- pontage/tag.number -/
abbrev f_tag_number : FuncId := 82
def ac_tag_number : AC :=
  (.seq
  (.region 0 [
    (none, .v 2 (.move (.k (.int .u32 (0)))))])
  (.seq
  (.region 0 [
    (none, .v 3 (.move (.k (.int .u32 (0)))))])
  (.seq
  (.seq
  (.region 0 [
    (none, .v 6 (.move (.t 0))),
    (none, .v 7 (.len false (.t 6))),
    (none, .v 8 (.move (.k (.int .i64 (0)))))])
  (.block 0
    (.loop [3, 6, 7, 8]
      (.seq
      (.region 0 [
        (none, .v 9 (.cmp .lt (.t 8) (.t 7)))])
      (.seq
      (.cond (.t 9)
        .skip
        (.exit 0))
      (.seq
      (.block 1
        (.seq
        (.region 0 [
          (none, .v 10 (.iadr none (.int .u8) (.t 6) (.t 8))),
          (none, .load 11 (.int .u8) (.t 10)),
          (none, .v 5 (.move (.t 11)))])
        (.region 0 [
          (none, .v 12 (.move (.t 3))),
          (none, .v 13 (.shl (.t 12) (.k (.int .u64 (8))))),
          (none, .v 14 (.move (.t 5))),
          (none, .v 15 (.conv .u32 (.t 14))),
          (none, .v 16 (.bit .or (.t 13) (.t 15))),
          (none, .v 3 (.move (.t 16)))])))
      (.region 0 [
        (none, .v 17 (.add (.t 8) (.k (.int .i64 (1))))),
        (none, .v 8 (.move (.t 17)))])))))))
  (.seq
  (.region 0 [
    (none, .v 18 (.move (.t 3))),
    (none, .v 2 (.move (.t 18)))])
  .ret))))
def nt_tag_number : Nat := 19
def rs_tag_number : List RV := [.tmp 2]
/-- pontage/pontageref01.same -/
abbrev f_r01_same : FuncId := 84
def ac_r01_same : AC :=
  (.seq
  (.region 0 [
    (none, .boxc 2 T22 (.t 0)),
    (none, .v 4 (.move (.k (.bool false))))])
  (.seq
  (.seq
  (.region 0 [
    (none, .v 5 (.move (.k (.int .i64 (0)))))])
  (.block 0
    (.loop [1, 2, 5]
      (.seq
      (.seq
      (.region 0 [
        (none, .v 6 (.move (.t 5))),
        (none, .v 7 (.cmp .lt (.t 6) (.k (.int .i64 (6)))))])
      (.cond (.t 7)
        .skip
        (.exit 0)))
      (.seq
      (.block 1
        (.seq
        (.region 0 [
          (none, .v 10 (.move (.t 5))),
          (none, .v 11 (.iadr (some 6) (.int .u8) (.t 2) (.t 10))),
          (none, .load 12 (.int .u8) (.t 11)),
          (none, .v 13 (.move (.t 1))),
          (none, .v 14 (.cmp .ne (.t 12) (.t 13)))])
        (.cond (.t 14)
          (.seq
          (.region 0 [
            (none, .v 4 (.move (.k (.bool false))))])
          .ret)
          .skip)))
      (.region 0 [
        (none, .v 8 (.move (.t 5))),
        (none, .v 9 (.add (.t 8) (.k (.int .i64 (1))))),
        (none, .v 5 (.move (.t 9)))]))))))
  (.seq
  (.region 0 [
    (none, .v 4 (.move (.k (.bool true))))])
  .ret)))
def nt_r01_same : Nat := 15
def rs_r01_same : List RV := [.tmp 4]
/-- pontage/pontageref02.bit -/
abbrev f_r02_bit : FuncId := 85
def ac_r02_bit : AC :=
  (.seq
  (.region 0 [
    (none, .v 4 (.move (.k (.int .i64 (0)))))])
  (.seq
  (.seq
  (.region 0 [
    (none, .v 5 (.move (.t 0)))])
  (.cond (.t 5)
    (.seq
    (.region 0 [
      (none, .v 6 (.move (.t 1))),
      (none, .v 4 (.move (.t 6)))])
    .ret)
    .skip))
  (.seq
  (.region 0 [
    (none, .v 4 (.move (.k (.int .i64 (0)))))])
  .ret)))
def nt_r02_bit : Nat := 7
def rs_r02_bit : List RV := [.tmp 4]
/-- pontage/tag.cutter$1 -/
abbrev f_tag_cutter_1 : FuncId := 86
def ac_tag_cutter_1 : AC :=
  (.seq
  (.region 0 [
    (none, .v 3 (.move (.k (.int .i64 (0)))))])
  (.seq
  (.region 0 [
    (none, .load 5 (.int .u32) (.t 1)),
    (none, .v 6 (.move (.t 0))),
    (none, .v 7 (.shl (.k (.int .u32 (1))) (.t 6))),
    (none, .v 8 (.sub (.t 7) (.k (.int .u32 (1))))),
    (none, .v 9 (.bit .and (.t 5) (.t 8))),
    (none, .v 4 (.move (.t 9)))])
  (.seq
  (.region 0 [
    (none, .load 10 (.int .u32) (.t 1)),
    (none, .v 11 (.move (.t 0))),
    (none, .v 12 (.shr (.t 10) (.t 11))),
    (none, .store (.int .u32) (.t 1) (.t 12))])
  (.seq
  (.region 0 [
    (none, .v 13 (.move (.t 4))),
    (none, .v 14 (.conv .i64 (.t 13))),
    (none, .v 3 (.move (.t 14)))])
  .ret))))
def nt_tag_cutter_1 : Nat := 15
def rs_tag_cutter_1 : List RV := [.tmp 3]
theorem mixed : prog.follows .mixedOrders = true := by kernel_rfl
theorem ok_l03_EtherEncodes : funOK prog f_l03_EtherEncodes nt_l03_EtherEncodes rs_l03_EtherEncodes ac_l03_EtherEncodes = true := by kernel_rfl
theorem ok_l03_EtherTells : funOK prog f_l03_EtherTells nt_l03_EtherTells rs_l03_EtherTells ac_l03_EtherTells = true := by kernel_rfl
theorem ok_l03_EtherBack : funOK prog f_l03_EtherBack nt_l03_EtherBack rs_l03_EtherBack ac_l03_EtherBack = true := by kernel_rfl
theorem ok_l03_Light : funOK prog f_l03_Light nt_l03_Light rs_l03_Light ac_l03_Light = true := by kernel_rfl
theorem ok_ether_Encode : funOK prog f_ether_Encode nt_ether_Encode rs_ether_Encode ac_ether_Encode = true := by kernel_rfl
theorem ok_r03_Encode : funOK prog f_r03_Encode nt_r03_Encode rs_r03_Encode ac_r03_Encode = true := by kernel_rfl
theorem ok_ether_Check : funOK prog f_ether_Check nt_ether_Check rs_ether_Check ac_ether_Check = true := by kernel_rfl
theorem ok_l03_awake : funOK prog f_l03_awake nt_l03_awake rs_l03_awake ac_l03_awake = true := by kernel_rfl
theorem ok_l03_cut : funOK prog f_l03_cut nt_l03_cut rs_l03_cut ac_l03_cut = true := by kernel_rfl
theorem ok_ether_Decode : funOK prog f_ether_Decode nt_ether_Decode rs_ether_Decode ac_ether_Decode = true := by kernel_rfl
theorem ok_r03_Same : funOK prog f_r03_Same nt_r03_Same rs_r03_Same ac_r03_Same = true := by kernel_rfl
theorem ok_ether_Retag : funOK prog f_ether_Retag nt_ether_Retag rs_ether_Retag ac_ether_Retag = true := by kernel_rfl
theorem ok_r03_Retag : funOK prog f_r03_Retag nt_r03_Retag rs_r03_Retag ac_r03_Retag = true := by kernel_rfl
theorem ok_ether_Same : funOK prog f_ether_Same nt_ether_Same rs_ether_Same ac_ether_Same = true := by kernel_rfl
theorem ok_ether_Type : funOK prog f_ether_Type nt_ether_Type rs_ether_Type ac_ether_Type = true := by kernel_rfl
theorem ok_r03_Type : funOK prog f_r03_Type nt_r03_Type rs_r03_Type ac_r03_Type = true := by kernel_rfl
theorem ok_slices_Concat_u8 : funOK prog f_slices_Concat_u8 nt_slices_Concat_u8 rs_slices_Concat_u8 ac_slices_Concat_u8 = true := by kernel_rfl
theorem ok_tag_Put : funOK prog f_tag_Put nt_tag_Put rs_tag_Put ac_tag_Put = true := by kernel_rfl
theorem ok_tag_PutType : funOK prog f_tag_PutType nt_tag_PutType rs_tag_PutType ac_tag_PutType = true := by kernel_rfl
theorem ok_r03_Check : funOK prog f_r03_Check nt_r03_Check rs_r03_Check ac_r03_Check = true := by kernel_rfl
theorem ok_r02_Put : funOK prog f_r02_Put nt_r02_Put rs_r02_Put ac_r02_Put = true := by kernel_rfl
theorem ok_mac_Kind : funOK prog f_mac_Kind nt_mac_Kind rs_mac_Kind ac_mac_Kind = true := by kernel_rfl
theorem ok_tag_Check : funOK prog f_tag_Check nt_tag_Check rs_tag_Check ac_tag_Check = true := by kernel_rfl
theorem ok_ether_marked : funOK prog f_ether_marked nt_ether_marked rs_ether_marked ac_ether_marked = true := by kernel_rfl
theorem ok_l03_plain : funOK prog f_l03_plain nt_l03_plain rs_l03_plain ac_l03_plain = true := by kernel_rfl
theorem ok_tag_Take : funOK prog f_tag_Take nt_tag_Take rs_tag_Take ac_tag_Take = true := by kernel_rfl
theorem ok_slices_Clone_u8 : funOK prog f_slices_Clone_u8 nt_slices_Clone_u8 rs_slices_Clone_u8 ac_slices_Clone_u8 = true := by kernel_rfl
theorem ok_r03_tagged : funOK prog f_r03_tagged nt_r03_tagged rs_r03_tagged ac_r03_tagged = true := by kernel_rfl
theorem ok_tag_Carried : funOK prog f_tag_Carried nt_tag_Carried rs_tag_Carried ac_tag_Carried = true := by kernel_rfl
theorem ok_slices_Equal_u8 : funOK prog f_slices_Equal_u8 nt_slices_Equal_u8 rs_slices_Equal_u8 ac_slices_Equal_u8 = true := by kernel_rfl
theorem ok_tag_TakeType : funOK prog f_tag_TakeType nt_tag_TakeType rs_tag_TakeType ac_tag_TakeType = true := by kernel_rfl
theorem ok_r01_Kind : funOK prog f_r01_Kind nt_r01_Kind rs_r01_Kind ac_r01_Kind = true := by kernel_rfl
theorem ok_r02_Is : funOK prog f_r02_Is nt_r02_Is rs_r02_Is ac_r02_Is = true := by kernel_rfl
theorem ok_slices_Grow_u8 : funOK prog f_slices_Grow_u8 nt_slices_Grow_u8 rs_slices_Grow_u8 ac_slices_Grow_u8 = true := by kernel_rfl
theorem ok_tag_numbered : funOK prog f_tag_numbered nt_tag_numbered rs_tag_numbered ac_tag_numbered = true := by kernel_rfl
theorem ok_tag_bit : funOK prog f_tag_bit nt_tag_bit rs_tag_bit ac_tag_bit = true := by kernel_rfl
theorem ok_tag_within : funOK prog f_tag_within nt_tag_within rs_tag_within ac_tag_within = true := by kernel_rfl
theorem ok_r02_Check : funOK prog f_r02_Check nt_r02_Check rs_r02_Check ac_r02_Check = true := by kernel_rfl
theorem ok_r02_Bytes : funOK prog f_r02_Bytes nt_r02_Bytes rs_r02_Bytes ac_r02_Bytes = true := by kernel_rfl
theorem ok_mac_Many : funOK prog f_mac_Many nt_mac_Many rs_mac_Many ac_mac_Many = true := by kernel_rfl
theorem ok_tag_cutter : funOK prog f_tag_cutter nt_tag_cutter rs_tag_cutter ac_tag_cutter = true := by kernel_rfl
theorem ok_tag_number : funOK prog f_tag_number nt_tag_number rs_tag_number ac_tag_number = true := by kernel_rfl
theorem ok_r01_same : funOK prog f_r01_same nt_r01_same rs_r01_same ac_r01_same = true := by kernel_rfl
theorem ok_r02_bit : funOK prog f_r02_bit nt_r02_bit rs_r02_bit ac_r02_bit = true := by kernel_rfl
theorem ok_tag_cutter_1 : funOK prog f_tag_cutter_1 nt_tag_cutter_1 rs_tag_cutter_1 ac_tag_cutter_1 = true := by kernel_rfl
def orc : Orc where
  p := fun f args => match f with
    | 3 => pFr1 args
    | 4 => pB1 args
    | 5 => pFr2 args
    | 6 => pFrB args
    | 8 => pBf1 args
    | 9 => pB1 args
    | 10 => pBfBk args
    | 11 => pBfThrough args
    | 13 => pBfHides args
    | 14 => pLight args
    | 15 => pFrEnc args
    | 16 => pFrEnc args
    | 17 => pFrCheck args
    | 18 => pYes3 args
    | 19 => pCut17 args
    | 20 => pFrDec args
    | 21 => pFrDec args
    | 22 => pFrSame args
    | 23 => pRetag args
    | 24 => pRRetag args
    | 25 => pFrSame args
    | 26 => pFrType args
    | 27 => pFrType args
    | 28 => pBfFew args
    | 29 => pBfEnc args
    | 30 => pBfEnc args
    | 31 => pBfCheck args
    | 32 => pBfCheck args
    | 33 => pInside args
    | 34 => pInside args
    | 35 => pYes3 args
    | 36 => pCut16 args
    | 37 => pBfDec args
    | 38 => pBfDec args
    | 39 => pBfSame args
    | 40 => pFrFew args
    | 41 => pHide args
    | 42 => pShow args
    | 43 => pHide args
    | 44 => pShow args
    | 45 => pBfSame args
    | 46 => pConcat8 args
    | 47 => pTagPut args
    | 48 => pPutType args
    | 49 => pFrCheck args
    | 50 => pTagPut args
    | 51 => pKind args
    | 52 => pTagCheck args
    | 53 => pMarked args
    | 54 => pPlain args
    | 55 => pTake args
    | 56 => pClone8 args
    | 57 => pMarked args
    | 58 => pTake args
    | 59 => pCarried args
    | 60 => pEqual8 args
    | 61 => pTakeType args
    | 62 => pTagPutI args
    | 64 => pTagCheckI args
    | 65 => pKind args
    | 66 => pTagIs args
    | 67 => pTagIsI args
    | 68 => pOne args
    | 72 => pTakeI args
    | 73 => pTakeI args
    | 74 => pGrow8 args
    | 75 => pNumbered args
    | 76 => pBit args
    | 77 => pWithin args
    | 78 => pTagCheck args
    | 79 => pTagBytes args
    | 80 => pMany args
    | 81 => pCutter args
    | 82 => pNumber args
    | 83 => pTagBytesI args
    | 84 => pSame1 args
    | 85 => pRBit args
    | _ => .bad
  s := fun f args h => match f with
    | 69 => sAddress args h
    | 70 => sKind args h
    | 71 => sLeftCut args h
    | 86 => sCutter args h
    | _ => .bad
  fu := fun f => match f with
    | 74 => true
    | _ => false
end Go.Vc.Seat
