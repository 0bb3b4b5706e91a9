/- The seat's code in abstract form, held against the program; what is known of its functions. -/
import Derived.Test.YtcgmmigjeghmnaaProg
import Derived.KernelRfl
import Derived.Test.YtcgmmigjeghmnaaSpTag
import Derived.Test.YtcgmmigjeghmnaaEpSpTag2
import Derived.Test.YtcgmmigjeghmnaaSpEth
import Derived.Test.YtcgmmigjeghmnaaSpBpdu
set_option linter.unusedVariables false
set_option maxRecDepth 100000
namespace Go.Vc.Seat
open Go.Vc Go.Proofs.Try
abbrev T27 : Ty := .st [.int .u64, .int .u32, .int .u64, .int .u16]
abbrev T29 : Ty := .st [.int .u8, .int .u8, .int .u8, .int .u8]
abbrev T31 : Ty := .st [.int .i64, .bool, .bool, .bool, .bool, .bool, .bool, .int .i64, .st [.int .u64, .int .u32, .int .u64, .int .u16], .st [.int .u8, .int .u8, .int .u8, .int .u8]]
abbrev T48 : Ty := .arr 6 (.int .u8)
abbrev T59 : Ty := .arr 4 (.int .u8)
abbrev T77 : Ty := .arr 5 (.int .u8)
abbrev T78 : Ty := .arr 3 (.int .u8)
abbrev T83 : Ty := .arr 4 (.int .i64)
/-- pontage/pontagelaw05.BpduBytes -/
abbrev f_l05_BpduBytes : FuncId := 3
def ac_l05_BpduBytes : AC :=
  (.seq
  (.region 0 [
    (none, .boxc 1 T31 (.t 0)),
    (none, .v 2 (.move (.k (.bool false))))])
  (.seq
  (.region 1 [
    (none, .load 8 T31 (.t 1)),
    (none, .callP (some 9) 7 [.t 8] 0 1 true),
    (none, .v 7 (.move (.t 9))),
    (none, .v 10 (.ext (.t 7) 0)),
    (none, .v 11 (.ext (.t 7) 1)),
    (none, .v 3 (.move (.t 10))),
    (none, .v 4 (.move (.t 11)))])
  (.seq
  (.region 1 [
    (none, .load 13 T31 (.t 1)),
    (none, .callP (some 14) 8 [.t 13] 0 1 true),
    (none, .v 12 (.move (.t 14))),
    (none, .v 15 (.ext (.t 12) 0)),
    (none, .v 16 (.ext (.t 12) 1)),
    (none, .v 5 (.move (.t 15))),
    (none, .v 6 (.move (.t 16)))])
  (.seq
  (.region 0 [
    (none, .v 17 (.move (.t 3))),
    (none, .v 18 (.convS true (.t 17))),
    (none, .v 19 (.move (.t 5))),
    (none, .v 20 (.convS true (.t 19))),
    (none, .v 21 (.eqT .str false (.t 18) (.t 20))),
    (none, .v 22 (.move (.t 21))),
    (some (22, true), .v 23 (.move (.t 4))),
    (some (22, true), .v 24 (.move (.t 6))),
    (some (22, true), .v 25 (.cmp .eq (.t 23) (.t 24))),
    (none, .v 26 (.pick (.t 22) (.t 25) (.k (.bool false)))),
    (none, .v 27 (.move (.t 26))),
    (some (27, true), .load 28 T31 (.t 1)),
    (some (27, true), .callP (some 29) 9 [.t 28] 0 0 true),
    (some (27, true), .v 30 (.move (.t 6))),
    (some (27, true), .v 31 (.cmp .eq (.t 29) (.t 30))),
    (none, .v 32 (.pick (.t 27) (.t 31) (.k (.bool false)))),
    (none, .v 33 (.move (.t 32))),
    (some (33, true), .callP (some 34) 10 [] 0 0 true),
    (none, .v 35 (.pick (.t 33) (.t 34) (.k (.bool false)))),
    (none, .v 2 (.move (.t 35)))])
  .ret))))
def nt_l05_BpduBytes : Nat := 36
def rs_l05_BpduBytes : List RV := [.tmp 2]
/-- pontage/pontagelaw05.BpduReads -/
abbrev f_l05_BpduReads : FuncId := 4
def ac_l05_BpduReads : AC :=
  (.seq
  (.region 0 [
    (none, .v 2 (.move (.k (.bool false))))])
  (.seq
  (.region 0 [
    (none, .v 7 (.move (.t 0))),
    (none, .callP (some 8) 11 [.t 7] 0 0 true),
    (none, .v 0 (.move (.t 8)))])
  (.seq
  (.region 1 [
    (none, .v 10 (.move (.t 0))),
    (none, .callP (some 11) 12 [.t 10] 0 0 true),
    (none, .v 9 (.move (.t 11))),
    (none, .v 12 (.ext (.t 9) 0)),
    (none, .v 13 (.ext (.t 9) 1)),
    (none, .alloc 3 0 T31),
    (none, .store T31 (.t 3) (.t 12)),
    (none, .v 4 (.move (.t 13)))])
  (.seq
  (.region 1 [
    (none, .v 15 (.move (.t 0))),
    (none, .callP (some 16) 13 [.t 15] 0 0 true),
    (none, .v 14 (.move (.t 16))),
    (none, .v 17 (.ext (.t 14) 0)),
    (none, .v 18 (.ext (.t 14) 1)),
    (none, .alloc 5 0 T31),
    (none, .store T31 (.t 5) (.t 17)),
    (none, .v 6 (.move (.t 18)))])
  (.seq
  (.region 0 [
    (none, .load 19 T31 (.t 3)),
    (none, .load 20 T31 (.t 5)),
    (none, .v 21 (.eqT T31 false (.t 19) (.t 20))),
    (none, .v 22 (.move (.t 21))),
    (some (22, true), .v 23 (.move (.t 4))),
    (some (22, true), .v 24 (.move (.t 6))),
    (some (22, true), .v 25 (.cmp .eq (.t 23) (.t 24))),
    (none, .v 26 (.pick (.t 22) (.t 25) (.k (.bool false)))),
    (none, .v 27 (.move (.t 26))),
    (some (27, true), .callP (some 28) 10 [] 0 0 true),
    (none, .v 29 (.pick (.t 27) (.t 28) (.k (.bool false)))),
    (none, .v 2 (.move (.t 29)))])
  .ret)))))
def nt_l05_BpduReads : Nat := 30
def rs_l05_BpduReads : List RV := [.tmp 2]
/-- pontage/pontagelaw05.BpduFrames -/
abbrev f_l05_BpduFrames : FuncId := 5
def ac_l05_BpduFrames : AC :=
  (.seq
  (.region 0 [
    (none, .boxc 3 T48 (.t 0)),
    (none, .boxc 4 T31 (.t 1)),
    (none, .v 6 (.move (.k (.bool false))))])
  (.seq
  (.region 0 [
    (none, .v 17 (.move (.t 2))),
    (none, .callP (some 18) 11 [.t 17] 0 0 true),
    (none, .v 2 (.move (.t 18)))])
  (.seq
  (.region 1 [
    (none, .load 20 T48 (.t 3)),
    (none, .load 21 T31 (.t 4)),
    (none, .callP (some 22) 14 [.t 20, .t 21] 0 1 true),
    (none, .v 19 (.move (.t 22))),
    (none, .v 23 (.ext (.t 19) 0)),
    (none, .v 24 (.ext (.t 19) 1)),
    (none, .v 7 (.move (.t 23))),
    (none, .v 8 (.move (.t 24)))])
  (.seq
  (.region 1 [
    (none, .load 26 T48 (.t 3)),
    (none, .load 27 T31 (.t 4)),
    (none, .callP (some 28) 15 [.t 26, .t 27] 0 1 true),
    (none, .v 25 (.move (.t 28))),
    (none, .v 29 (.ext (.t 25) 0)),
    (none, .v 30 (.ext (.t 25) 1)),
    (none, .v 9 (.move (.t 29))),
    (none, .v 10 (.move (.t 30)))])
  (.seq
  (.region 2 [
    (none, .v 32 (.move (.t 2))),
    (none, .callP (some 33) 16 [.t 32] 0 0 true),
    (none, .v 31 (.move (.t 33))),
    (none, .v 34 (.ext (.t 31) 0)),
    (none, .v 35 (.ext (.t 31) 1)),
    (none, .v 36 (.ext (.t 31) 2)),
    (none, .alloc 11 0 T48),
    (none, .alloc 12 1 T31),
    (none, .store T48 (.t 11) (.t 34)),
    (none, .store T31 (.t 12) (.t 35)),
    (none, .v 13 (.move (.t 36)))])
  (.seq
  (.region 2 [
    (none, .v 38 (.move (.t 2))),
    (none, .callP (some 39) 17 [.t 38] 0 0 true),
    (none, .v 37 (.move (.t 39))),
    (none, .v 40 (.ext (.t 37) 0)),
    (none, .v 41 (.ext (.t 37) 1)),
    (none, .v 42 (.ext (.t 37) 2)),
    (none, .alloc 14 0 T48),
    (none, .alloc 15 1 T31),
    (none, .store T48 (.t 14) (.t 40)),
    (none, .store T31 (.t 15) (.t 41)),
    (none, .v 16 (.move (.t 42)))])
  (.seq
  (.region 0 [
    (none, .v 43 (.move (.t 7))),
    (none, .v 44 (.convS true (.t 43))),
    (none, .v 45 (.move (.t 9))),
    (none, .v 46 (.convS true (.t 45))),
    (none, .v 47 (.eqT .str false (.t 44) (.t 46))),
    (none, .v 48 (.move (.t 47))),
    (some (48, true), .v 49 (.move (.t 8))),
    (some (48, true), .v 50 (.move (.t 10))),
    (some (48, true), .v 51 (.cmp .eq (.t 49) (.t 50))),
    (none, .v 52 (.pick (.t 48) (.t 51) (.k (.bool false)))),
    (none, .v 53 (.move (.t 52))),
    (some (53, true), .load 54 T48 (.t 11)),
    (some (53, true), .load 55 T48 (.t 14)),
    (some (53, true), .v 56 (.eqT T48 false (.t 54) (.t 55))),
    (none, .v 57 (.pick (.t 53) (.t 56) (.k (.bool false)))),
    (none, .v 58 (.move (.t 57))),
    (some (58, true), .load 59 T31 (.t 12)),
    (some (58, true), .load 60 T31 (.t 15)),
    (some (58, true), .v 61 (.eqT T31 false (.t 59) (.t 60))),
    (none, .v 62 (.pick (.t 58) (.t 61) (.k (.bool false)))),
    (none, .v 63 (.move (.t 62))),
    (some (63, true), .v 64 (.move (.t 13))),
    (some (63, true), .v 65 (.move (.t 16))),
    (some (63, true), .v 66 (.cmp .eq (.t 64) (.t 65))),
    (none, .v 67 (.pick (.t 63) (.t 66) (.k (.bool false)))),
    (none, .v 68 (.move (.t 67))),
    (some (68, true), .v 69 (.move (.t 2))),
    (some (68, true), .callP (some 70) 18 [.t 69] 0 0 true),
    (some (68, true), .v 71 (.move (.t 2))),
    (some (68, true), .callP (some 72) 19 [.t 71] 0 0 true),
    (some (68, true), .v 73 (.eqT .bool false (.t 70) (.t 72))),
    (none, .v 74 (.pick (.t 68) (.t 73) (.k (.bool false)))),
    (none, .v 75 (.move (.t 74))),
    (some (75, true), .callP (some 76) 10 [] 0 0 true),
    (none, .v 77 (.pick (.t 75) (.t 76) (.k (.bool false)))),
    (none, .v 6 (.move (.t 77)))])
  .ret)))))))
def nt_l05_BpduFrames : Nat := 78
def rs_l05_BpduFrames : List RV := [.tmp 6]
/-- pontage/pontagelaw05.BpduBack -/
abbrev f_l05_BpduBack : FuncId := 6
def ac_l05_BpduBack : AC :=
  (.seq
  (.region 0 [
    (none, .boxc 3 T48 (.t 0)),
    (none, .boxc 4 T31 (.t 1)),
    (none, .v 6 (.move (.k (.bool false))))])
  (.seq
  (.region 0 [
    (none, .v 20 (.move (.t 2))),
    (none, .callP (some 21) 11 [.t 20] 0 0 true),
    (none, .v 2 (.move (.t 21)))])
  (.seq
  (.seq
  (.region 1 [
    (none, .load 23 T48 (.t 3)),
    (none, .load 24 T31 (.t 4)),
    (none, .callP (some 25) 14 [.t 23, .t 24] 0 1 true),
    (none, .v 22 (.move (.t 25))),
    (none, .v 26 (.ext (.t 22) 0)),
    (none, .v 27 (.ext (.t 22) 1)),
    (none, .v 7 (.move (.t 26))),
    (none, .v 8 (.move (.t 27)))])
  (.seq
  (.region 0 [
    (none, .v 28 (.move (.t 8))),
    (none, .v 29 (.cmp .eq (.t 28) (.k (.int .i64 (0)))))])
  (.cond (.t 29)
    (.seq
    (.region 2 [
      (none, .v 31 (.move (.t 7))),
      (none, .callP (some 32) 16 [.t 31] 0 0 true),
      (none, .v 30 (.move (.t 32))),
      (none, .v 33 (.ext (.t 30) 0)),
      (none, .v 34 (.ext (.t 30) 1)),
      (none, .v 35 (.ext (.t 30) 2)),
      (none, .alloc 9 0 T48),
      (none, .alloc 10 1 T31),
      (none, .store T48 (.t 9) (.t 33)),
      (none, .store T31 (.t 10) (.t 34)),
      (none, .v 11 (.move (.t 35)))])
    (.seq
    (.seq
    (.region 0 [
      (none, .v 36 (.move (.t 11))),
      (none, .v 37 (.cmp .ne (.t 36) (.k (.int .i64 (0))))),
      (none, .v 38 (.move (.t 37))),
      (some (38, false), .load 39 T48 (.t 9)),
      (some (38, false), .load 40 T48 (.t 3)),
      (some (38, false), .v 41 (.eqT T48 true (.t 39) (.t 40))),
      (none, .v 42 (.pick (.t 38) (.k (.bool true)) (.t 41))),
      (none, .v 43 (.move (.t 42))),
      (some (43, false), .load 44 T31 (.t 10)),
      (some (43, false), .load 45 T31 (.t 4)),
      (some (43, false), .v 46 (.eqT T31 true (.t 44) (.t 45))),
      (none, .v 47 (.pick (.t 43) (.k (.bool true)) (.t 46))),
      (none, .v 48 (.move (.t 47))),
      (some (48, false), .v 49 (.move (.t 7))),
      (some (48, false), .callP (some 50) 18 [.t 49] 0 0 true),
      (some (48, false), .v 51 (.not (.t 50))),
      (none, .v 52 (.pick (.t 48) (.k (.bool true)) (.t 51)))])
    (.cond (.t 52)
      (.seq
      (.region 0 [
        (none, .v 6 (.move (.k (.bool false))))])
      .ret)
      .skip))
    (.seq
    (.region 0 [
      (none, .v 12 (.move (.k (.int .i64 (4)))))])
    (.seq
    (.seq
    (.region 0 [
      (none, .v 53 (.fadr T31 0 (.t 4))),
      (none, .load 54 (.int .i64) (.t 53))])
    (.block 0
      (.seq
      (.region 0 [
        (none, .v 56 (.cmp .eq (.t 54) (.k (.int .i64 (1))))),
        (none, .v 55 (.move (.t 56)))])
      (.cond (.t 55)
        (.region 0 [
          (none, .v 12 (.move (.k (.int .i64 (35)))))])
        (.seq
        (.region 0 [
          (none, .v 58 (.cmp .eq (.t 54) (.k (.int .i64 (3))))),
          (none, .v 57 (.move (.t 58)))])
        (.cond (.t 57)
          (.region 0 [
            (none, .v 12 (.move (.k (.int .i64 (36)))))])
          .skip))))))
    (.seq
    (.region 1 [
      (none, .load 60 T31 (.t 4)),
      (none, .callP (some 61) 7 [.t 60] 0 1 true),
      (none, .v 59 (.move (.t 61))),
      (none, .v 62 (.ext (.t 59) 0)),
      (none, .v 63 (.ext (.t 59) 1)),
      (none, .v 13 (.move (.t 62))),
      (none, .v 14 (.move (.t 63)))])
    (.seq
    (.region 0 [
      (none, .v 64 (.move (.t 14))),
      (none, .v 65 (.cmp .ne (.t 64) (.k (.int .i64 (0))))),
      (none, .v 66 (.move (.t 65))),
      (some (66, false), .v 67 (.move (.t 13))),
      (some (66, false), .v 68 (.len false (.t 67))),
      (some (66, false), .v 69 (.move (.t 12))),
      (some (66, false), .v 70 (.cmp .ne (.t 68) (.t 69))),
      (none, .v 71 (.pick (.t 66) (.k (.bool true)) (.t 70))),
      (none, .v 72 (.move (.t 71))),
      (some (72, false), .v 73 (.move (.t 7))),
      (some (72, false), .v 74 (.len false (.t 73))),
      (some (72, false), .v 75 (.move (.t 12))),
      (some (72, false), .v 76 (.add (.t 75) (.k (.int .i64 (17))))),
      (some (72, false), .v 77 (.cmp .ne (.t 74) (.t 76))),
      (none, .v 78 (.pick (.t 72) (.k (.bool true)) (.t 77)))])
    (.cond (.t 78)
      (.seq
      (.region 0 [
        (none, .v 6 (.move (.k (.bool false))))])
      .ret)
      .skip)))))))
    .skip)))
  (.seq
  (.region 2 [
    (none, .v 80 (.move (.t 2))),
    (none, .callP (some 81) 16 [.t 80] 0 0 true),
    (none, .v 79 (.move (.t 81))),
    (none, .v 82 (.ext (.t 79) 0)),
    (none, .v 83 (.ext (.t 79) 1)),
    (none, .v 84 (.ext (.t 79) 2)),
    (none, .alloc 15 0 T48),
    (none, .alloc 16 1 T31),
    (none, .store T48 (.t 15) (.t 82)),
    (none, .store T31 (.t 16) (.t 83)),
    (none, .v 17 (.move (.t 84)))])
  (.seq
  (.seq
  (.region 0 [
    (none, .v 85 (.move (.t 17))),
    (none, .v 86 (.cmp .ne (.t 85) (.k (.int .i64 (0)))))])
  (.cond (.t 86)
    (.seq
    (.region 0 [
      (none, .load 87 T31 (.t 16)),
      (none, .v 88 (.build T31 [])),
      (none, .v 89 (.eqT T31 false (.t 87) (.t 88))),
      (none, .v 90 (.move (.t 89))),
      (some (90, true), .load 91 T48 (.t 15)),
      (some (90, true), .v 92 (.build T48 [])),
      (some (90, true), .v 93 (.eqT T48 false (.t 91) (.t 92))),
      (none, .v 94 (.pick (.t 90) (.t 93) (.k (.bool false)))),
      (none, .v 95 (.move (.t 94))),
      (some (95, true), .callP (some 96) 10 [] 0 0 true),
      (none, .v 97 (.pick (.t 95) (.t 96) (.k (.bool false)))),
      (none, .v 6 (.move (.t 97)))])
    .ret)
    .skip))
  (.seq
  (.region 1 [
    (none, .load 99 T48 (.t 15)),
    (none, .load 100 T31 (.t 16)),
    (none, .callP (some 101) 14 [.t 99, .t 100] 0 1 true),
    (none, .v 98 (.move (.t 101))),
    (none, .v 102 (.ext (.t 98) 0)),
    (none, .v 103 (.ext (.t 98) 1)),
    (none, .v 18 (.move (.t 102))),
    (none, .v 19 (.move (.t 103)))])
  (.seq
  (.region 0 [
    (none, .v 104 (.move (.t 19))),
    (none, .v 105 (.cmp .eq (.t 104) (.k (.int .i64 (0))))),
    (none, .v 106 (.move (.t 105))),
    (some (106, true), .v 107 (.move (.t 18))),
    (some (106, true), .v 108 (.convS true (.t 107))),
    (some (106, true), .v 109 (.move (.t 2))),
    (some (106, true), .v 110 (.convS true (.t 109))),
    (some (106, true), .v 111 (.eqT .str false (.t 108) (.t 110))),
    (none, .v 112 (.pick (.t 106) (.t 111) (.k (.bool false)))),
    (none, .v 113 (.move (.t 112))),
    (some (113, true), .callP (some 114) 10 [] 0 0 true),
    (none, .v 115 (.pick (.t 113) (.t 114) (.k (.bool false)))),
    (none, .v 6 (.move (.t 115)))])
  .ret)))))))
def nt_l05_BpduBack : Nat := 116
def rs_l05_BpduBack : List RV := [.tmp 6]
/-- pontage/bpdu.Bytes -/
abbrev f_bpdu_Bytes : FuncId := 7
def ac_bpdu_Bytes : AC :=
  (.seq
  (.region 0 [
    (none, .boxc 1 T31 (.t 0)),
    (none, .v 2 (.move (.k (.sl (.int .u8) [] .full)))),
    (none, .v 3 (.move (.k (.int .i64 (0)))))])
  (.seq
  (.seq
  (.region 0 [
    (none, .load 8 T31 (.t 1)),
    (none, .callP (some 9) 9 [.t 8] 0 0 true),
    (none, .v 4 (.move (.t 9)))])
  (.seq
  (.region 0 [
    (none, .v 10 (.move (.t 4))),
    (none, .v 11 (.cmp .ne (.t 10) (.k (.int .i64 (0)))))])
  (.cond (.t 11)
    (.seq
    (.region 0 [
      (none, .v 12 (.move (.t 4))),
      (none, .v 2 (.move (.k (.sl (.int .u8) [] .full)))),
      (none, .v 3 (.move (.t 12)))])
    .ret)
    .skip)))
  (.seq
  (.region 1 [
    (none, .lit 13 0 (.int .u8) 2 [(0, .k (.int .u8 (0))), (1, .k (.int .u8 (0)))] false),
    (none, .v 5 (.move (.t 13)))])
  (.seq
  (.seq
  (.region 0 [
    (none, .v 14 (.fadr T31 0 (.t 1))),
    (none, .load 15 (.int .i64) (.t 14))])
  (.block 0
    (.seq
    (.region 0 [
      (none, .v 20 (.cmp .eq (.t 15) (.k (.int .i64 (2))))),
      (none, .v 19 (.move (.t 20)))])
    (.cond (.t 19)
      (.seq
      (.region 2 [
        (none, .v 21 (.move (.t 5))),
        (none, .lit 22 0 (.int .u8) 2 [(0, .k (.int .u8 (0))), (1, .k (.int .u8 (128)))] false),
        (none, .app 23 1 (.int .u8) 1 (.t 21) (.t 22) false),
        (none, .v 2 (.move (.t 23))),
        (none, .v 3 (.move (.k (.int .i64 (0)))))])
      .ret)
      (.seq
      (.region 0 [
        (none, .v 25 (.cmp .eq (.t 15) (.k (.int .i64 (3))))),
        (none, .v 24 (.move (.t 25)))])
      (.cond (.t 24)
        (.region 2 [
          (none, .v 26 (.move (.t 5))),
          (none, .lit 27 0 (.int .u8) 2 [(0, .k (.int .u8 (2))), (1, .k (.int .u8 (2)))] false),
          (none, .app 28 1 (.int .u8) 1 (.t 26) (.t 27) false),
          (none, .v 5 (.move (.t 28)))])
        (.region 2 [
          (none, .v 16 (.move (.t 5))),
          (none, .lit 17 0 (.int .u8) 2 [(0, .k (.int .u8 (0))), (1, .k (.int .u8 (0)))] false),
          (none, .app 18 1 (.int .u8) 1 (.t 16) (.t 17) false),
          (none, .v 5 (.move (.t 18)))])))))))
  (.seq
  (.region 2 [
    (none, .v 29 (.move (.t 5))),
    (none, .load 30 T31 (.t 1)),
    (none, .callP (some 31) 20 [.t 30] 0 0 true),
    (none, .lit 32 0 (.int .u8) 1 [(0, .t 31)] false),
    (none, .app 33 1 (.int .u8) 1 (.t 29) (.t 32) false),
    (none, .v 5 (.move (.t 33)))])
  (.seq
  (.region 1 [
    (none, .v 34 (.move (.t 5))),
    (none, .v 35 (.fadr T31 8 (.t 1))),
    (none, .v 36 (.fadr T27 0 (.t 35))),
    (none, .load 37 (.int .u64) (.t 36)),
    (none, .callS (some 38) (.k (.fn 21 [])) [.t 34, .t 37, .k (.int .i64 (8))] [(0, 0, (.int .u8))] [21]),
    (none, .v 5 (.move (.t 38)))])
  (.seq
  (.region 1 [
    (none, .v 39 (.move (.t 5))),
    (none, .v 40 (.fadr T31 8 (.t 1))),
    (none, .v 41 (.fadr T27 1 (.t 40))),
    (none, .load 42 (.int .u32) (.t 41)),
    (none, .v 43 (.conv .u64 (.t 42))),
    (none, .callS (some 44) (.k (.fn 21 [])) [.t 39, .t 43, .k (.int .i64 (4))] [(0, 0, (.int .u8))] [21]),
    (none, .v 5 (.move (.t 44)))])
  (.seq
  (.region 1 [
    (none, .v 45 (.move (.t 5))),
    (none, .v 46 (.fadr T31 8 (.t 1))),
    (none, .v 47 (.fadr T27 2 (.t 46))),
    (none, .load 48 (.int .u64) (.t 47)),
    (none, .callS (some 49) (.k (.fn 21 [])) [.t 45, .t 48, .k (.int .i64 (8))] [(0, 0, (.int .u8))] [21]),
    (none, .v 5 (.move (.t 49)))])
  (.seq
  (.region 1 [
    (none, .v 50 (.move (.t 5))),
    (none, .v 51 (.fadr T31 8 (.t 1))),
    (none, .v 52 (.fadr T27 3 (.t 51))),
    (none, .load 53 (.int .u16) (.t 52)),
    (none, .v 54 (.conv .u64 (.t 53))),
    (none, .callS (some 55) (.k (.fn 21 [])) [.t 50, .t 54, .k (.int .i64 (2))] [(0, 0, (.int .u8))] [21]),
    (none, .v 5 (.move (.t 55)))])
  (.seq
  (.seq
  (.region 0 [
    (none, .v 56 (.fadr T31 9 (.t 1))),
    (none, .v 57 (.fadr T29 0 (.t 56))),
    (none, .load 58 (.int .u8) (.t 57)),
    (none, .v 59 (.fadr T31 9 (.t 1))),
    (none, .v 60 (.fadr T29 1 (.t 59))),
    (none, .load 61 (.int .u8) (.t 60)),
    (none, .v 62 (.fadr T31 9 (.t 1))),
    (none, .v 63 (.fadr T29 2 (.t 62))),
    (none, .load 64 (.int .u8) (.t 63)),
    (none, .v 65 (.fadr T31 9 (.t 1))),
    (none, .v 66 (.fadr T29 3 (.t 65))),
    (none, .load 67 (.int .u8) (.t 66)),
    (none, .v 68 (.build T59 [(0, .t 58), (1, .t 61), (2, .t 64), (3, .t 67)])),
    (none, .v 69 (.move (.k (.int .i64 (0)))))])
  (.block 1
    (.loop [1, 5, 68, 69]
      (.seq
      (.region 0 [
        (none, .v 70 (.cmp .lt (.t 69) (.k (.int .i64 (4)))))])
      (.seq
      (.cond (.t 70)
        .skip
        (.exit 1))
      (.seq
      (.block 2
        (.seq
        (.region 0 [
          (none, .v 71 (.aidx 4 (.int .u8) (.t 68) (.t 69))),
          (none, .v 7 (.move (.t 71)))])
        (.region 2 [
          (none, .v 72 (.move (.t 5))),
          (none, .v 73 (.move (.t 7))),
          (none, .lit 74 0 (.int .u8) 2 [(0, .t 73), (1, .k (.int .u8 (0)))] false),
          (none, .app 75 1 (.int .u8) 1 (.t 72) (.t 74) false),
          (none, .v 5 (.move (.t 75)))])))
      (.region 0 [
        (none, .v 76 (.add (.t 69) (.k (.int .i64 (1))))),
        (none, .v 69 (.move (.t 76)))])))))))
  (.seq
  (.seq
  (.region 0 [
    (none, .v 77 (.fadr T31 0 (.t 1))),
    (none, .load 78 (.int .i64) (.t 77)),
    (none, .v 79 (.cmp .eq (.t 78) (.k (.int .i64 (3)))))])
  (.cond (.t 79)
    (.region 2 [
      (none, .v 80 (.move (.t 5))),
      (none, .lit 81 0 (.int .u8) 1 [(0, .k (.int .u8 (0)))] false),
      (none, .app 82 1 (.int .u8) 1 (.t 80) (.t 81) false),
      (none, .v 5 (.move (.t 82)))])
    .skip))
  (.seq
  (.region 0 [
    (none, .v 83 (.move (.t 5))),
    (none, .v 2 (.move (.t 83))),
    (none, .v 3 (.move (.k (.int .i64 (0)))))])
  .ret))))))))))))
def nt_bpdu_Bytes : Nat := 84
def rs_bpdu_Bytes : List RV := [.tmp 2, .tmp 3]
/-- pontage/pontageref05.Bytes -/
abbrev f_r05_Bytes : FuncId := 8
def ac_r05_Bytes : AC :=
  (.seq
  (.region 0 [
    (none, .boxc 1 T31 (.t 0)),
    (none, .v 2 (.move (.k (.sl (.int .u8) [] .full)))),
    (none, .v 3 (.move (.k (.int .i64 (0)))))])
  (.seq
  (.seq
  (.region 0 [
    (none, .load 6 T31 (.t 1)),
    (none, .callP (some 7) 22 [.t 6] 0 0 true),
    (none, .v 8 (.not (.t 7)))])
  (.cond (.t 8)
    (.seq
    (.region 0 [
      (none, .v 2 (.move (.k (.sl (.int .u8) [] .full)))),
      (none, .v 3 (.move (.k (.int .i64 (50)))))])
    .ret)
    .skip))
  (.seq
  (.seq
  (.region 0 [
    (none, .v 9 (.fadr T31 0 (.t 1))),
    (none, .load 10 (.int .i64) (.t 9)),
    (none, .v 11 (.cmp .eq (.t 10) (.k (.int .i64 (2)))))])
  (.cond (.t 11)
    (.seq
    (.region 1 [
      (none, .lit 12 0 (.int .u8) 4 [(0, .k (.int .u8 (0))), (1, .k (.int .u8 (0))), (2, .k (.int .u8 (0))), (3, .k (.int .u8 (128)))] false),
      (none, .v 2 (.move (.t 12))),
      (none, .v 3 (.move (.k (.int .i64 (0)))))])
    .ret)
    .skip))
  (.seq
  (.region 1 [
    (none, .lit 13 0 (.int .u8) 4 [(0, .k (.int .u8 (0))), (1, .k (.int .u8 (0))), (2, .k (.int .u8 (0))), (3, .k (.int .u8 (0)))] false),
    (none, .v 4 (.move (.t 13)))])
  (.seq
  (.draw 0 [[], [], [1], [], []] [
    (none, .v 14 (.fadr T31 1 (.t 1))),
    (none, .load 15 .bool (.t 14)),
    (none, .callP (some 16) 23 [.t 15, .k (.int .i64 (1))] 0 0 false),
    (none, .v 17 (.fadr T31 2 (.t 1))),
    (none, .load 18 .bool (.t 17))] [
    (none, .callP (some 19) 23 [.t 18, .k (.int .i64 (128))] 0 0 true),
    (none, .v 20 (.add (.t 16) (.t 19))),
    (none, .v 5 (.move (.t 20)))])
  (.seq
  (.seq
  (.region 0 [
    (none, .v 21 (.fadr T31 0 (.t 1))),
    (none, .load 22 (.int .i64) (.t 21)),
    (none, .v 23 (.cmp .eq (.t 22) (.k (.int .i64 (3)))))])
  (.cond (.t 23)
    (.seq
    (.region 1 [
      (none, .lit 24 0 (.int .u8) 4 [(0, .k (.int .u8 (0))), (1, .k (.int .u8 (0))), (2, .k (.int .u8 (2))), (3, .k (.int .u8 (2)))] false),
      (none, .v 4 (.move (.t 24)))])
    (.draw 0 [[], [], [1], [], [], [1, 2, 4], [], [], [], [1, 2, 4, 5, 8], [], [], [], [], [1, 2, 4, 5, 8, 9, 13], [], [], [], [1, 2, 4, 5, 8, 9, 13, 14, 17], [], [], [], [1, 2, 4, 5, 8, 9, 13, 14, 17, 18, 21]] [
      (none, .v 25 (.fadr T31 1 (.t 1))),
      (none, .load 26 .bool (.t 25)),
      (none, .callP (some 27) 23 [.t 26, .k (.int .i64 (1))] 0 0 false),
      (none, .v 28 (.fadr T31 3 (.t 1))),
      (none, .load 29 .bool (.t 28)),
      (none, .callP (some 30) 23 [.t 29, .k (.int .i64 (2))] 0 0 false),
      (none, .v 31 (.add (.t 27) (.t 30))),
      (none, .v 32 (.fadr T31 7 (.t 1))),
      (none, .load 33 (.int .i64) (.t 32)),
      (none, .callP (some 34) 24 [.t 33] 0 0 false),
      (none, .v 35 (.mul (.k (.int .i64 (4))) (.t 34))),
      (none, .v 36 (.add (.t 31) (.t 35))),
      (none, .v 37 (.fadr T31 4 (.t 1))),
      (none, .load 38 .bool (.t 37)),
      (none, .callP (some 39) 23 [.t 38, .k (.int .i64 (16))] 0 0 false),
      (none, .v 40 (.add (.t 36) (.t 39))),
      (none, .v 41 (.fadr T31 5 (.t 1))),
      (none, .load 42 .bool (.t 41)),
      (none, .callP (some 43) 23 [.t 42, .k (.int .i64 (32))] 0 0 false),
      (none, .v 44 (.add (.t 40) (.t 43))),
      (none, .v 45 (.fadr T31 6 (.t 1))),
      (none, .load 46 .bool (.t 45)),
      (none, .callP (some 47) 23 [.t 46, .k (.int .i64 (64))] 0 0 false)] [
      (none, .v 48 (.add (.t 44) (.t 47))),
      (none, .v 5 (.move (.t 48)))]))
    .skip))
  (.seq
  (.draw 3 [[], [], [], [], [3], [], [], []] [
    (none, .v 49 (.move (.t 4))),
    (none, .v 50 (.move (.t 5))),
    (none, .v 51 (.conv .u8 (.t 50))),
    (none, .lit 52 0 (.int .u8) 1 [(0, .t 51)] false),
    (none, .app 53 1 (.int .u8) 1 (.t 49) (.t 52) false),
    (none, .v 54 (.fadr T31 8 (.t 1))),
    (none, .v 55 (.fadr T27 0 (.t 54))),
    (none, .load 56 (.int .u64) (.t 55))] [
    (none, .callP (some 57) 25 [.t 56, .k (.int .i64 (8))] 2 0 true),
    (none, .app 58 2 (.int .u8) 1 (.t 53) (.t 57) false),
    (none, .v 4 (.move (.t 58)))])
  (.seq
  (.draw 2 [[], [], [], [], [], [3], [3, 5], [], [], []] [
    (none, .v 59 (.move (.t 4))),
    (none, .v 60 (.fadr T31 8 (.t 1))),
    (none, .v 61 (.fadr T27 1 (.t 60))),
    (none, .load 62 (.int .u32) (.t 61)),
    (none, .v 63 (.conv .u64 (.t 62))),
    (none, .callP (some 64) 25 [.t 63, .k (.int .i64 (4))] 0 0 false),
    (none, .app 65 0 (.int .u8) 1 (.t 59) (.t 64) false),
    (none, .v 66 (.fadr T31 8 (.t 1))),
    (none, .v 67 (.fadr T27 2 (.t 66))),
    (none, .load 68 (.int .u64) (.t 67))] [
    (none, .callP (some 69) 25 [.t 68, .k (.int .i64 (8))] 1 0 true),
    (none, .app 70 1 (.int .u8) 1 (.t 65) (.t 69) false),
    (none, .v 4 (.move (.t 70)))])
  (.seq
  (.draw 3 [[], [], [], [], [], [3], [3, 5], [], [], [], [], [], [], [], [], [], [], [], [], [9, 12, 15, 18]] [
    (none, .v 71 (.move (.t 4))),
    (none, .v 72 (.fadr T31 8 (.t 1))),
    (none, .v 73 (.fadr T27 3 (.t 72))),
    (none, .load 74 (.int .u16) (.t 73)),
    (none, .v 75 (.conv .u64 (.t 74))),
    (none, .callP (some 76) 25 [.t 75, .k (.int .i64 (2))] 0 0 false),
    (none, .app 77 0 (.int .u8) 1 (.t 71) (.t 76) false),
    (none, .v 78 (.fadr T31 9 (.t 1))),
    (none, .v 79 (.fadr T29 0 (.t 78))),
    (none, .load 80 (.int .u8) (.t 79)),
    (none, .v 81 (.fadr T31 9 (.t 1))),
    (none, .v 82 (.fadr T29 1 (.t 81))),
    (none, .load 83 (.int .u8) (.t 82)),
    (none, .v 84 (.fadr T31 9 (.t 1))),
    (none, .v 85 (.fadr T29 2 (.t 84))),
    (none, .load 86 (.int .u8) (.t 85)),
    (none, .v 87 (.fadr T31 9 (.t 1))),
    (none, .v 88 (.fadr T29 3 (.t 87))),
    (none, .load 89 (.int .u8) (.t 88)),
    (none, .lit 90 1 (.int .u8) 8 [(0, .t 80), (1, .k (.int .u8 (0))), (2, .t 83), (3, .k (.int .u8 (0))), (4, .t 86), (5, .k (.int .u8 (0))), (6, .t 89), (7, .k (.int .u8 (0)))] false)] [
    (none, .app 91 2 (.int .u8) 1 (.t 77) (.t 90) false),
    (none, .v 4 (.move (.t 91)))])
  (.seq
  (.seq
  (.region 0 [
    (none, .v 92 (.fadr T31 0 (.t 1))),
    (none, .load 93 (.int .i64) (.t 92)),
    (none, .v 94 (.cmp .eq (.t 93) (.k (.int .i64 (3)))))])
  (.cond (.t 94)
    (.region 2 [
      (none, .v 95 (.move (.t 4))),
      (none, .lit 96 0 (.int .u8) 1 [(0, .k (.int .u8 (0)))] false),
      (none, .app 97 1 (.int .u8) 1 (.t 95) (.t 96) false),
      (none, .v 4 (.move (.t 97)))])
    .skip))
  (.seq
  (.region 0 [
    (none, .v 98 (.move (.t 4))),
    (none, .v 2 (.move (.t 98))),
    (none, .v 3 (.move (.k (.int .i64 (0)))))])
  .ret)))))))))))
def nt_r05_Bytes : Nat := 99
def rs_r05_Bytes : List RV := [.tmp 2, .tmp 3]
/-- pontage/bpdu.Check -/
abbrev f_bpdu_Check : FuncId := 9
def ac_bpdu_Check : AC :=
  (.seq
  (.region 0 [
    (none, .boxc 1 T31 (.t 0)),
    (none, .v 2 (.move (.k (.int .i64 (0)))))])
  (.seq
  (.region 0 [
    (none, .v 3 (.move (.k (.bool false))))])
  (.seq
  (.seq
  (.region 0 [
    (none, .v 4 (.fadr T31 0 (.t 1))),
    (none, .load 5 (.int .i64) (.t 4))])
  (.block 0
    (.seq
    (.region 0 [
      (none, .v 7 (.cmp .eq (.t 5) (.k (.int .i64 (2))))),
      (none, .v 6 (.move (.t 7)))])
    (.cond (.t 6)
      (.region 0 [
        (none, .load 8 T31 (.t 1)),
        (none, .v 9 (.build T31 [(0, .k (.int .i64 (2)))])),
        (none, .v 10 (.eqT T31 false (.t 8) (.t 9))),
        (none, .v 3 (.move (.t 10)))])
      (.seq
      (.region 0 [
        (none, .v 12 (.cmp .eq (.t 5) (.k (.int .i64 (1))))),
        (none, .v 11 (.move (.t 12)))])
      (.cond (.t 11)
        (.region 0 [
          (none, .load 13 T31 (.t 1)),
          (none, .v 14 (.fadr T31 1 (.t 1))),
          (none, .load 15 .bool (.t 14)),
          (none, .v 16 (.fadr T31 2 (.t 1))),
          (none, .load 17 .bool (.t 16)),
          (none, .v 18 (.fadr T31 8 (.t 1))),
          (none, .load 19 T27 (.t 18)),
          (none, .v 20 (.fadr T31 9 (.t 1))),
          (none, .load 21 T29 (.t 20)),
          (none, .v 22 (.build T31 [(0, .k (.int .i64 (1))), (1, .t 15), (2, .t 17), (8, .t 19), (9, .t 21)])),
          (none, .v 23 (.eqT T31 false (.t 13) (.t 22))),
          (none, .v 3 (.move (.t 23)))])
        (.seq
        (.region 0 [
          (none, .v 25 (.cmp .eq (.t 5) (.k (.int .i64 (3))))),
          (none, .v 24 (.move (.t 25)))])
        (.cond (.t 24)
          (.region 0 [
            (none, .v 26 (.fadr T31 2 (.t 1))),
            (none, .load 27 .bool (.t 26)),
            (none, .v 28 (.not (.t 27))),
            (none, .v 29 (.move (.t 28))),
            (some (29, true), .v 30 (.fadr T31 7 (.t 1))),
            (some (29, true), .load 31 (.int .i64) (.t 30)),
            (some (29, true), .callP (some 32) 26 [.t 31] 0 0 true),
            (some (29, true), .v 33 (.cmp .ge (.t 32) (.k (.int .i64 (0))))),
            (none, .v 34 (.pick (.t 29) (.t 33) (.k (.bool false)))),
            (none, .v 3 (.move (.t 34)))])
          .skip))))))))
  (.seq
  (.seq
  (.region 0 [
    (none, .v 35 (.move (.t 3))),
    (none, .v 36 (.not (.t 35)))])
  (.cond (.t 36)
    (.seq
    (.region 0 [
      (none, .v 2 (.move (.k (.int .i64 (50)))))])
    .ret)
    .skip))
  (.seq
  (.region 0 [
    (none, .v 2 (.move (.k (.int .i64 (0)))))])
  .ret)))))
def nt_bpdu_Check : Nat := 37
def rs_bpdu_Check : List RV := [.tmp 2]
/-- pontage/pontagelaw05.awake -/
abbrev f_l05_awake : FuncId := 10
def ac_l05_awake : AC :=
  (.seq
  (.region 0 [
    (none, .v 0 (.move (.k (.bool false))))])
  (.seq
  (.region 1 [
    (none, .v 9 (.build T48 [(0, .k (.int .u8 (2))), (1, .k (.int .u8 (0))), (2, .k (.int .u8 (0))), (3, .k (.int .u8 (0))), (4, .k (.int .u8 (0))), (5, .k (.int .u8 (1)))])),
    (none, .v 10 (.build T31 [(0, .k (.int .i64 (2)))])),
    (none, .callP (some 11) 14 [.t 9, .t 10] 0 1 true),
    (none, .v 8 (.move (.t 11))),
    (none, .v 12 (.ext (.t 8) 0)),
    (none, .v 13 (.ext (.t 8) 1)),
    (none, .v 1 (.move (.t 12))),
    (none, .v 2 (.move (.t 13)))])
  (.seq
  (.region 2 [
    (none, .v 15 (.move (.t 1))),
    (none, .callP (some 16) 16 [.t 15] 0 0 true),
    (none, .v 14 (.move (.t 16))),
    (none, .v 17 (.ext (.t 14) 0)),
    (none, .v 18 (.ext (.t 14) 1)),
    (none, .v 19 (.ext (.t 14) 2)),
    (none, .alloc 3 0 T48),
    (none, .alloc 4 1 T31),
    (none, .store T48 (.t 3) (.t 17)),
    (none, .store T31 (.t 4) (.t 18)),
    (none, .v 5 (.move (.t 19)))])
  (.seq
  (.region 1 [
    (none, .callP (some 21) 12 [.k (.sl (.int .u8) [] .full)] 0 0 true),
    (none, .v 20 (.move (.t 21))),
    (none, .v 22 (.ext (.t 20) 0)),
    (none, .v 23 (.ext (.t 20) 1)),
    (none, .alloc 6 0 T31),
    (none, .store T31 (.t 6) (.t 22)),
    (none, .v 7 (.move (.t 23)))])
  (.seq
  (.region 0 [
    (none, .v 24 (.move (.t 2))),
    (none, .v 25 (.cmp .eq (.t 24) (.k (.int .i64 (0))))),
    (none, .v 26 (.move (.t 25))),
    (some (26, true), .v 27 (.move (.t 1))),
    (some (26, true), .v 28 (.convS true (.t 27))),
    (some (26, true), .v 29 (.eqT .str false (.t 28) (.k (.str ⟨#[1, 128, 194, 0, 0, 0, 2, 0, 0, 0, 0, 1, 0, 7, 66, 66, 3, 0, 0, 0, 128]⟩)))),
    (none, .v 30 (.pick (.t 26) (.t 29) (.k (.bool false)))),
    (none, .v 31 (.move (.t 30))),
    (some (31, true), .v 32 (.move (.t 5))),
    (some (31, true), .v 33 (.cmp .eq (.t 32) (.k (.int .i64 (0))))),
    (none, .v 34 (.pick (.t 31) (.t 33) (.k (.bool false)))),
    (none, .v 35 (.move (.t 34))),
    (some (35, true), .load 36 T48 (.t 3)),
    (some (35, true), .v 37 (.build T48 [(0, .k (.int .u8 (2))), (1, .k (.int .u8 (0))), (2, .k (.int .u8 (0))), (3, .k (.int .u8 (0))), (4, .k (.int .u8 (0))), (5, .k (.int .u8 (1)))])),
    (some (35, true), .v 38 (.eqT T48 false (.t 36) (.t 37))),
    (none, .v 39 (.pick (.t 35) (.t 38) (.k (.bool false)))),
    (none, .v 40 (.move (.t 39))),
    (some (40, true), .load 41 T31 (.t 4)),
    (some (40, true), .v 42 (.build T31 [(0, .k (.int .i64 (2)))])),
    (some (40, true), .v 43 (.eqT T31 false (.t 41) (.t 42))),
    (none, .v 44 (.pick (.t 40) (.t 43) (.k (.bool false)))),
    (none, .v 45 (.move (.t 44))),
    (some (45, true), .v 46 (.move (.t 7))),
    (some (45, true), .v 47 (.cmp .eq (.t 46) (.k (.int .i64 (6))))),
    (none, .v 48 (.pick (.t 45) (.t 47) (.k (.bool false)))),
    (none, .v 49 (.move (.t 48))),
    (some (49, true), .v 50 (.move (.t 1))),
    (some (49, true), .callP (some 51) 18 [.t 50] 0 0 true),
    (none, .v 52 (.pick (.t 49) (.t 51) (.k (.bool false)))),
    (none, .v 53 (.move (.t 52))),
    (some (53, true), .v 54 (.build T31 [])),
    (some (53, true), .callP (some 55) 9 [.t 54] 0 0 true),
    (some (53, true), .v 56 (.cmp .eq (.t 55) (.k (.int .i64 (50))))),
    (none, .v 57 (.pick (.t 53) (.t 56) (.k (.bool false)))),
    (none, .v 0 (.move (.t 57)))])
  .ret)))))
def nt_l05_awake : Nat := 58
def rs_l05_awake : List RV := [.tmp 0]
/-- pontage/pontagelaw05.cut -/
abbrev f_l05_cut : FuncId := 11
def ac_l05_cut : AC :=
  (.seq
  (.region 0 [
    (none, .v 2 (.move (.k (.sl (.int .u8) [] .full))))])
  (.seq
  (.region 0 [
    (none, .v 3 (.move (.t 0))),
    (none, .v 4 (.move (.t 0))),
    (none, .v 5 (.len false (.t 4))),
    (none, .v 6 (.min (.t 5) (.k (.int .i64 (100))))),
    (none, .v 7 (.slice (.int .u8) (.t 3) none (some (.t 6)) none)),
    (none, .v 2 (.move (.t 7)))])
  .ret))
def nt_l05_cut : Nat := 8
def rs_l05_cut : List RV := [.tmp 2]
/-- pontage/bpdu.Read -/
abbrev f_bpdu_Read : FuncId := 12
def ac_bpdu_Read : AC :=
  (.seq
  (.region 1 [
    (none, .alloc 2 0 T31),
    (none, .v 3 (.move (.k (.int .i64 (0)))))])
  (.seq
  (.seq
  (.region 0 [
    (none, .v 7 (.move (.t 0))),
    (none, .v 8 (.len false (.t 7))),
    (none, .v 9 (.cmp .lt (.t 8) (.k (.int .i64 (4)))))])
  (.cond (.t 9)
    (.seq
    (.region 0 [
      (none, .v 10 (.build T31 [])),
      (none, .store T31 (.t 2) (.t 10)),
      (none, .v 3 (.move (.k (.int .i64 (6)))))])
    .ret)
    .skip))
  (.seq
  (.region 1 [
    (none, .alloc 4 0 T31)])
  (.seq
  (.block 0
    (.seq
    (.region 0 [
      (none, .v 13 (.move (.t 0))),
      (none, .v 14 (.len false (.t 13))),
      (none, .v 15 (.cmp .eq (.t 14) (.k (.int .i64 (4))))),
      (none, .v 12 (.move (.t 15)))])
    (.cond (.t 12)
      (.region 0 [
        (none, .v 16 (.build T31 [(0, .k (.int .i64 (2)))])),
        (none, .store T31 (.t 4) (.t 16))])
      (.seq
      (.region 0 [
        (none, .v 18 (.move (.t 0))),
        (none, .v 19 (.len false (.t 18))),
        (none, .v 20 (.cmp .eq (.t 19) (.k (.int .i64 (35))))),
        (none, .v 17 (.move (.t 20)))])
      (.cond (.t 17)
        (.region 0 [
          (none, .v 21 (.build T31 [(0, .k (.int .i64 (1)))])),
          (none, .v 22 (.move (.t 0))),
          (none, .callP (some 23) 27 [.t 21, .t 22] 0 0 true),
          (none, .store T31 (.t 4) (.t 23))])
        (.seq
        (.region 0 [
          (none, .v 25 (.move (.t 0))),
          (none, .v 26 (.len false (.t 25))),
          (none, .v 27 (.cmp .eq (.t 26) (.k (.int .i64 (36))))),
          (none, .v 24 (.move (.t 27)))])
        (.cond (.t 24)
          (.region 0 [
            (none, .v 28 (.build T31 [(0, .k (.int .i64 (3)))])),
            (none, .v 29 (.move (.t 0))),
            (none, .callP (some 30) 27 [.t 28, .t 29] 0 0 true),
            (none, .store T31 (.t 4) (.t 30))])
          (.seq
          (.region 0 [
            (none, .v 11 (.build T31 [])),
            (none, .store T31 (.t 2) (.t 11)),
            (none, .v 3 (.move (.k (.int .i64 (50)))))])
          .ret))))))))
  (.seq
  (.seq
  (.region 1 [
    (none, .load 32 T31 (.t 4)),
    (none, .callP (some 33) 7 [.t 32] 0 1 true),
    (none, .v 31 (.move (.t 33))),
    (none, .v 34 (.ext (.t 31) 0)),
    (none, .v 35 (.ext (.t 31) 1)),
    (none, .v 5 (.move (.t 34))),
    (none, .v 6 (.move (.t 35)))])
  (.seq
  (.region 0 [
    (none, .v 36 (.move (.t 6))),
    (none, .v 37 (.cmp .ne (.t 36) (.k (.int .i64 (0))))),
    (none, .v 38 (.move (.t 37))),
    (some (38, false), .v 39 (.move (.t 5))),
    (some (38, false), .v 40 (.move (.t 0))),
    (some (38, false), .callP (some 41) 28 [.t 39, .t 40] 0 0 true),
    (some (38, false), .v 42 (.not (.t 41))),
    (none, .v 43 (.pick (.t 38) (.k (.bool true)) (.t 42)))])
  (.cond (.t 43)
    (.seq
    (.region 0 [
      (none, .v 44 (.build T31 [])),
      (none, .store T31 (.t 2) (.t 44)),
      (none, .v 3 (.move (.k (.int .i64 (50)))))])
    .ret)
    .skip)))
  (.seq
  (.region 0 [
    (none, .load 45 T31 (.t 4)),
    (none, .store T31 (.t 2) (.t 45)),
    (none, .v 3 (.move (.k (.int .i64 (0)))))])
  .ret))))))
def nt_bpdu_Read : Nat := 46
def rs_bpdu_Read : List RV := [.cell 2 T31, .tmp 3]
/-- pontage/pontageref05.Read -/
abbrev f_r05_Read : FuncId := 13
def ac_r05_Read : AC :=
  (.seq
  (.region 1 [
    (none, .alloc 2 0 T31),
    (none, .v 3 (.move (.k (.int .i64 (0)))))])
  (.seq
  (.seq
  (.region 0 [
    (none, .v 8 (.move (.t 0))),
    (none, .v 9 (.len false (.t 8))),
    (none, .v 10 (.cmp .lt (.t 9) (.k (.int .i64 (4)))))])
  (.cond (.t 10)
    (.seq
    (.region 0 [
      (none, .v 11 (.build T31 [])),
      (none, .store T31 (.t 2) (.t 11)),
      (none, .v 3 (.move (.k (.int .i64 (6)))))])
    .ret)
    .skip))
  (.seq
  (.region 1 [
    (none, .v 12 (.build T31 [(0, .k (.int .i64 (2)))])),
    (none, .alloc 4 0 T31),
    (none, .store T31 (.t 4) (.t 12))])
  (.seq
  (.seq
  (.region 0 [
    (none, .v 13 (.move (.t 0))),
    (none, .v 14 (.len false (.t 13))),
    (none, .v 15 (.cmp .ge (.t 14) (.k (.int .i64 (35)))))])
  (.cond (.t 15)
    (.seq
    (.region 0 [
      (none, .v 16 (.move (.t 0))),
      (none, .v 17 (.iadr none (.int .u8) (.t 16) (.k (.int .i64 (4))))),
      (none, .load 18 (.int .u8) (.t 17)),
      (none, .v 5 (.move (.t 18)))])
    (.seq
    (.region 0 [
      (none, .v 19 (.move (.t 5))),
      (none, .callP (some 20) 29 [.t 19, .k (.int .i64 (1))] 0 0 true),
      (none, .v 21 (.move (.t 5))),
      (none, .callP (some 22) 29 [.t 21, .k (.int .i64 (128))] 0 0 true),
      (none, .v 23 (.build T31 [(0, .k (.int .i64 (1))), (1, .t 20), (2, .t 22)])),
      (none, .store T31 (.t 4) (.t 23))])
    (.seq
    (.seq
    (.region 0 [
      (none, .v 24 (.move (.t 0))),
      (none, .v 25 (.iadr none (.int .u8) (.t 24) (.k (.int .i64 (2))))),
      (none, .load 26 (.int .u8) (.t 25)),
      (none, .v 27 (.cmp .eq (.t 26) (.k (.int .u8 (2)))))])
    (.cond (.t 27)
      (.region 0 [
        (none, .v 28 (.move (.t 5))),
        (none, .callP (some 29) 29 [.t 28, .k (.int .i64 (1))] 0 0 true),
        (none, .v 30 (.move (.t 5))),
        (none, .callP (some 31) 29 [.t 30, .k (.int .i64 (2))] 0 0 true),
        (none, .v 32 (.move (.t 5))),
        (none, .v 33 (.conv .i64 (.t 32))),
        (none, .v 34 (.quo (.t 33) (.k (.int .i64 (4))))),
        (none, .v 35 (.rem (.t 34) (.k (.int .i64 (4))))),
        (none, .callP (some 36) 30 [.t 35] 0 0 true),
        (none, .v 37 (.move (.t 5))),
        (none, .callP (some 38) 29 [.t 37, .k (.int .i64 (16))] 0 0 true),
        (none, .v 39 (.move (.t 5))),
        (none, .callP (some 40) 29 [.t 39, .k (.int .i64 (32))] 0 0 true),
        (none, .v 41 (.move (.t 5))),
        (none, .callP (some 42) 29 [.t 41, .k (.int .i64 (64))] 0 0 true),
        (none, .v 43 (.build T31 [(0, .k (.int .i64 (3))), (1, .t 29), (3, .t 31), (7, .t 36), (4, .t 38), (5, .t 40), (6, .t 42)])),
        (none, .store T31 (.t 4) (.t 43))])
      .skip))
    (.seq
    (.draw 0 [[], [], [], [], [], [2], [], [], [], [2, 5], [], [], [2, 5, 9], []] [
      (none, .v 44 (.move (.t 0))),
      (none, .v 45 (.slice (.int .u8) (.t 44) (some (.k (.int .i64 (5)))) (some (.k (.int .i64 (13)))) none)),
      (none, .callP (some 46) 31 [.t 45] 0 0 false),
      (none, .v 47 (.move (.t 0))),
      (none, .v 48 (.slice (.int .u8) (.t 47) (some (.k (.int .i64 (13)))) (some (.k (.int .i64 (17)))) none)),
      (none, .callP (some 49) 31 [.t 48] 0 0 false),
      (none, .v 50 (.conv .u32 (.t 49))),
      (none, .v 51 (.move (.t 0))),
      (none, .v 52 (.slice (.int .u8) (.t 51) (some (.k (.int .i64 (17)))) (some (.k (.int .i64 (25)))) none)),
      (none, .callP (some 53) 31 [.t 52] 0 0 false),
      (none, .v 54 (.move (.t 0))),
      (none, .v 55 (.slice (.int .u8) (.t 54) (some (.k (.int .i64 (25)))) (some (.k (.int .i64 (27)))) none)),
      (none, .callP (some 56) 31 [.t 55] 0 0 false),
      (none, .v 57 (.conv .u16 (.t 56)))] [
      (none, .v 58 (.build T27 [(0, .t 46), (1, .t 50), (2, .t 53), (3, .t 57)])),
      (none, .v 59 (.fadr T31 8 (.t 4))),
      (none, .store T27 (.t 59) (.t 58))])
    (.draw 0 [[], [], [], [], [], [], [], [], [], [], [], []] [
      (none, .v 60 (.move (.t 0))),
      (none, .v 61 (.iadr none (.int .u8) (.t 60) (.k (.int .i64 (27))))),
      (none, .load 62 (.int .u8) (.t 61)),
      (none, .v 63 (.move (.t 0))),
      (none, .v 64 (.iadr none (.int .u8) (.t 63) (.k (.int .i64 (29))))),
      (none, .load 65 (.int .u8) (.t 64)),
      (none, .v 66 (.move (.t 0))),
      (none, .v 67 (.iadr none (.int .u8) (.t 66) (.k (.int .i64 (31))))),
      (none, .load 68 (.int .u8) (.t 67)),
      (none, .v 69 (.move (.t 0))),
      (none, .v 70 (.iadr none (.int .u8) (.t 69) (.k (.int .i64 (33))))),
      (none, .load 71 (.int .u8) (.t 70))] [
      (none, .v 72 (.build T29 [(0, .t 62), (1, .t 65), (2, .t 68), (3, .t 71)])),
      (none, .v 73 (.fadr T31 9 (.t 4))),
      (none, .store T29 (.t 73) (.t 72))])))))
    .skip))
  (.seq
  (.region 1 [
    (none, .load 75 T31 (.t 4)),
    (none, .callP (some 76) 8 [.t 75] 0 1 true),
    (none, .v 74 (.move (.t 76))),
    (none, .v 77 (.ext (.t 74) 0)),
    (none, .v 78 (.ext (.t 74) 1)),
    (none, .v 6 (.move (.t 77))),
    (none, .v 7 (.move (.t 78)))])
  (.seq
  (.seq
  (.region 0 [
    (none, .v 79 (.move (.t 7))),
    (none, .v 80 (.cmp .ne (.t 79) (.k (.int .i64 (0))))),
    (none, .v 81 (.move (.t 80))),
    (some (81, false), .v 82 (.move (.t 6))),
    (some (81, false), .v 83 (.convS true (.t 82))),
    (some (81, false), .v 84 (.move (.t 0))),
    (some (81, false), .v 85 (.convS true (.t 84))),
    (some (81, false), .v 86 (.eqT .str true (.t 83) (.t 85))),
    (none, .v 87 (.pick (.t 81) (.k (.bool true)) (.t 86)))])
  (.cond (.t 87)
    (.seq
    (.region 0 [
      (none, .v 88 (.build T31 [])),
      (none, .store T31 (.t 2) (.t 88)),
      (none, .v 3 (.move (.k (.int .i64 (50)))))])
    .ret)
    .skip))
  (.seq
  (.region 0 [
    (none, .load 89 T31 (.t 4)),
    (none, .store T31 (.t 2) (.t 89)),
    (none, .v 3 (.move (.k (.int .i64 (0)))))])
  .ret)))))))
def nt_r05_Read : Nat := 90
def rs_r05_Read : List RV := [.cell 2 T31, .tmp 3]
/-- pontage/bpdu.Encode -/
abbrev f_bpdu_Encode : FuncId := 14
def ac_bpdu_Encode : AC :=
  (.seq
  (.region 0 [
    (none, .boxc 2 T48 (.t 0)),
    (none, .boxc 3 T31 (.t 1)),
    (none, .v 4 (.move (.k (.sl (.int .u8) [] .full)))),
    (none, .v 5 (.move (.k (.int .i64 (0)))))])
  (.seq
  (.seq
  (.region 0 [
    (none, .load 10 T48 (.t 2)),
    (none, .callP (some 11) 32 [.t 10] 0 0 true),
    (none, .v 12 (.cmp .ne (.t 11) (.k (.int .i64 (1)))))])
  (.cond (.t 12)
    (.seq
    (.region 0 [
      (none, .v 4 (.move (.k (.sl (.int .u8) [] .full)))),
      (none, .v 5 (.move (.k (.int .i64 (1)))))])
    .ret)
    .skip))
  (.seq
  (.region 1 [
    (none, .load 14 T31 (.t 3)),
    (none, .callP (some 15) 7 [.t 14] 0 1 true),
    (none, .v 13 (.move (.t 15))),
    (none, .v 16 (.ext (.t 13) 0)),
    (none, .v 17 (.ext (.t 13) 1)),
    (none, .v 6 (.move (.t 16))),
    (none, .v 7 (.move (.t 17)))])
  (.seq
  (.seq
  (.region 0 [
    (none, .v 18 (.move (.t 7))),
    (none, .v 19 (.cmp .ne (.t 18) (.k (.int .i64 (0)))))])
  (.cond (.t 19)
    (.seq
    (.region 0 [
      (none, .v 20 (.move (.t 7))),
      (none, .v 4 (.move (.k (.sl (.int .u8) [] .full)))),
      (none, .v 5 (.move (.t 20)))])
    .ret)
    .skip))
  (.seq
  (.region 1 [
    (none, .callP (some 21) 33 [] 0 0 true),
    (none, .alloc 8 0 T48),
    (none, .store T48 (.t 8) (.t 21))])
  (.seq
  (.region 3 [
    (none, .callP (some 22) 35 [] 0 1 true),
    (none, .v 23 (.move (.t 6))),
    (none, .lit 24 1 (.sl (.int .u8)) 2 [(0, .t 22), (1, .t 23)] false),
    (none, .callP (some 25) 34 [.t 24] 2 1 true),
    (none, .v 9 (.move (.t 25)))])
  (.seq
  (.draw 3 [[], [], [], [], [], [], []] [
    (none, .acut 26 6 (.int .u8) (.t 8) none none),
    (none, .v 27 (.sliceA 6 (.int .u8) (.t 2) none none)),
    (none, .v 28 (.move (.t 9))),
    (none, .v 29 (.len false (.t 28))),
    (none, .v 30 (.conv .u64 (.t 29))),
    (none, .callS (some 31) (.k (.fn 21 [])) [.k (.sl (.int .u8) [] .full), .t 30, .k (.int .i64 (2))] [(0, 0, (.int .u8))] [21]),
    (none, .v 32 (.move (.t 9)))] [
    (none, .lit 33 1 (.sl (.int .u8)) 4 [(0, .t 26), (1, .t 27), (2, .t 31), (3, .t 32)] false),
    (none, .callP (some 34) 34 [.t 33] 2 1 true),
    (none, .v 4 (.move (.t 34))),
    (none, .v 5 (.move (.k (.int .i64 (0)))))])
  .ret)))))))
def nt_bpdu_Encode : Nat := 35
def rs_bpdu_Encode : List RV := [.tmp 4, .tmp 5]
/-- pontage/pontageref05.Encode -/
abbrev f_r05_Encode : FuncId := 15
def ac_r05_Encode : AC :=
  (.seq
  (.region 0 [
    (none, .boxc 2 T48 (.t 0)),
    (none, .boxc 3 T31 (.t 1)),
    (none, .v 4 (.move (.k (.sl (.int .u8) [] .full)))),
    (none, .v 5 (.move (.k (.int .i64 (0)))))])
  (.seq
  (.seq
  (.region 0 [
    (none, .load 10 T48 (.t 2)),
    (none, .callP (some 11) 36 [.t 10] 0 0 true),
    (none, .v 12 (.cmp .ne (.t 11) (.k (.int .i64 (1)))))])
  (.cond (.t 12)
    (.seq
    (.region 0 [
      (none, .v 4 (.move (.k (.sl (.int .u8) [] .full)))),
      (none, .v 5 (.move (.k (.int .i64 (1)))))])
    .ret)
    .skip))
  (.seq
  (.region 1 [
    (none, .load 14 T31 (.t 3)),
    (none, .callP (some 15) 8 [.t 14] 0 1 true),
    (none, .v 13 (.move (.t 15))),
    (none, .v 16 (.ext (.t 13) 0)),
    (none, .v 17 (.ext (.t 13) 1)),
    (none, .v 6 (.move (.t 16))),
    (none, .v 7 (.move (.t 17)))])
  (.seq
  (.seq
  (.region 0 [
    (none, .v 18 (.move (.t 7))),
    (none, .v 19 (.cmp .ne (.t 18) (.k (.int .i64 (0)))))])
  (.cond (.t 19)
    (.seq
    (.region 0 [
      (none, .v 20 (.move (.t 7))),
      (none, .v 4 (.move (.k (.sl (.int .u8) [] .full)))),
      (none, .v 5 (.move (.t 20)))])
    .ret)
    .skip))
  (.seq
  (.region 1 [
    (none, .callP (some 21) 37 [] 0 1 true),
    (none, .v 8 (.move (.t 21)))])
  (.seq
  (.seq
  (.region 0 [
    (none, .v 9 (.move (.k (.int .i64 (0)))))])
  (.block 0
    (.loop [2, 6, 8, 9]
      (.seq
      (.seq
      (.region 0 [
        (none, .v 22 (.move (.t 9))),
        (none, .v 23 (.cmp .lt (.t 22) (.k (.int .i64 (6)))))])
      (.cond (.t 23)
        .skip
        (.exit 0)))
      (.seq
      (.block 1
        (.region 2 [
          (none, .v 26 (.move (.t 8))),
          (none, .v 27 (.move (.t 9))),
          (none, .v 28 (.iadr (some 6) (.int .u8) (.t 2) (.t 27))),
          (none, .load 29 (.int .u8) (.t 28)),
          (none, .lit 30 0 (.int .u8) 1 [(0, .t 29)] false),
          (none, .app 31 1 (.int .u8) 1 (.t 26) (.t 30) false),
          (none, .v 8 (.move (.t 31)))]))
      (.region 0 [
        (none, .v 24 (.move (.t 9))),
        (none, .v 25 (.add (.t 24) (.k (.int .i64 (1))))),
        (none, .v 9 (.move (.t 25)))]))))))
  (.seq
  (.region 2 [
    (none, .v 32 (.move (.t 8))),
    (none, .v 33 (.move (.t 6))),
    (none, .v 34 (.len false (.t 33))),
    (none, .v 35 (.add (.k (.int .i64 (3))) (.t 34))),
    (none, .v 36 (.conv .u8 (.t 35))),
    (none, .lit 37 0 (.int .u8) 5 [(0, .k (.int .u8 (0))), (1, .t 36), (2, .k (.int .u8 (66))), (3, .k (.int .u8 (66))), (4, .k (.int .u8 (3)))] false),
    (none, .app 38 1 (.int .u8) 1 (.t 32) (.t 37) false),
    (none, .v 8 (.move (.t 38)))])
  (.seq
  (.region 1 [
    (none, .v 39 (.move (.t 8))),
    (none, .v 40 (.move (.t 6))),
    (none, .app 41 0 (.int .u8) 1 (.t 39) (.t 40) false),
    (none, .v 4 (.move (.t 41))),
    (none, .v 5 (.move (.k (.int .i64 (0)))))])
  .ret))))))))
def nt_r05_Encode : Nat := 42
def rs_r05_Encode : List RV := [.tmp 4, .tmp 5]
/-- pontage/bpdu.Decode -/
abbrev f_bpdu_Decode : FuncId := 16
def ac_bpdu_Decode : AC :=
  (.seq
  (.region 2 [
    (none, .alloc 2 0 T48),
    (none, .alloc 3 1 T31),
    (none, .v 4 (.move (.k (.int .i64 (0)))))])
  (.seq
  (.seq
  (.region 0 [
    (none, .v 10 (.move (.t 0))),
    (none, .v 11 (.len false (.t 10))),
    (none, .v 12 (.cmp .lt (.t 11) (.k (.int .i64 (21)))))])
  (.cond (.t 12)
    (.seq
    (.region 0 [
      (none, .v 13 (.build T48 [])),
      (none, .v 14 (.build T31 [])),
      (none, .store T48 (.t 2) (.t 13)),
      (none, .store T31 (.t 3) (.t 14)),
      (none, .v 4 (.move (.k (.int .i64 (6)))))])
    .ret)
    .skip))
  (.seq
  (.region 1 [
    (none, .v 15 (.move (.t 0))),
    (none, .v 16 (.slice (.int .u8) (.t 15) (some (.k (.int .i64 (6)))) (some (.k (.int .i64 (12)))) none)),
    (none, .v 17 (.sarr 6 (.int .u8) (.t 16))),
    (none, .load 18 T48 (.t 17)),
    (none, .alloc 5 0 T48),
    (none, .store T48 (.t 5) (.t 18))])
  (.seq
  (.region 1 [
    (none, .v 20 (.move (.t 0))),
    (none, .v 21 (.slice (.int .u8) (.t 20) (some (.k (.int .i64 (17)))) none none)),
    (none, .callP (some 22) 12 [.t 21] 0 0 true),
    (none, .v 19 (.move (.t 22))),
    (none, .v 23 (.ext (.t 19) 0)),
    (none, .v 24 (.ext (.t 19) 1)),
    (none, .alloc 6 0 T31),
    (none, .store T31 (.t 6) (.t 23)),
    (none, .v 7 (.move (.t 24)))])
  (.seq
  (.seq
  (.region 0 [
    (none, .v 25 (.move (.t 7))),
    (none, .v 26 (.cmp .ne (.t 25) (.k (.int .i64 (0)))))])
  (.cond (.t 26)
    (.seq
    (.region 0 [
      (none, .v 27 (.build T48 [])),
      (none, .v 28 (.build T31 [])),
      (none, .store T48 (.t 2) (.t 27)),
      (none, .store T31 (.t 3) (.t 28)),
      (none, .v 4 (.move (.k (.int .i64 (50)))))])
    .ret)
    .skip))
  (.seq
  (.seq
  (.region 1 [
    (none, .load 30 T48 (.t 5)),
    (none, .load 31 T31 (.t 6)),
    (none, .callP (some 32) 14 [.t 30, .t 31] 0 1 true),
    (none, .v 29 (.move (.t 32))),
    (none, .v 33 (.ext (.t 29) 0)),
    (none, .v 34 (.ext (.t 29) 1)),
    (none, .v 8 (.move (.t 33))),
    (none, .v 9 (.move (.t 34)))])
  (.seq
  (.region 0 [
    (none, .v 35 (.move (.t 9))),
    (none, .v 36 (.cmp .ne (.t 35) (.k (.int .i64 (0))))),
    (none, .v 37 (.move (.t 36))),
    (some (37, false), .v 38 (.move (.t 8))),
    (some (37, false), .v 39 (.move (.t 0))),
    (some (37, false), .callP (some 40) 28 [.t 38, .t 39] 0 0 true),
    (some (37, false), .v 41 (.not (.t 40))),
    (none, .v 42 (.pick (.t 37) (.k (.bool true)) (.t 41)))])
  (.cond (.t 42)
    (.seq
    (.region 0 [
      (none, .v 43 (.build T48 [])),
      (none, .v 44 (.build T31 [])),
      (none, .store T48 (.t 2) (.t 43)),
      (none, .store T31 (.t 3) (.t 44)),
      (none, .v 4 (.move (.k (.int .i64 (50)))))])
    .ret)
    .skip)))
  (.seq
  (.draw 0 [[], [], [0]] [
    (none, .load 45 T48 (.t 5)),
    (none, .load 46 T31 (.t 6)),
    (none, .store T48 (.t 2) (.t 45))] [
    (none, .store T31 (.t 3) (.t 46)),
    (none, .v 4 (.move (.k (.int .i64 (0)))))])
  .ret)))))))
def nt_bpdu_Decode : Nat := 47
def rs_bpdu_Decode : List RV := [.cell 2 T48, .cell 3 T31, .tmp 4]
/-- pontage/pontageref05.Decode -/
abbrev f_r05_Decode : FuncId := 17
def ac_r05_Decode : AC :=
  (.seq
  (.region 2 [
    (none, .alloc 2 0 T48),
    (none, .alloc 3 1 T31),
    (none, .v 4 (.move (.k (.int .i64 (0)))))])
  (.seq
  (.seq
  (.region 0 [
    (none, .v 11 (.move (.t 0))),
    (none, .v 12 (.len false (.t 11))),
    (none, .v 13 (.cmp .lt (.t 12) (.k (.int .i64 (21)))))])
  (.cond (.t 13)
    (.seq
    (.region 0 [
      (none, .v 14 (.build T48 [])),
      (none, .v 15 (.build T31 [])),
      (none, .store T48 (.t 2) (.t 14)),
      (none, .store T31 (.t 3) (.t 15)),
      (none, .v 4 (.move (.k (.int .i64 (6)))))])
    .ret)
    .skip))
  (.seq
  (.region 1 [
    (none, .alloc 5 0 T48)])
  (.seq
  (.seq
  (.region 0 [
    (none, .v 6 (.move (.k (.int .i64 (0)))))])
  (.block 0
    (.loop [0, 2, 3, 5, 6]
      (.seq
      (.seq
      (.region 0 [
        (none, .v 16 (.move (.t 6))),
        (none, .v 17 (.cmp .lt (.t 16) (.k (.int .i64 (6)))))])
      (.cond (.t 17)
        .skip
        (.exit 0)))
      (.seq
      (.block 1
        (.region 0 [
          (none, .v 20 (.move (.t 6))),
          (none, .v 21 (.move (.t 0))),
          (none, .v 22 (.move (.t 6))),
          (none, .v 23 (.add (.k (.int .i64 (6))) (.t 22))),
          (none, .v 24 (.iadr none (.int .u8) (.t 21) (.t 23))),
          (none, .load 25 (.int .u8) (.t 24)),
          (none, .v 26 (.iadr (some 6) (.int .u8) (.t 5) (.t 20))),
          (none, .store (.int .u8) (.t 26) (.t 25))]))
      (.region 0 [
        (none, .v 18 (.move (.t 6))),
        (none, .v 19 (.add (.t 18) (.k (.int .i64 (1))))),
        (none, .v 6 (.move (.t 19)))]))))))
  (.seq
  (.region 1 [
    (none, .v 28 (.move (.t 0))),
    (none, .v 29 (.slice (.int .u8) (.t 28) (some (.k (.int .i64 (17)))) none none)),
    (none, .callP (some 30) 13 [.t 29] 0 0 true),
    (none, .v 27 (.move (.t 30))),
    (none, .v 31 (.ext (.t 27) 0)),
    (none, .v 32 (.ext (.t 27) 1)),
    (none, .alloc 7 0 T31),
    (none, .store T31 (.t 7) (.t 31)),
    (none, .v 8 (.move (.t 32)))])
  (.seq
  (.seq
  (.region 0 [
    (none, .v 33 (.move (.t 8))),
    (none, .v 34 (.cmp .ne (.t 33) (.k (.int .i64 (0)))))])
  (.cond (.t 34)
    (.seq
    (.region 0 [
      (none, .v 35 (.build T48 [])),
      (none, .v 36 (.build T31 [])),
      (none, .store T48 (.t 2) (.t 35)),
      (none, .store T31 (.t 3) (.t 36)),
      (none, .v 4 (.move (.k (.int .i64 (50)))))])
    .ret)
    .skip))
  (.seq
  (.region 1 [
    (none, .load 38 T48 (.t 5)),
    (none, .load 39 T31 (.t 7)),
    (none, .callP (some 40) 15 [.t 38, .t 39] 0 1 true),
    (none, .v 37 (.move (.t 40))),
    (none, .v 41 (.ext (.t 37) 0)),
    (none, .v 42 (.ext (.t 37) 1)),
    (none, .v 9 (.move (.t 41))),
    (none, .v 10 (.move (.t 42)))])
  (.seq
  (.seq
  (.region 0 [
    (none, .v 43 (.move (.t 10))),
    (none, .v 44 (.cmp .ne (.t 43) (.k (.int .i64 (0))))),
    (none, .v 45 (.move (.t 44))),
    (some (45, false), .v 46 (.move (.t 9))),
    (some (45, false), .v 47 (.convS true (.t 46))),
    (some (45, false), .v 48 (.move (.t 0))),
    (some (45, false), .v 49 (.convS true (.t 48))),
    (some (45, false), .v 50 (.eqT .str true (.t 47) (.t 49))),
    (none, .v 51 (.pick (.t 45) (.k (.bool true)) (.t 50)))])
  (.cond (.t 51)
    (.seq
    (.region 0 [
      (none, .v 52 (.build T48 [])),
      (none, .v 53 (.build T31 [])),
      (none, .store T48 (.t 2) (.t 52)),
      (none, .store T31 (.t 3) (.t 53)),
      (none, .v 4 (.move (.k (.int .i64 (50)))))])
    .ret)
    .skip))
  (.seq
  (.draw 0 [[], [], [0]] [
    (none, .load 54 T48 (.t 5)),
    (none, .load 55 T31 (.t 7)),
    (none, .store T48 (.t 2) (.t 54))] [
    (none, .store T31 (.t 3) (.t 55)),
    (none, .v 4 (.move (.k (.int .i64 (0)))))])
  .ret)))))))))
def nt_r05_Decode : Nat := 56
def rs_r05_Decode : List RV := [.cell 2 T48, .cell 3 T31, .tmp 4]
/-- pontage/bpdu.Is -/
abbrev f_bpdu_Is : FuncId := 18
def ac_bpdu_Is : AC :=
  (.seq
  (.region 0 [
    (none, .v 2 (.move (.k (.bool false))))])
  (.seq
  (.draw 1 [[], [], [], [], [], [], [], [], [], [], [], [], [], [], [7, 8]] [
    (none, .v 3 (.move (.t 0))),
    (none, .v 4 (.len false (.t 3))),
    (none, .v 5 (.cmp .ge (.t 4) (.k (.int .i64 (17))))),
    (none, .v 6 (.move (.t 5))),
    (some (6, true), .v 7 (.move (.t 0))),
    (some (6, true), .v 8 (.slice (.int .u8) (.t 7) none (some (.k (.int .i64 (6)))) none)),
    (some (6, true), .v 9 (.sarr 6 (.int .u8) (.t 8))),
    (some (6, true), .load 10 T48 (.t 9)),
    (some (6, true), .callP (some 11) 33 [] 0 0 false),
    (some (6, true), .v 12 (.eqT T48 false (.t 10) (.t 11))),
    (none, .v 13 (.pick (.t 6) (.t 12) (.k (.bool false)))),
    (none, .v 14 (.move (.t 13))),
    (some (14, true), .v 15 (.move (.t 0))),
    (some (14, true), .v 16 (.slice (.int .u8) (.t 15) (some (.k (.int .i64 (14)))) (some (.k (.int .i64 (17)))) none)),
    (some (14, true), .callP (some 17) 35 [] 0 1 false)] [
    (some (14, true), .callP (some 18) 28 [.t 16, .t 17] 1 0 true),
    (none, .v 19 (.pick (.t 14) (.t 18) (.k (.bool false)))),
    (none, .v 2 (.move (.t 19)))])
  .ret))
def nt_bpdu_Is : Nat := 20
def rs_bpdu_Is : List RV := [.tmp 2]
/-- pontage/pontageref05.Is -/
abbrev f_r05_Is : FuncId := 19
def ac_r05_Is : AC :=
  (.seq
  (.region 0 [
    (none, .v 2 (.move (.k (.bool false))))])
  (.seq
  (.draw 1 [[], [], [], [], [], [], [], [], []] [
    (none, .v 3 (.move (.t 0))),
    (none, .v 4 (.len false (.t 3))),
    (none, .v 5 (.cmp .ge (.t 4) (.k (.int .i64 (17))))),
    (none, .v 6 (.move (.t 5))),
    (some (6, true), .v 7 (.move (.t 0))),
    (some (6, true), .v 8 (.slice (.int .u8) (.t 7) none (some (.k (.int .i64 (6)))) none)),
    (some (6, true), .v 9 (.convS true (.t 8))),
    (some (6, true), .callP (some 10) 37 [] 0 1 false),
    (some (6, true), .v 11 (.convS true (.t 10)))] [
    (some (6, true), .v 12 (.eqT .str false (.t 9) (.t 11))),
    (none, .v 13 (.pick (.t 6) (.t 12) (.k (.bool false)))),
    (none, .v 14 (.move (.t 13))),
    (some (14, true), .v 15 (.move (.t 0))),
    (some (14, true), .v 16 (.iadr none (.int .u8) (.t 15) (.k (.int .i64 (14))))),
    (some (14, true), .load 17 (.int .u8) (.t 16)),
    (some (14, true), .v 18 (.cmp .eq (.t 17) (.k (.int .u8 (66))))),
    (none, .v 19 (.pick (.t 14) (.t 18) (.k (.bool false)))),
    (none, .v 20 (.move (.t 19))),
    (some (20, true), .v 21 (.move (.t 0))),
    (some (20, true), .v 22 (.iadr none (.int .u8) (.t 21) (.k (.int .i64 (15))))),
    (some (20, true), .load 23 (.int .u8) (.t 22)),
    (some (20, true), .v 24 (.cmp .eq (.t 23) (.k (.int .u8 (66))))),
    (none, .v 25 (.pick (.t 20) (.t 24) (.k (.bool false)))),
    (none, .v 26 (.move (.t 25))),
    (some (26, true), .v 27 (.move (.t 0))),
    (some (26, true), .v 28 (.iadr none (.int .u8) (.t 27) (.k (.int .i64 (16))))),
    (some (26, true), .load 29 (.int .u8) (.t 28)),
    (some (26, true), .v 30 (.cmp .eq (.t 29) (.k (.int .u8 (3))))),
    (none, .v 31 (.pick (.t 26) (.t 30) (.k (.bool false)))),
    (none, .v 2 (.move (.t 31)))])
  .ret))
def nt_r05_Is : Nat := 32
def rs_r05_Is : List RV := [.tmp 2]
/-- pontage/bpdu.flags -/
abbrev f_bpdu_flags : FuncId := 20
def ac_bpdu_flags : AC :=
  (.seq
  (.region 0 [
    (none, .boxc 1 T31 (.t 0)),
    (none, .v 2 (.move (.k (.int .u8 (0)))))])
  (.seq
  (.region 1 [
    (none, .alloc 3 0 (.int .u8)),
    (none, .store (.int .u8) (.t 3) (.k (.int .u8 (0))))])
  (.seq
  (.region 0 [
    (none, .v 5 (.mkfn 38 [.t 3])),
    (none, .v 4 (.move (.t 5)))])
  (.seq
  (.seq
  (.region 0 [
    (none, .v 6 (.fadr T31 0 (.t 1))),
    (none, .load 7 (.int .i64) (.t 6))])
  (.block 0
    (.seq
    (.block 2
      (.seq
      (.block 1
        (.seq
        (.seq
        (.region 0 [
          (none, .v 9 (.cmp .eq (.t 7) (.k (.int .i64 (3))))),
          (none, .v 8 (.move (.t 9)))])
        (.cond (.t 8)
          (.exit 1)
          .skip))
        (.exit 2)))
      (.seq
      (.region 0 [
        (none, .v 10 (.move (.t 4))),
        (none, .v 11 (.fadr T31 3 (.t 1))),
        (none, .load 12 .bool (.t 11)),
        (none, .callS (some 13) (.t 10) [.t 12, .k (.int .u8 (2))] [] [38])])
      (.seq
      (.region 0 [
        (none, .v 14 (.move (.t 4))),
        (none, .v 15 (.fadr T31 4 (.t 1))),
        (none, .load 16 .bool (.t 15)),
        (none, .callS (some 17) (.t 14) [.t 16, .k (.int .u8 (16))] [] [38])])
      (.seq
      (.region 0 [
        (none, .v 18 (.move (.t 4))),
        (none, .v 19 (.fadr T31 5 (.t 1))),
        (none, .load 20 .bool (.t 19)),
        (none, .callS (some 21) (.t 18) [.t 20, .k (.int .u8 (32))] [] [38])])
      (.seq
      (.region 0 [
        (none, .v 22 (.move (.t 4))),
        (none, .v 23 (.fadr T31 6 (.t 1))),
        (none, .load 24 .bool (.t 23)),
        (none, .callS (some 25) (.t 22) [.t 24, .k (.int .u8 (64))] [] [38])])
      (.draw 0 [[], [], [], [2], [], []] [
        (none, .load 26 (.int .u8) (.t 3)),
        (none, .v 27 (.fadr T31 7 (.t 1))),
        (none, .load 28 (.int .i64) (.t 27)),
        (none, .callP (some 29) 26 [.t 28] 0 0 false),
        (none, .v 30 (.conv .u8 (.t 29))),
        (none, .v 31 (.shl (.t 30) (.k (.int .u64 (2)))))] [
        (none, .v 32 (.bit .or (.t 26) (.t 31))),
        (none, .store (.int .u8) (.t 3) (.t 32))])))))))
    (.seq
    (.seq
    (.region 0 [
      (none, .v 33 (.move (.t 4))),
      (none, .v 34 (.fadr T31 1 (.t 1))),
      (none, .load 35 .bool (.t 34)),
      (none, .callS (some 36) (.t 33) [.t 35, .k (.int .u8 (1))] [] [38])])
    (.region 0 [
      (none, .v 37 (.move (.t 4))),
      (none, .v 38 (.fadr T31 2 (.t 1))),
      (none, .load 39 .bool (.t 38)),
      (none, .callS (some 40) (.t 37) [.t 39, .k (.int .u8 (128))] [] [38])]))
    (.exit 0)))))
  (.seq
  (.region 0 [
    (none, .load 41 (.int .u8) (.t 3)),
    (none, .v 2 (.move (.t 41)))])
  .ret)))))
def nt_bpdu_flags : Nat := 42
def rs_bpdu_flags : List RV := [.tmp 2]
/-- pontage/bpdu.number -/
abbrev f_bpdu_number : FuncId := 21
def ac_bpdu_number : AC :=
  (.seq
  (.region 0 [
    (none, .v 6 (.move (.k (.sl (.int .u8) [] .full))))])
  (.seq
  (.seq
  (.region 0 [
    (none, .v 8 (.move (.t 2))),
    (none, .v 9 (.sub (.t 8) (.k (.int .i64 (1))))),
    (none, .v 7 (.move (.t 9)))])
  (.block 0
    (.loop [0, 1, 7]
      (.seq
      (.seq
      (.region 0 [
        (none, .v 10 (.move (.t 7))),
        (none, .v 11 (.cmp .ge (.t 10) (.k (.int .i64 (0)))))])
      (.cond (.t 11)
        .skip
        (.exit 0)))
      (.seq
      (.block 1
        (.region 2 [
          (none, .v 14 (.move (.t 0))),
          (none, .v 15 (.move (.t 1))),
          (none, .v 16 (.move (.t 7))),
          (none, .v 17 (.mul (.k (.int .i64 (8))) (.t 16))),
          (none, .v 18 (.conv .u64 (.t 17))),
          (none, .v 19 (.shr (.t 15) (.t 18))),
          (none, .v 20 (.conv .u8 (.t 19))),
          (none, .lit 21 0 (.int .u8) 1 [(0, .t 20)] false),
          (none, .app 22 1 (.int .u8) 1 (.t 14) (.t 21) false),
          (none, .v 0 (.move (.t 22)))]))
      (.region 0 [
        (none, .v 12 (.move (.t 7))),
        (none, .v 13 (.sub (.t 12) (.k (.int .i64 (1))))),
        (none, .v 7 (.move (.t 13)))]))))))
  (.seq
  (.region 0 [
    (none, .v 23 (.move (.t 0))),
    (none, .v 6 (.move (.t 23)))])
  .ret)))
def nt_bpdu_number : Nat := 24
def rs_bpdu_number : List RV := [.tmp 6]
/-- pontage/pontageref05.fine -/
abbrev f_r05_fine : FuncId := 22
def ac_r05_fine : AC :=
  (.seq
  (.region 0 [
    (none, .boxc 1 T31 (.t 0)),
    (none, .v 2 (.move (.k (.bool false))))])
  (.seq
  (.seq
  (.region 0 [
    (none, .v 3 (.fadr T31 0 (.t 1))),
    (none, .load 4 (.int .i64) (.t 3))])
  (.block 0
    (.seq
    (.region 0 [
      (none, .v 6 (.cmp .eq (.t 4) (.k (.int .i64 (2))))),
      (none, .v 5 (.move (.t 6)))])
    (.cond (.t 5)
      (.seq
      (.region 0 [
        (none, .load 7 T31 (.t 1)),
        (none, .v 8 (.build T31 [(0, .k (.int .i64 (2)))])),
        (none, .v 9 (.eqT T31 false (.t 7) (.t 8))),
        (none, .v 2 (.move (.t 9)))])
      .ret)
      (.seq
      (.region 0 [
        (none, .v 11 (.cmp .eq (.t 4) (.k (.int .i64 (1))))),
        (none, .v 10 (.move (.t 11)))])
      (.cond (.t 10)
        (.seq
        (.region 0 [
          (none, .load 12 T31 (.t 1)),
          (none, .v 13 (.fadr T31 1 (.t 1))),
          (none, .load 14 .bool (.t 13)),
          (none, .v 15 (.fadr T31 2 (.t 1))),
          (none, .load 16 .bool (.t 15)),
          (none, .v 17 (.fadr T31 8 (.t 1))),
          (none, .load 18 T27 (.t 17)),
          (none, .v 19 (.fadr T31 9 (.t 1))),
          (none, .load 20 T29 (.t 19)),
          (none, .v 21 (.build T31 [(0, .k (.int .i64 (1))), (1, .t 14), (2, .t 16), (8, .t 18), (9, .t 20)])),
          (none, .v 22 (.eqT T31 false (.t 12) (.t 21))),
          (none, .v 2 (.move (.t 22)))])
        .ret)
        (.seq
        (.region 0 [
          (none, .v 24 (.cmp .eq (.t 4) (.k (.int .i64 (3))))),
          (none, .v 23 (.move (.t 24)))])
        (.cond (.t 23)
          (.seq
          (.region 0 [
            (none, .v 25 (.fadr T31 2 (.t 1))),
            (none, .load 26 .bool (.t 25)),
            (none, .v 27 (.not (.t 26))),
            (none, .v 28 (.move (.t 27))),
            (some (28, true), .v 29 (.fadr T31 7 (.t 1))),
            (some (28, true), .load 30 (.int .i64) (.t 29)),
            (some (28, true), .v 31 (.cmp .eq (.t 30) (.k (.int .i64 (0))))),
            (some (28, true), .v 32 (.move (.t 31))),
            (some (32, false), .v 33 (.fadr T31 7 (.t 1))),
            (some (32, false), .load 34 (.int .i64) (.t 33)),
            (some (32, false), .v 35 (.cmp .eq (.t 34) (.k (.int .i64 (1))))),
            (some (28, true), .v 36 (.pick (.t 32) (.k (.bool true)) (.t 35))),
            (some (28, true), .v 37 (.move (.t 36))),
            (some (37, false), .v 38 (.fadr T31 7 (.t 1))),
            (some (37, false), .load 39 (.int .i64) (.t 38)),
            (some (37, false), .v 40 (.cmp .eq (.t 39) (.k (.int .i64 (3))))),
            (some (28, true), .v 41 (.pick (.t 37) (.k (.bool true)) (.t 40))),
            (some (28, true), .v 42 (.move (.t 41))),
            (some (42, false), .v 43 (.fadr T31 7 (.t 1))),
            (some (42, false), .load 44 (.int .i64) (.t 43)),
            (some (42, false), .v 45 (.cmp .eq (.t 44) (.k (.int .i64 (4))))),
            (some (28, true), .v 46 (.pick (.t 42) (.k (.bool true)) (.t 45))),
            (none, .v 47 (.pick (.t 28) (.t 46) (.k (.bool false)))),
            (none, .v 2 (.move (.t 47)))])
          .ret)
          .skip))))))))
  (.seq
  (.region 0 [
    (none, .v 2 (.move (.k (.bool false))))])
  .ret)))
def nt_r05_fine : Nat := 48
def rs_r05_fine : List RV := [.tmp 2]
/-- pontage/pontageref05.flag -/
abbrev f_r05_flag : FuncId := 23
def ac_r05_flag : AC :=
  (.seq
  (.region 0 [
    (none, .v 4 (.move (.k (.int .i64 (0)))))])
  (.seq
  (.seq
  (.region 0 [
    (none, .v 5 (.move (.t 0)))])
  (.cond (.t 5)
    (.seq
    (.region 0 [
      (none, .v 6 (.move (.t 1))),
      (none, .v 4 (.move (.t 6)))])
    .ret)
    .skip))
  (.seq
  (.region 0 [
    (none, .v 4 (.move (.k (.int .i64 (0)))))])
  .ret)))
def nt_r05_flag : Nat := 7
def rs_r05_flag : List RV := [.tmp 4]
/-- pontage/pontageref05.role -/
abbrev f_r05_role : FuncId := 24
def ac_r05_role : AC :=
  (.seq
  (.region 0 [
    (none, .v 2 (.move (.k (.int .i64 (0)))))])
  (.seq
  (.seq
  (.region 0 [
    (none, .v 3 (.move (.t 0)))])
  (.block 0
    (.seq
    (.region 0 [
      (none, .v 5 (.cmp .eq (.t 3) (.k (.int .i64 (1))))),
      (none, .v 4 (.move (.t 5)))])
    (.cond (.t 4)
      (.seq
      (.region 0 [
        (none, .v 2 (.move (.k (.int .i64 (1)))))])
      .ret)
      (.seq
      (.region 0 [
        (none, .v 7 (.cmp .eq (.t 3) (.k (.int .i64 (3))))),
        (none, .v 6 (.move (.t 7)))])
      (.cond (.t 6)
        (.seq
        (.region 0 [
          (none, .v 2 (.move (.k (.int .i64 (2)))))])
        .ret)
        (.seq
        (.region 0 [
          (none, .v 9 (.cmp .eq (.t 3) (.k (.int .i64 (4))))),
          (none, .v 8 (.move (.t 9)))])
        (.cond (.t 8)
          (.seq
          (.region 0 [
            (none, .v 2 (.move (.k (.int .i64 (3)))))])
          .ret)
          .skip))))))))
  (.seq
  (.region 0 [
    (none, .v 2 (.move (.k (.int .i64 (0)))))])
  .ret)))
def nt_r05_role : Nat := 10
def rs_r05_role : List RV := [.tmp 2]
/-- pontage/pontageref05.put -/
abbrev f_r05_put : FuncId := 25
def ac_r05_put : AC :=
  (.seq
  (.region 0 [
    (none, .v 4 (.move (.k (.sl (.int .u8) [] .full))))])
  (.seq
  (.region 0 [
    (none, .v 5 (.drop (.k (.sl (.int .u8) [] .full))))])
  (.seq
  (.seq
  (.region 0 [
    (none, .v 6 (.move (.k (.int .i64 (0)))))])
  (.block 0
    (.loop [0, 1, 5, 6]
      (.seq
      (.seq
      (.region 0 [
        (none, .v 7 (.move (.t 6))),
        (none, .v 8 (.move (.t 1))),
        (none, .v 9 (.cmp .lt (.t 7) (.t 8)))])
      (.cond (.t 9)
        .skip
        (.exit 0)))
      (.seq
      (.block 1
        (.seq
        (.region 2 [
          (none, .v 12 (.move (.t 0))),
          (none, .v 13 (.rem (.t 12) (.k (.int .u64 (256))))),
          (none, .v 14 (.conv .u8 (.t 13))),
          (none, .lit 15 0 (.int .u8) 1 [(0, .t 14)] false),
          (none, .v 16 (.move (.t 5))),
          (none, .app 17 1 (.int .u8) 1 (.t 15) (.t 16) false),
          (none, .v 5 (.drop (.t 17)))])
        (.region 0 [
          (none, .v 18 (.move (.t 0))),
          (none, .v 19 (.quo (.t 18) (.k (.int .u64 (256))))),
          (none, .v 0 (.move (.t 19)))])))
      (.region 0 [
        (none, .v 10 (.move (.t 6))),
        (none, .v 11 (.add (.t 10) (.k (.int .i64 (1))))),
        (none, .v 6 (.move (.t 11)))]))))))
  (.seq
  (.region 0 [
    (none, .v 20 (.move (.t 5))),
    (none, .v 4 (.move (.t 20)))])
  .ret))))
def nt_r05_put : Nat := 21
def rs_r05_put : List RV := [.tmp 4]
/-- pontage/bpdu.bits -/
abbrev f_bpdu_bits : FuncId := 26
def ac_bpdu_bits : AC :=
  (.seq
  (.region 0 [
    (none, .v 2 (.move (.k (.int .i64 (0)))))])
  (.seq
  (.region 0 [
    (none, .v 3 (.move (.t 0)))])
  (.block 0
    (.seq
    (.region 0 [
      (none, .v 5 (.cmp .eq (.t 3) (.k (.int .i64 (0))))),
      (none, .v 4 (.move (.t 5)))])
    (.cond (.t 4)
      (.seq
      (.region 0 [
        (none, .v 2 (.move (.k (.int .i64 (0)))))])
      .ret)
      (.seq
      (.region 0 [
        (none, .v 7 (.cmp .eq (.t 3) (.k (.int .i64 (1))))),
        (none, .v 6 (.move (.t 7)))])
      (.cond (.t 6)
        (.seq
        (.region 0 [
          (none, .v 2 (.move (.k (.int .i64 (1)))))])
        .ret)
        (.seq
        (.region 0 [
          (none, .v 9 (.cmp .eq (.t 3) (.k (.int .i64 (3))))),
          (none, .v 8 (.move (.t 9)))])
        (.cond (.t 8)
          (.seq
          (.region 0 [
            (none, .v 2 (.move (.k (.int .i64 (2)))))])
          .ret)
          (.seq
          (.region 0 [
            (none, .v 11 (.cmp .eq (.t 3) (.k (.int .i64 (4))))),
            (none, .v 10 (.move (.t 11)))])
          (.cond (.t 10)
            (.seq
            (.region 0 [
              (none, .v 2 (.move (.k (.int .i64 (3)))))])
            .ret)
            (.seq
            (.region 0 [
              (none, .v 2 (.move (.k (.int .i64 (-1)))))])
            .ret))))))))))))
def nt_bpdu_bits : Nat := 12
def rs_bpdu_bits : List RV := [.tmp 2]
/-- pontage/bpdu.fields -/
abbrev f_bpdu_fields : FuncId := 27
def ac_bpdu_fields : AC :=
  (.seq
  (.region 2 [
    (none, .box 2 0 T31 (.t 0)),
    (none, .alloc 4 1 T31)])
  (.seq
  (.region 0 [
    (none, .v 6 (.move (.t 1))),
    (none, .v 7 (.iadr none (.int .u8) (.t 6) (.k (.int .i64 (4))))),
    (none, .load 8 (.int .u8) (.t 7)),
    (none, .v 5 (.move (.t 8)))])
  (.seq
  (.region 0 [
    (none, .v 9 (.move (.t 5))),
    (none, .v 10 (.bit .and (.t 9) (.k (.int .u8 (1))))),
    (none, .v 11 (.cmp .ne (.t 10) (.k (.int .u8 (0))))),
    (none, .v 12 (.move (.t 5))),
    (none, .v 13 (.bit .and (.t 12) (.k (.int .u8 (128))))),
    (none, .v 14 (.cmp .ne (.t 13) (.k (.int .u8 (0))))),
    (none, .v 15 (.fadr T31 1 (.t 2))),
    (none, .store .bool (.t 15) (.t 11)),
    (none, .v 16 (.fadr T31 2 (.t 2))),
    (none, .store .bool (.t 16) (.t 14))])
  (.seq
  (.seq
  (.region 0 [
    (none, .v 17 (.fadr T31 0 (.t 2))),
    (none, .load 18 (.int .i64) (.t 17)),
    (none, .v 19 (.cmp .eq (.t 18) (.k (.int .i64 (3)))))])
  (.cond (.t 19)
    (.seq
    (.region 0 [
      (none, .v 20 (.move (.t 5))),
      (none, .v 21 (.bit .and (.t 20) (.k (.int .u8 (2))))),
      (none, .v 22 (.cmp .ne (.t 21) (.k (.int .u8 (0))))),
      (none, .v 23 (.move (.t 5))),
      (none, .v 24 (.bit .and (.t 23) (.k (.int .u8 (16))))),
      (none, .v 25 (.cmp .ne (.t 24) (.k (.int .u8 (0))))),
      (none, .v 26 (.move (.t 5))),
      (none, .v 27 (.bit .and (.t 26) (.k (.int .u8 (32))))),
      (none, .v 28 (.cmp .ne (.t 27) (.k (.int .u8 (0))))),
      (none, .v 29 (.move (.t 5))),
      (none, .v 30 (.bit .and (.t 29) (.k (.int .u8 (64))))),
      (none, .v 31 (.cmp .ne (.t 30) (.k (.int .u8 (0))))),
      (none, .v 32 (.fadr T31 3 (.t 2))),
      (none, .store .bool (.t 32) (.t 22)),
      (none, .v 33 (.fadr T31 4 (.t 2))),
      (none, .store .bool (.t 33) (.t 25)),
      (none, .v 34 (.fadr T31 5 (.t 2))),
      (none, .store .bool (.t 34) (.t 28)),
      (none, .v 35 (.fadr T31 6 (.t 2))),
      (none, .store .bool (.t 35) (.t 31))])
    (.region 0 [
      (none, .v 36 (.move (.t 5))),
      (none, .v 37 (.shr (.t 36) (.k (.int .u64 (2))))),
      (none, .callP (some 38) 39 [.t 37] 0 0 true),
      (none, .v 39 (.fadr T31 7 (.t 2))),
      (none, .store (.int .i64) (.t 39) (.t 38))]))
    .skip))
  (.seq
  (.region 0 [
    (none, .v 40 (.move (.t 1))),
    (none, .callP (some 41) 40 [.t 40, .k (.int .i64 (5)), .k (.int .i64 (8))] 0 0 true),
    (none, .v 42 (.move (.t 1))),
    (none, .callP (some 43) 40 [.t 42, .k (.int .i64 (13)), .k (.int .i64 (4))] 0 0 true),
    (none, .v 44 (.conv .u32 (.t 43))),
    (none, .v 45 (.move (.t 1))),
    (none, .callP (some 46) 40 [.t 45, .k (.int .i64 (17)), .k (.int .i64 (8))] 0 0 true),
    (none, .v 47 (.move (.t 1))),
    (none, .callP (some 48) 40 [.t 47, .k (.int .i64 (25)), .k (.int .i64 (2))] 0 0 true),
    (none, .v 49 (.conv .u16 (.t 48))),
    (none, .v 50 (.build T27 [(0, .t 41), (1, .t 44), (2, .t 46), (3, .t 49)])),
    (none, .v 51 (.fadr T31 8 (.t 2))),
    (none, .store T27 (.t 51) (.t 50))])
  (.seq
  (.draw 0 [[], [], [], [], [], [], [], [], [], [], [], []] [
    (none, .v 52 (.move (.t 1))),
    (none, .v 53 (.iadr none (.int .u8) (.t 52) (.k (.int .i64 (27))))),
    (none, .load 54 (.int .u8) (.t 53)),
    (none, .v 55 (.move (.t 1))),
    (none, .v 56 (.iadr none (.int .u8) (.t 55) (.k (.int .i64 (29))))),
    (none, .load 57 (.int .u8) (.t 56)),
    (none, .v 58 (.move (.t 1))),
    (none, .v 59 (.iadr none (.int .u8) (.t 58) (.k (.int .i64 (31))))),
    (none, .load 60 (.int .u8) (.t 59)),
    (none, .v 61 (.move (.t 1))),
    (none, .v 62 (.iadr none (.int .u8) (.t 61) (.k (.int .i64 (33))))),
    (none, .load 63 (.int .u8) (.t 62))] [
    (none, .v 64 (.build T29 [(0, .t 54), (1, .t 57), (2, .t 60), (3, .t 63)])),
    (none, .v 65 (.fadr T31 9 (.t 2))),
    (none, .store T29 (.t 65) (.t 64))])
  (.seq
  (.region 0 [
    (none, .load 66 T31 (.t 2)),
    (none, .store T31 (.t 4) (.t 66))])
  .ret)))))))
def nt_bpdu_fields : Nat := 67
def rs_bpdu_fields : List RV := [.cell 4 T31]
/-- slices.Equal[[]byte,byte] -/
abbrev f_slices_Equal_u8 : FuncId := 28
def ac_slices_Equal_u8 : AC :=
  (.seq
  (.region 0 [
    (none, .v 4 (.move (.k (.bool false))))])
  (.seq
  (.seq
  (.region 0 [
    (none, .v 6 (.move (.t 0))),
    (none, .v 7 (.len false (.t 6))),
    (none, .v 8 (.move (.t 1))),
    (none, .v 9 (.len false (.t 8))),
    (none, .v 10 (.cmp .ne (.t 7) (.t 9)))])
  (.cond (.t 10)
    (.seq
    (.region 0 [
      (none, .v 4 (.move (.k (.bool false))))])
    .ret)
    .skip))
  (.seq
  (.seq
  (.region 0 [
    (none, .v 11 (.move (.t 0))),
    (none, .v 12 (.len false (.t 11))),
    (none, .v 13 (.move (.k (.int .i64 (0)))))])
  (.block 0
    (.loop [0, 1, 12, 13]
      (.seq
      (.region 0 [
        (none, .v 14 (.cmp .lt (.t 13) (.t 12)))])
      (.seq
      (.cond (.t 14)
        .skip
        (.exit 0))
      (.seq
      (.block 1
        (.seq
        (.region 0 [
          (none, .v 15 (.move (.t 13))),
          (none, .v 5 (.move (.t 15)))])
        (.seq
        (.draw 0 [[], [], [], [], [], [], [], []] [
          (none, .v 16 (.move (.t 0))),
          (none, .v 17 (.move (.t 5))),
          (none, .v 18 (.iadr none (.int .u8) (.t 16) (.t 17))),
          (none, .load 19 (.int .u8) (.t 18)),
          (none, .v 20 (.move (.t 1))),
          (none, .v 21 (.move (.t 5))),
          (none, .v 22 (.iadr none (.int .u8) (.t 20) (.t 21))),
          (none, .load 23 (.int .u8) (.t 22))] [
          (none, .v 24 (.cmp .ne (.t 19) (.t 23)))])
        (.cond (.t 24)
          (.seq
          (.region 0 [
            (none, .v 4 (.move (.k (.bool false))))])
          .ret)
          .skip))))
      (.region 0 [
        (none, .v 25 (.add (.t 13) (.k (.int .i64 (1))))),
        (none, .v 13 (.move (.t 25)))])))))))
  (.seq
  (.region 0 [
    (none, .v 4 (.move (.k (.bool true))))])
  .ret))))
def nt_slices_Equal_u8 : Nat := 26
def rs_slices_Equal_u8 : List RV := [.tmp 4]
/-- pontage/pontageref05.bit -/
abbrev f_r05_bit : FuncId := 29
def ac_r05_bit : AC :=
  (.seq
  (.region 0 [
    (none, .v 4 (.move (.k (.bool false))))])
  (.seq
  (.region 0 [
    (none, .v 5 (.move (.t 0))),
    (none, .v 6 (.conv .i64 (.t 5))),
    (none, .v 7 (.move (.t 1))),
    (none, .v 8 (.quo (.t 6) (.t 7))),
    (none, .v 9 (.rem (.t 8) (.k (.int .i64 (2))))),
    (none, .v 10 (.cmp .eq (.t 9) (.k (.int .i64 (1))))),
    (none, .v 4 (.move (.t 10)))])
  .ret))
def nt_r05_bit : Nat := 11
def rs_r05_bit : List RV := [.tmp 4]
/-- pontage/pontageref05.roleOf -/
abbrev f_r05_roleOf : FuncId := 30
def ac_r05_roleOf : AC :=
  (.seq
  (.region 0 [
    (none, .v 2 (.move (.k (.int .i64 (0)))))])
  (.seq
  (.seq
  (.region 0 [
    (none, .v 3 (.move (.t 0)))])
  (.block 0
    (.seq
    (.region 0 [
      (none, .v 5 (.cmp .eq (.t 3) (.k (.int .i64 (1))))),
      (none, .v 4 (.move (.t 5)))])
    (.cond (.t 4)
      (.seq
      (.region 0 [
        (none, .v 2 (.move (.k (.int .i64 (1)))))])
      .ret)
      (.seq
      (.region 0 [
        (none, .v 7 (.cmp .eq (.t 3) (.k (.int .i64 (2))))),
        (none, .v 6 (.move (.t 7)))])
      (.cond (.t 6)
        (.seq
        (.region 0 [
          (none, .v 2 (.move (.k (.int .i64 (3)))))])
        .ret)
        (.seq
        (.region 0 [
          (none, .v 9 (.cmp .eq (.t 3) (.k (.int .i64 (3))))),
          (none, .v 8 (.move (.t 9)))])
        (.cond (.t 8)
          (.seq
          (.region 0 [
            (none, .v 2 (.move (.k (.int .i64 (4)))))])
          .ret)
          .skip))))))))
  (.seq
  (.region 0 [
    (none, .v 2 (.move (.k (.int .i64 (0)))))])
  .ret)))
def nt_r05_roleOf : Nat := 10
def rs_r05_roleOf : List RV := [.tmp 2]
/-- pontage/pontageref05.get -/
abbrev f_r05_get : FuncId := 31
def ac_r05_get : AC :=
  (.seq
  (.region 0 [
    (none, .v 2 (.move (.k (.int .u64 (0)))))])
  (.seq
  (.region 0 [
    (none, .v 3 (.move (.k (.int .u64 (0)))))])
  (.seq
  (.seq
  (.region 0 [
    (none, .v 4 (.move (.k (.int .i64 (0)))))])
  (.block 0
    (.loop [0, 3, 4]
      (.seq
      (.seq
      (.region 0 [
        (none, .v 5 (.move (.t 4))),
        (none, .v 6 (.move (.t 0))),
        (none, .v 7 (.len false (.t 6))),
        (none, .v 8 (.cmp .lt (.t 5) (.t 7)))])
      (.cond (.t 8)
        .skip
        (.exit 0)))
      (.seq
      (.block 1
        (.region 0 [
          (none, .v 11 (.move (.t 3))),
          (none, .v 12 (.mul (.t 11) (.k (.int .u64 (256))))),
          (none, .v 13 (.move (.t 0))),
          (none, .v 14 (.move (.t 4))),
          (none, .v 15 (.iadr none (.int .u8) (.t 13) (.t 14))),
          (none, .load 16 (.int .u8) (.t 15)),
          (none, .v 17 (.conv .u64 (.t 16))),
          (none, .v 18 (.add (.t 12) (.t 17))),
          (none, .v 3 (.move (.t 18)))]))
      (.region 0 [
        (none, .v 9 (.move (.t 4))),
        (none, .v 10 (.add (.t 9) (.k (.int .i64 (1))))),
        (none, .v 4 (.move (.t 10)))]))))))
  (.seq
  (.region 0 [
    (none, .v 19 (.move (.t 3))),
    (none, .v 2 (.move (.t 19)))])
  .ret))))
def nt_r05_get : Nat := 20
def rs_r05_get : List RV := [.tmp 2]
/-- pontage/mac.Kind -/
abbrev f_mac_Kind : FuncId := 32
def ac_mac_Kind : AC :=
  (.seq
  (.region 0 [
    (none, .boxc 1 T48 (.t 0)),
    (none, .v 2 (.move (.k (.int .i64 (0)))))])
  (.block 0
    (.seq
    (.region 0 [
      (none, .load 4 T48 (.t 1)),
      (none, .v 5 (.build T48 [])),
      (none, .v 6 (.eqT T48 false (.t 4) (.t 5))),
      (none, .v 3 (.move (.t 6)))])
    (.cond (.t 3)
      (.seq
      (.region 0 [
        (none, .v 2 (.move (.k (.int .i64 (6)))))])
      .ret)
      (.seq
      (.region 0 [
        (none, .load 8 T48 (.t 1)),
        (none, .v 9 (.build T48 [(0, .k (.int .u8 (255))), (1, .k (.int .u8 (255))), (2, .k (.int .u8 (255))), (3, .k (.int .u8 (255))), (4, .k (.int .u8 (255))), (5, .k (.int .u8 (255)))])),
        (none, .v 10 (.eqT T48 false (.t 8) (.t 9))),
        (none, .v 7 (.move (.t 10)))])
      (.cond (.t 7)
        (.seq
        (.region 0 [
          (none, .v 2 (.move (.k (.int .i64 (3)))))])
        .ret)
        (.seq
        (.region 0 [
          (none, .v 12 (.sliceA 6 (.int .u8) (.t 1) none (some (.k (.int .i64 (5)))))),
          (none, .v 13 (.sarr 5 (.int .u8) (.t 12))),
          (none, .load 14 T77 (.t 13)),
          (none, .v 15 (.build T77 [(0, .k (.int .u8 (1))), (1, .k (.int .u8 (128))), (2, .k (.int .u8 (194))), (3, .k (.int .u8 (0))), (4, .k (.int .u8 (0)))])),
          (none, .v 16 (.eqT T77 false (.t 14) (.t 15))),
          (none, .v 17 (.move (.t 16))),
          (some (17, true), .v 18 (.iadr (some 6) (.int .u8) (.t 1) (.k (.int .i64 (5))))),
          (some (17, true), .load 19 (.int .u8) (.t 18)),
          (some (17, true), .v 20 (.cmp .lt (.t 19) (.k (.int .u8 (16))))),
          (none, .v 21 (.pick (.t 17) (.t 20) (.k (.bool false)))),
          (none, .v 11 (.move (.t 21)))])
        (.cond (.t 11)
          (.seq
          (.region 0 [
            (none, .v 2 (.move (.k (.int .i64 (4)))))])
          .ret)
          (.seq
          (.region 0 [
            (none, .v 23 (.sliceA 6 (.int .u8) (.t 1) none (some (.k (.int .i64 (3)))))),
            (none, .v 24 (.sarr 3 (.int .u8) (.t 23))),
            (none, .load 25 T78 (.t 24)),
            (none, .v 26 (.build T78 [(0, .k (.int .u8 (1))), (1, .k (.int .u8 (30))), (2, .k (.int .u8 (131)))])),
            (none, .v 27 (.eqT T78 false (.t 25) (.t 26))),
            (none, .v 22 (.move (.t 27)))])
          (.cond (.t 22)
            (.seq
            (.region 0 [
              (none, .v 2 (.move (.k (.int .i64 (5)))))])
            .ret)
            (.seq
            (.region 0 [
              (none, .load 29 T48 (.t 1)),
              (none, .callP (some 30) 41 [.t 29] 0 0 true),
              (none, .v 28 (.move (.t 30)))])
            (.cond (.t 28)
              (.seq
              (.region 0 [
                (none, .v 2 (.move (.k (.int .i64 (2)))))])
              .ret)
              (.seq
              (.region 0 [
                (none, .v 2 (.move (.k (.int .i64 (1)))))])
              .ret)))))))))))))
def nt_mac_Kind : Nat := 31
def rs_mac_Kind : List RV := [.tmp 2]
/-- pontage/bpdu.bridges -/
abbrev f_bpdu_bridges : FuncId := 33
def ac_bpdu_bridges : AC :=
  (.seq
  (.region 1 [
    (none, .alloc 0 0 T48)])
  (.seq
  (.region 0 [
    (none, .v 1 (.build T48 [(0, .k (.int .u8 (1))), (1, .k (.int .u8 (128))), (2, .k (.int .u8 (194))), (3, .k (.int .u8 (0))), (4, .k (.int .u8 (0))), (5, .k (.int .u8 (0)))])),
    (none, .store T48 (.t 0) (.t 1))])
  .ret))
def nt_bpdu_bridges : Nat := 2
def rs_bpdu_bridges : List RV := [.cell 0 T48]
/-- slices.Concat[[]byte,byte] -/
abbrev f_slices_Concat_u8 : FuncId := 34
def ac_slices_Concat_u8 : AC :=
  (.seq
  (.region 0 [
    (none, .v 2 (.move (.k (.sl (.int .u8) [] .full))))])
  (.seq
  (.region 0 [
    (none, .v 3 (.move (.k (.int .i64 (0)))))])
  (.seq
  (.seq
  (.region 0 [
    (none, .v 9 (.move (.t 0))),
    (none, .v 10 (.len false (.t 9))),
    (none, .v 11 (.move (.k (.int .i64 (0)))))])
  (.block 0
    (.loop [0, 3, 9, 10, 11]
      (.seq
      (.region 0 [
        (none, .v 12 (.cmp .lt (.t 11) (.t 10)))])
      (.seq
      (.cond (.t 12)
        .skip
        (.exit 0))
      (.seq
      (.block 1
        (.seq
        (.region 0 [
          (none, .v 13 (.iadr none (.sl (.int .u8)) (.t 9) (.t 11))),
          (none, .load 14 (.sl (.int .u8)) (.t 13)),
          (none, .v 5 (.move (.t 14)))])
        (.seq
        (.region 0 [
          (none, .v 15 (.move (.t 3))),
          (none, .v 16 (.move (.t 5))),
          (none, .v 17 (.len false (.t 16))),
          (none, .v 18 (.add (.t 15) (.t 17))),
          (none, .v 3 (.move (.t 18)))])
        (.seq
        (.region 0 [
          (none, .v 19 (.move (.t 3))),
          (none, .v 20 (.cmp .lt (.t 19) (.k (.int .i64 (0)))))])
        (.cond (.t 20)
          (.region 0 [
            (none, .stop (some 21)),
            (none, .stop none)])
          .skip)))))
      (.region 0 [
        (none, .v 22 (.add (.t 11) (.k (.int .i64 (1))))),
        (none, .v 11 (.move (.t 22)))])))))))
  (.seq
  (.region 2 [
    (none, .v 23 (.move (.t 3))),
    (none, .callP (some 24) 42 [.k (.sl (.int .u8) [] .full), .t 23] 0 1 true),
    (none, .mk 6 1 (.int .u8) (.t 24))])
  (.seq
  (.seq
  (.region 0 [
    (none, .v 25 (.move (.t 0))),
    (none, .v 26 (.len false (.t 25))),
    (none, .v 27 (.move (.k (.int .i64 (0)))))])
  (.block 2
    (.loop [6, 25, 26, 27]
      (.seq
      (.region 0 [
        (none, .v 28 (.cmp .lt (.t 27) (.t 26)))])
      (.seq
      (.cond (.t 28)
        .skip
        (.exit 2))
      (.seq
      (.block 3
        (.seq
        (.region 0 [
          (none, .v 29 (.iadr none (.sl (.int .u8)) (.t 25) (.t 27))),
          (none, .load 30 (.sl (.int .u8)) (.t 29)),
          (none, .v 8 (.move (.t 30)))])
        (.region 1 [
          (none, .v 31 (.move (.t 6))),
          (none, .v 32 (.move (.t 8))),
          (none, .app 33 0 (.int .u8) 1 (.t 31) (.t 32) false),
          (none, .v 6 (.move (.t 33)))])))
      (.region 0 [
        (none, .v 34 (.add (.t 27) (.k (.int .i64 (1))))),
        (none, .v 27 (.move (.t 34)))])))))))
  (.seq
  (.region 0 [
    (none, .v 35 (.move (.t 6))),
    (none, .v 2 (.move (.t 35)))])
  .ret))))))
def nt_slices_Concat_u8 : Nat := 36
def rs_slices_Concat_u8 : List RV := [.tmp 2]
/-- pontage/bpdu.llc -/
abbrev f_bpdu_llc : FuncId := 35
def ac_bpdu_llc : AC :=
  (.seq
  (.region 0 [
    (none, .v 0 (.move (.k (.sl (.int .u8) [] .full))))])
  (.seq
  (.region 1 [
    (none, .lit 1 0 (.int .u8) 3 [(0, .k (.int .u8 (66))), (1, .k (.int .u8 (66))), (2, .k (.int .u8 (3)))] false),
    (none, .v 0 (.move (.t 1)))])
  .ret))
def nt_bpdu_llc : Nat := 2
def rs_bpdu_llc : List RV := [.tmp 0]
/-- pontage/pontageref01.Kind -/
abbrev f_r01_Kind : FuncId := 36
def ac_r01_Kind : AC :=
  (.seq
  (.region 0 [
    (none, .boxc 1 T48 (.t 0)),
    (none, .v 2 (.move (.k (.int .i64 (0)))))])
  (.seq
  (.block 0
    (.seq
    (.region 0 [
      (none, .load 4 T48 (.t 1)),
      (none, .callP (some 5) 43 [.t 4, .k (.int .u8 (0))] 0 0 true),
      (none, .v 3 (.move (.t 5)))])
    (.cond (.t 3)
      (.seq
      (.region 0 [
        (none, .v 2 (.move (.k (.int .i64 (6)))))])
      .ret)
      (.seq
      (.region 0 [
        (none, .load 7 T48 (.t 1)),
        (none, .callP (some 8) 43 [.t 7, .k (.int .u8 (255))] 0 0 true),
        (none, .v 6 (.move (.t 8)))])
      (.cond (.t 6)
        (.seq
        (.region 0 [
          (none, .v 2 (.move (.k (.int .i64 (3)))))])
        .ret)
        (.seq
        (.region 0 [
          (none, .v 10 (.iadr (some 6) (.int .u8) (.t 1) (.k (.int .i64 (0))))),
          (none, .load 11 (.int .u8) (.t 10)),
          (none, .v 12 (.cmp .eq (.t 11) (.k (.int .u8 (1))))),
          (none, .v 13 (.move (.t 12))),
          (some (13, true), .v 14 (.iadr (some 6) (.int .u8) (.t 1) (.k (.int .i64 (1))))),
          (some (13, true), .load 15 (.int .u8) (.t 14)),
          (some (13, true), .v 16 (.cmp .eq (.t 15) (.k (.int .u8 (128))))),
          (none, .v 17 (.pick (.t 13) (.t 16) (.k (.bool false)))),
          (none, .v 18 (.move (.t 17))),
          (some (18, true), .v 19 (.iadr (some 6) (.int .u8) (.t 1) (.k (.int .i64 (2))))),
          (some (18, true), .load 20 (.int .u8) (.t 19)),
          (some (18, true), .v 21 (.cmp .eq (.t 20) (.k (.int .u8 (194))))),
          (none, .v 22 (.pick (.t 18) (.t 21) (.k (.bool false)))),
          (none, .v 23 (.move (.t 22))),
          (some (23, true), .v 24 (.iadr (some 6) (.int .u8) (.t 1) (.k (.int .i64 (3))))),
          (some (23, true), .load 25 (.int .u8) (.t 24)),
          (some (23, true), .v 26 (.cmp .eq (.t 25) (.k (.int .u8 (0))))),
          (none, .v 27 (.pick (.t 23) (.t 26) (.k (.bool false)))),
          (none, .v 28 (.move (.t 27))),
          (some (28, true), .v 29 (.iadr (some 6) (.int .u8) (.t 1) (.k (.int .i64 (4))))),
          (some (28, true), .load 30 (.int .u8) (.t 29)),
          (some (28, true), .v 31 (.cmp .eq (.t 30) (.k (.int .u8 (0))))),
          (none, .v 32 (.pick (.t 28) (.t 31) (.k (.bool false)))),
          (none, .v 33 (.move (.t 32))),
          (some (33, true), .v 34 (.iadr (some 6) (.int .u8) (.t 1) (.k (.int .i64 (5))))),
          (some (33, true), .load 35 (.int .u8) (.t 34)),
          (some (33, true), .v 36 (.cmp .lt (.t 35) (.k (.int .u8 (16))))),
          (none, .v 37 (.pick (.t 33) (.t 36) (.k (.bool false)))),
          (none, .v 9 (.move (.t 37)))])
        (.cond (.t 9)
          (.seq
          (.region 0 [
            (none, .v 2 (.move (.k (.int .i64 (4)))))])
          .ret)
          (.seq
          (.region 0 [
            (none, .v 39 (.iadr (some 6) (.int .u8) (.t 1) (.k (.int .i64 (0))))),
            (none, .load 40 (.int .u8) (.t 39)),
            (none, .v 41 (.cmp .eq (.t 40) (.k (.int .u8 (1))))),
            (none, .v 42 (.move (.t 41))),
            (some (42, true), .v 43 (.iadr (some 6) (.int .u8) (.t 1) (.k (.int .i64 (1))))),
            (some (42, true), .load 44 (.int .u8) (.t 43)),
            (some (42, true), .v 45 (.cmp .eq (.t 44) (.k (.int .u8 (30))))),
            (none, .v 46 (.pick (.t 42) (.t 45) (.k (.bool false)))),
            (none, .v 47 (.move (.t 46))),
            (some (47, true), .v 48 (.iadr (some 6) (.int .u8) (.t 1) (.k (.int .i64 (2))))),
            (some (47, true), .load 49 (.int .u8) (.t 48)),
            (some (47, true), .v 50 (.cmp .eq (.t 49) (.k (.int .u8 (131))))),
            (none, .v 51 (.pick (.t 47) (.t 50) (.k (.bool false)))),
            (none, .v 38 (.move (.t 51)))])
          (.cond (.t 38)
            (.seq
            (.region 0 [
              (none, .v 2 (.move (.k (.int .i64 (5)))))])
            .ret)
            (.seq
            (.region 0 [
              (none, .v 53 (.iadr (some 6) (.int .u8) (.t 1) (.k (.int .i64 (0))))),
              (none, .load 54 (.int .u8) (.t 53)),
              (none, .v 55 (.rem (.t 54) (.k (.int .u8 (2))))),
              (none, .v 56 (.cmp .eq (.t 55) (.k (.int .u8 (1))))),
              (none, .v 52 (.move (.t 56)))])
            (.cond (.t 52)
              (.seq
              (.region 0 [
                (none, .v 2 (.move (.k (.int .i64 (2)))))])
              .ret)
              .skip)))))))))))
  (.seq
  (.region 0 [
    (none, .v 2 (.move (.k (.int .i64 (1)))))])
  .ret)))
def nt_r01_Kind : Nat := 57
def rs_r01_Kind : List RV := [.tmp 2]
/-- pontage/pontageref05.group -/
abbrev f_r05_group : FuncId := 37
def ac_r05_group : AC :=
  (.seq
  (.region 0 [
    (none, .v 0 (.move (.k (.sl (.int .u8) [] .full))))])
  (.seq
  (.region 1 [
    (none, .lit 1 0 (.int .u8) 6 [(0, .k (.int .u8 (1))), (1, .k (.int .u8 (128))), (2, .k (.int .u8 (194))), (3, .k (.int .u8 (0))), (4, .k (.int .u8 (0))), (5, .k (.int .u8 (0)))] false),
    (none, .v 0 (.move (.t 1)))])
  .ret))
def nt_r05_group : Nat := 2
def rs_r05_group : List RV := [.tmp 0]
/-- pontage/bpdu.flags$1 -/
abbrev f_bpdu_flags_1 : FuncId := 38
def ac_bpdu_flags_1 : AC :=
  (.seq
  (.region 0 [
    (none, .v 5 (.move (.t 0)))])
  (.cond (.t 5)
    (.region 0 [
      (none, .load 6 (.int .u8) (.t 2)),
      (none, .v 7 (.move (.t 1))),
      (none, .v 8 (.bit .or (.t 6) (.t 7))),
      (none, .store (.int .u8) (.t 2) (.t 8))])
    .skip))
def nt_bpdu_flags_1 : Nat := 9
def rs_bpdu_flags_1 : List RV := []
/-- pontage/bpdu.role -/
abbrev f_bpdu_role : FuncId := 39
def ac_bpdu_role : AC :=
  (.seq
  (.region 0 [
    (none, .v 2 (.move (.k (.int .i64 (0)))))])
  (.seq
  (.region 0 [
    (none, .v 3 (.build T83 [(0, .k (.int .i64 (0))), (1, .k (.int .i64 (1))), (2, .k (.int .i64 (3))), (3, .k (.int .i64 (4)))])),
    (none, .v 4 (.move (.t 0))),
    (none, .v 5 (.bit .and (.t 4) (.k (.int .u8 (3))))),
    (none, .v 6 (.aidx 4 (.int .i64) (.t 3) (.t 5))),
    (none, .v 2 (.move (.t 6)))])
  .ret))
def nt_bpdu_role : Nat := 7
def rs_bpdu_role : List RV := [.tmp 2]
/-- pontage/bpdu.at -/
abbrev f_bpdu_at : FuncId := 40
def ac_bpdu_at : AC :=
  (.seq
  (.region 0 [
    (none, .v 6 (.move (.k (.int .u64 (0)))))])
  (.seq
  (.region 0 [
    (none, .v 7 (.move (.k (.int .u64 (0)))))])
  (.seq
  (.seq
  (.region 0 [
    (none, .v 10 (.move (.t 0))),
    (none, .v 11 (.move (.t 1))),
    (none, .v 12 (.move (.t 1))),
    (none, .v 13 (.move (.t 2))),
    (none, .v 14 (.add (.t 12) (.t 13))),
    (none, .v 15 (.slice (.int .u8) (.t 10) (some (.t 11)) (some (.t 14)) none)),
    (none, .v 16 (.len false (.t 15))),
    (none, .v 17 (.move (.k (.int .i64 (0)))))])
  (.block 0
    (.loop [7, 15, 16, 17]
      (.seq
      (.region 0 [
        (none, .v 18 (.cmp .lt (.t 17) (.t 16)))])
      (.seq
      (.cond (.t 18)
        .skip
        (.exit 0))
      (.seq
      (.block 1
        (.seq
        (.region 0 [
          (none, .v 19 (.iadr none (.int .u8) (.t 15) (.t 17))),
          (none, .load 20 (.int .u8) (.t 19)),
          (none, .v 9 (.move (.t 20)))])
        (.region 0 [
          (none, .v 21 (.move (.t 7))),
          (none, .v 22 (.shl (.t 21) (.k (.int .u64 (8))))),
          (none, .v 23 (.move (.t 9))),
          (none, .v 24 (.conv .u64 (.t 23))),
          (none, .v 25 (.bit .or (.t 22) (.t 24))),
          (none, .v 7 (.move (.t 25)))])))
      (.region 0 [
        (none, .v 26 (.add (.t 17) (.k (.int .i64 (1))))),
        (none, .v 17 (.move (.t 26)))])))))))
  (.seq
  (.region 0 [
    (none, .v 27 (.move (.t 7))),
    (none, .v 6 (.move (.t 27)))])
  .ret))))
def nt_bpdu_at : Nat := 28
def rs_bpdu_at : List RV := [.tmp 6]
/-- pontage/mac.Many -/
abbrev f_mac_Many : FuncId := 41
def ac_mac_Many : AC :=
  (.seq
  (.region 0 [
    (none, .boxc 1 T48 (.t 0)),
    (none, .v 2 (.move (.k (.bool false))))])
  (.seq
  (.region 0 [
    (none, .v 3 (.iadr (some 6) (.int .u8) (.t 1) (.k (.int .i64 (0))))),
    (none, .load 4 (.int .u8) (.t 3)),
    (none, .v 5 (.bit .and (.t 4) (.k (.int .u8 (1))))),
    (none, .v 6 (.cmp .eq (.t 5) (.k (.int .u8 (1))))),
    (none, .v 2 (.move (.t 6)))])
  .ret))
def nt_mac_Many : Nat := 7
def rs_mac_Many : List RV := [.tmp 2]
/-- slices.Grow[[]byte,byte] -/
abbrev f_slices_Grow_u8 : FuncId := 42
def ac_slices_Grow_u8 : AC :=
  (.seq
  (.region 0 [
    (none, .v 4 (.move (.k (.sl (.int .u8) [] .full))))])
  (.seq
  (.seq
  (.region 0 [
    (none, .v 5 (.move (.t 1))),
    (none, .v 6 (.cmp .lt (.t 5) (.k (.int .i64 (0)))))])
  (.cond (.t 6)
    (.region 0 [
      (none, .stop (some 7)),
      (none, .stop none)])
    .skip))
  (.seq
  (.seq
  (.region 0 [
    (none, .v 8 (.move (.t 1))),
    (none, .v 9 (.move (.t 0))),
    (none, .cap 10 (.t 9)),
    (none, .v 11 (.move (.t 0))),
    (none, .v 12 (.len false (.t 11))),
    (none, .v 13 (.sub (.t 10) (.t 12))),
    (none, .v 14 (.sub (.t 8) (.t 13))),
    (none, .v 1 (.move (.t 14)))])
  (.seq
  (.region 0 [
    (none, .v 15 (.move (.t 1))),
    (none, .v 16 (.cmp .gt (.t 15) (.k (.int .i64 (0)))))])
  (.cond (.t 16)
    (.region 1 [
      (none, .v 17 (.move (.t 0))),
      (none, .v 18 (.move (.t 0))),
      (none, .cap 19 (.t 18)),
      (none, .v 20 (.slc (.int .u8) (.t 17) (.t 19))),
      (none, .v 21 (.move (.t 1))),
      (none, .appz 22 0 (.int .u8) 1 (.t 20) (.t 21)),
      (none, .v 23 (.move (.t 0))),
      (none, .v 24 (.len false (.t 23))),
      (none, .trim 25 (.t 22) (.t 24)),
      (none, .v 0 (.move (.t 25)))])
    .skip)))
  (.seq
  (.region 0 [
    (none, .v 26 (.move (.t 0))),
    (none, .v 4 (.move (.t 26)))])
  .ret))))
def nt_slices_Grow_u8 : Nat := 27
def rs_slices_Grow_u8 : List RV := [.tmp 4]
/-- pontage/pontageref01.same -/
abbrev f_r01_same : FuncId := 43
def ac_r01_same : AC :=
  (.seq
  (.region 0 [
    (none, .boxc 2 T48 (.t 0)),
    (none, .v 4 (.move (.k (.bool false))))])
  (.seq
  (.seq
  (.region 0 [
    (none, .v 5 (.move (.k (.int .i64 (0)))))])
  (.block 0
    (.loop [1, 2, 5]
      (.seq
      (.seq
      (.region 0 [
        (none, .v 6 (.move (.t 5))),
        (none, .v 7 (.cmp .lt (.t 6) (.k (.int .i64 (6)))))])
      (.cond (.t 7)
        .skip
        (.exit 0)))
      (.seq
      (.block 1
        (.seq
        (.region 0 [
          (none, .v 10 (.move (.t 5))),
          (none, .v 11 (.iadr (some 6) (.int .u8) (.t 2) (.t 10))),
          (none, .load 12 (.int .u8) (.t 11)),
          (none, .v 13 (.move (.t 1))),
          (none, .v 14 (.cmp .ne (.t 12) (.t 13)))])
        (.cond (.t 14)
          (.seq
          (.region 0 [
            (none, .v 4 (.move (.k (.bool false))))])
          .ret)
          .skip)))
      (.region 0 [
        (none, .v 8 (.move (.t 5))),
        (none, .v 9 (.add (.t 8) (.k (.int .i64 (1))))),
        (none, .v 5 (.move (.t 9)))]))))))
  (.seq
  (.region 0 [
    (none, .v 4 (.move (.k (.bool true))))])
  .ret)))
def nt_r01_same : Nat := 15
def rs_r01_same : List RV := [.tmp 4]
theorem mixed : prog.follows .mixedOrders = true := by kernel_rfl
theorem ok_l05_BpduBytes : funOK prog f_l05_BpduBytes nt_l05_BpduBytes rs_l05_BpduBytes ac_l05_BpduBytes = true := by kernel_rfl
theorem ok_l05_BpduReads : funOK prog f_l05_BpduReads nt_l05_BpduReads rs_l05_BpduReads ac_l05_BpduReads = true := by kernel_rfl
theorem ok_l05_BpduFrames : funOK prog f_l05_BpduFrames nt_l05_BpduFrames rs_l05_BpduFrames ac_l05_BpduFrames = true := by kernel_rfl
theorem ok_l05_BpduBack : funOK prog f_l05_BpduBack nt_l05_BpduBack rs_l05_BpduBack ac_l05_BpduBack = true := by kernel_rfl
theorem ok_bpdu_Bytes : funOK prog f_bpdu_Bytes nt_bpdu_Bytes rs_bpdu_Bytes ac_bpdu_Bytes = true := by kernel_rfl
theorem ok_r05_Bytes : funOK prog f_r05_Bytes nt_r05_Bytes rs_r05_Bytes ac_r05_Bytes = true := by kernel_rfl
theorem ok_bpdu_Check : funOK prog f_bpdu_Check nt_bpdu_Check rs_bpdu_Check ac_bpdu_Check = true := by kernel_rfl
theorem ok_l05_awake : funOK prog f_l05_awake nt_l05_awake rs_l05_awake ac_l05_awake = true := by kernel_rfl
theorem ok_l05_cut : funOK prog f_l05_cut nt_l05_cut rs_l05_cut ac_l05_cut = true := by kernel_rfl
theorem ok_bpdu_Read : funOK prog f_bpdu_Read nt_bpdu_Read rs_bpdu_Read ac_bpdu_Read = true := by kernel_rfl
theorem ok_r05_Read : funOK prog f_r05_Read nt_r05_Read rs_r05_Read ac_r05_Read = true := by kernel_rfl
theorem ok_bpdu_Encode : funOK prog f_bpdu_Encode nt_bpdu_Encode rs_bpdu_Encode ac_bpdu_Encode = true := by kernel_rfl
theorem ok_r05_Encode : funOK prog f_r05_Encode nt_r05_Encode rs_r05_Encode ac_r05_Encode = true := by kernel_rfl
theorem ok_bpdu_Decode : funOK prog f_bpdu_Decode nt_bpdu_Decode rs_bpdu_Decode ac_bpdu_Decode = true := by kernel_rfl
theorem ok_r05_Decode : funOK prog f_r05_Decode nt_r05_Decode rs_r05_Decode ac_r05_Decode = true := by kernel_rfl
theorem ok_bpdu_Is : funOK prog f_bpdu_Is nt_bpdu_Is rs_bpdu_Is ac_bpdu_Is = true := by kernel_rfl
theorem ok_r05_Is : funOK prog f_r05_Is nt_r05_Is rs_r05_Is ac_r05_Is = true := by kernel_rfl
theorem ok_bpdu_flags : funOK prog f_bpdu_flags nt_bpdu_flags rs_bpdu_flags ac_bpdu_flags = true := by kernel_rfl
theorem ok_bpdu_number : funOK prog f_bpdu_number nt_bpdu_number rs_bpdu_number ac_bpdu_number = true := by kernel_rfl
theorem ok_r05_fine : funOK prog f_r05_fine nt_r05_fine rs_r05_fine ac_r05_fine = true := by kernel_rfl
theorem ok_r05_flag : funOK prog f_r05_flag nt_r05_flag rs_r05_flag ac_r05_flag = true := by kernel_rfl
theorem ok_r05_role : funOK prog f_r05_role nt_r05_role rs_r05_role ac_r05_role = true := by kernel_rfl
theorem ok_r05_put : funOK prog f_r05_put nt_r05_put rs_r05_put ac_r05_put = true := by kernel_rfl
theorem ok_bpdu_bits : funOK prog f_bpdu_bits nt_bpdu_bits rs_bpdu_bits ac_bpdu_bits = true := by kernel_rfl
theorem ok_bpdu_fields : funOK prog f_bpdu_fields nt_bpdu_fields rs_bpdu_fields ac_bpdu_fields = true := by kernel_rfl
theorem ok_slices_Equal_u8 : funOK prog f_slices_Equal_u8 nt_slices_Equal_u8 rs_slices_Equal_u8 ac_slices_Equal_u8 = true := by kernel_rfl
theorem ok_r05_bit : funOK prog f_r05_bit nt_r05_bit rs_r05_bit ac_r05_bit = true := by kernel_rfl
theorem ok_r05_roleOf : funOK prog f_r05_roleOf nt_r05_roleOf rs_r05_roleOf ac_r05_roleOf = true := by kernel_rfl
theorem ok_r05_get : funOK prog f_r05_get nt_r05_get rs_r05_get ac_r05_get = true := by kernel_rfl
theorem ok_mac_Kind : funOK prog f_mac_Kind nt_mac_Kind rs_mac_Kind ac_mac_Kind = true := by kernel_rfl
theorem ok_bpdu_bridges : funOK prog f_bpdu_bridges nt_bpdu_bridges rs_bpdu_bridges ac_bpdu_bridges = true := by kernel_rfl
theorem ok_slices_Concat_u8 : funOK prog f_slices_Concat_u8 nt_slices_Concat_u8 rs_slices_Concat_u8 ac_slices_Concat_u8 = true := by kernel_rfl
theorem ok_bpdu_llc : funOK prog f_bpdu_llc nt_bpdu_llc rs_bpdu_llc ac_bpdu_llc = true := by kernel_rfl
theorem ok_r01_Kind : funOK prog f_r01_Kind nt_r01_Kind rs_r01_Kind ac_r01_Kind = true := by kernel_rfl
theorem ok_r05_group : funOK prog f_r05_group nt_r05_group rs_r05_group ac_r05_group = true := by kernel_rfl
theorem ok_bpdu_flags_1 : funOK prog f_bpdu_flags_1 nt_bpdu_flags_1 rs_bpdu_flags_1 ac_bpdu_flags_1 = true := by kernel_rfl
theorem ok_bpdu_role : funOK prog f_bpdu_role nt_bpdu_role rs_bpdu_role ac_bpdu_role = true := by kernel_rfl
theorem ok_bpdu_at : funOK prog f_bpdu_at nt_bpdu_at rs_bpdu_at ac_bpdu_at = true := by kernel_rfl
theorem ok_mac_Many : funOK prog f_mac_Many nt_mac_Many rs_mac_Many ac_mac_Many = true := by kernel_rfl
theorem ok_slices_Grow_u8 : funOK prog f_slices_Grow_u8 nt_slices_Grow_u8 rs_slices_Grow_u8 ac_slices_Grow_u8 = true := by kernel_rfl
theorem ok_r01_same : funOK prog f_r01_same nt_r01_same rs_r01_same ac_r01_same = true := by kernel_rfl
def orc : Orc where
  p := fun f args => match f with
    | 3 => pLBytes args
    | 4 => pLReads args
    | 5 => pLFrames args
    | 6 => pLFrames args
    | 7 => pBBytes args
    | 8 => pBBytes args
    | 9 => pBpCheck args
    | 10 => pYes5 args
    | 11 => pCut100 args
    | 12 => pRead args
    | 13 => pRead args
    | 14 => pBpEnc args
    | 15 => pBpEnc args
    | 16 => pBpDec args
    | 17 => pBpDec args
    | 18 => pIsB args
    | 19 => pIsB args
    | 20 => pFlags args
    | 22 => pFine args
    | 23 => pFlag args
    | 24 => pRRole args
    | 25 => pPutB args
    | 26 => pBits args
    | 27 => pFields args
    | 28 => pEqual8 args
    | 29 => pBitN args
    | 30 => pRoleOf args
    | 31 => pGet args
    | 32 => pKind args
    | 33 => pBridges args
    | 34 => pConcat8 args
    | 35 => pLlc args
    | 36 => pKind args
    | 37 => pGroup args
    | 39 => pBRole args
    | 40 => pAt args
    | 41 => pMany args
    | 42 => pGrow8 args
    | 43 => pSame1 args
    | _ => .bad
  s := fun f args h => match f with
    | 21 => sNumB args h
    | 38 => sPut args h
    | _ => .bad
  fu := fun f => match f with
    | 42 => true
    | _ => false
end Go.Vc.Seat
