/- The seat's code in abstract form, held against the program; what is known of its functions. -/
import Derived.Test.YtgcakbnkeiajeaaProg
import Derived.KernelRfl
import Derived.Test.YtgcakbnkeiajeaaSpTag
import Derived.Test.YtgcakbnkeiajeaaSpTag2
set_option linter.unusedVariables false
set_option maxRecDepth 100000
namespace Go.Vc.Seat
open Go.Vc Go.Proofs.Try
abbrev T22 : Ty := .st [.int .i64, .bool, .int .i64]
abbrev T24 : Ty := .arr 6 (.int .u8)
abbrev T26 : Ty := .st [.int .i64, .bool, .bool, .int .i64, .arr 6 (.int .u8), .arr 6 (.int .u8)]
/-- pontage/pontagelaw02.TagPuts -/
abbrev f_l02_TagPuts : FuncId := 3
def ac_l02_TagPuts : AC :=
  (.seq
  (.region 0 [
    (none, .boxc 2 T22 (.t 0)),
    (none, .boxc 3 T26 (.t 1)),
    (none, .v 4 (.move (.k (.bool false))))])
  (.seq
  (.region 1 [
    (none, .load 14 T22 (.t 2)),
    (none, .callP (some 15) 8 [.t 14] 0 1 true),
    (none, .v 13 (.move (.t 15))),
    (none, .v 16 (.ext (.t 13) 0)),
    (none, .v 17 (.ext (.t 13) 1)),
    (none, .v 5 (.move (.t 16))),
    (none, .v 6 (.move (.t 17)))])
  (.seq
  (.region 1 [
    (none, .load 19 T22 (.t 2)),
    (none, .callP (some 20) 9 [.t 19] 0 1 true),
    (none, .v 18 (.move (.t 20))),
    (none, .v 21 (.ext (.t 18) 0)),
    (none, .v 22 (.ext (.t 18) 1)),
    (none, .v 7 (.move (.t 21))),
    (none, .v 8 (.move (.t 22)))])
  (.seq
  (.region 1 [
    (none, .load 24 T26 (.t 3)),
    (none, .callP (some 25) 10 [.t 24] 0 1 true),
    (none, .v 23 (.move (.t 25))),
    (none, .v 26 (.ext (.t 23) 0)),
    (none, .v 27 (.ext (.t 23) 1)),
    (none, .v 9 (.move (.t 26))),
    (none, .v 10 (.move (.t 27)))])
  (.seq
  (.region 1 [
    (none, .load 29 T26 (.t 3)),
    (none, .callP (some 30) 11 [.t 29] 0 1 true),
    (none, .v 28 (.move (.t 30))),
    (none, .v 31 (.ext (.t 28) 0)),
    (none, .v 32 (.ext (.t 28) 1)),
    (none, .v 11 (.move (.t 31))),
    (none, .v 12 (.move (.t 32)))])
  (.seq
  (.draw 0 [[], [], [], [], [], [], [], [], [], [], [], [], [11], [], [11, 12, 13], [], [], [], [], [], [], [], [], [], [], [], [], [], [], [], [12, 14], [11, 12, 13, 14, 30], [12, 14]] [
    (none, .v 33 (.move (.t 5))),
    (none, .v 34 (.convS true (.t 33))),
    (none, .v 35 (.move (.t 7))),
    (none, .v 36 (.convS true (.t 35))),
    (none, .v 37 (.eqT .str false (.t 34) (.t 36))),
    (none, .v 38 (.move (.t 37))),
    (some (38, true), .v 39 (.move (.t 6))),
    (some (38, true), .v 40 (.move (.t 8))),
    (some (38, true), .v 41 (.cmp .eq (.t 39) (.t 40))),
    (none, .v 42 (.pick (.t 38) (.t 41) (.k (.bool false)))),
    (none, .v 43 (.move (.t 42))),
    (some (43, true), .load 44 T22 (.t 2)),
    (some (43, true), .callP (some 45) 12 [.t 44] 0 0 false),
    (some (43, true), .load 46 T22 (.t 2)),
    (some (43, true), .callP (some 47) 13 [.t 46] 0 0 false),
    (some (43, true), .v 48 (.cmp .eq (.t 45) (.t 47))),
    (none, .v 49 (.pick (.t 43) (.t 48) (.k (.bool false)))),
    (none, .v 50 (.move (.t 49))),
    (some (50, true), .v 51 (.move (.t 9))),
    (some (50, true), .v 52 (.convS true (.t 51))),
    (some (50, true), .v 53 (.move (.t 11))),
    (some (50, true), .v 54 (.convS true (.t 53))),
    (some (50, true), .v 55 (.eqT .str false (.t 52) (.t 54))),
    (none, .v 56 (.pick (.t 50) (.t 55) (.k (.bool false)))),
    (none, .v 57 (.move (.t 56))),
    (some (57, true), .v 58 (.move (.t 10))),
    (some (57, true), .v 59 (.move (.t 12))),
    (some (57, true), .v 60 (.cmp .eq (.t 58) (.t 59))),
    (none, .v 61 (.pick (.t 57) (.t 60) (.k (.bool false)))),
    (none, .v 62 (.move (.t 61))),
    (some (62, true), .load 63 T26 (.t 3)),
    (some (62, true), .callP (some 64) 14 [.t 63] 0 0 false),
    (some (62, true), .load 65 T26 (.t 3))] [
    (some (62, true), .callP (some 66) 15 [.t 65] 0 0 true),
    (some (62, true), .v 67 (.cmp .eq (.t 64) (.t 66))),
    (none, .v 68 (.pick (.t 62) (.t 67) (.k (.bool false)))),
    (none, .v 69 (.move (.t 68))),
    (some (69, true), .callP (some 70) 16 [] 0 0 true),
    (none, .v 71 (.pick (.t 69) (.t 70) (.k (.bool false)))),
    (none, .v 4 (.move (.t 71)))])
  .ret))))))
def nt_l02_TagPuts : Nat := 72
def rs_l02_TagPuts : List RV := [.tmp 4]
/-- pontage/pontagelaw02.TagTypes -/
abbrev f_l02_TagTypes : FuncId := 4
def ac_l02_TagTypes : AC :=
  (.seq
  (.region 0 [
    (none, .boxc 8 T22 (.t 3)),
    (none, .v 10 (.move (.k (.bool false))))])
  (.seq
  (.region 0 [
    (none, .v 25 (.move (.t 1))),
    (none, .callP (some 26) 17 [.t 25] 0 0 true),
    (none, .v 1 (.move (.t 26)))])
  (.seq
  (.region 0 [
    (none, .v 27 (.move (.t 2))),
    (none, .callP (some 28) 17 [.t 27] 0 0 true),
    (none, .v 2 (.move (.t 28)))])
  (.seq
  (.region 2 [
    (none, .v 30 (.move (.t 0))),
    (none, .v 31 (.move (.t 1))),
    (none, .v 32 (.move (.t 2))),
    (none, .lit 33 0 (.sl (.int .u8)) 2 [(0, .t 31), (1, .t 32)] false),
    (none, .callP (some 34) 18 [.t 30, .t 33] 1 1 true),
    (none, .v 29 (.move (.t 34))),
    (none, .v 35 (.ext (.t 29) 0)),
    (none, .v 36 (.ext (.t 29) 1)),
    (none, .v 11 (.move (.t 35))),
    (none, .v 12 (.move (.t 36)))])
  (.seq
  (.region 2 [
    (none, .v 38 (.move (.t 0))),
    (none, .v 39 (.move (.t 1))),
    (none, .v 40 (.move (.t 2))),
    (none, .lit 41 0 (.sl (.int .u8)) 2 [(0, .t 39), (1, .t 40)] false),
    (none, .callP (some 42) 19 [.t 38, .t 41] 1 1 true),
    (none, .v 37 (.move (.t 42))),
    (none, .v 43 (.ext (.t 37) 0)),
    (none, .v 44 (.ext (.t 37) 1)),
    (none, .v 13 (.move (.t 43))),
    (none, .v 14 (.move (.t 44)))])
  (.seq
  (.region 1 [
    (none, .v 46 (.move (.t 1))),
    (none, .callP (some 47) 20 [.t 46] 0 1 true),
    (none, .v 45 (.move (.t 47))),
    (none, .v 48 (.ext (.t 45) 0)),
    (none, .v 49 (.ext (.t 45) 1)),
    (none, .v 50 (.ext (.t 45) 2)),
    (none, .v 15 (.move (.t 48))),
    (none, .v 16 (.move (.t 49))),
    (none, .v 17 (.move (.t 50)))])
  (.seq
  (.region 1 [
    (none, .v 52 (.move (.t 1))),
    (none, .callP (some 53) 21 [.t 52] 0 1 true),
    (none, .v 51 (.move (.t 53))),
    (none, .v 54 (.ext (.t 51) 0)),
    (none, .v 55 (.ext (.t 51) 1)),
    (none, .v 56 (.ext (.t 51) 2)),
    (none, .v 18 (.move (.t 54))),
    (none, .v 19 (.move (.t 55))),
    (none, .v 20 (.move (.t 56)))])
  (.seq
  (.region 1 [
    (none, .load 58 T22 (.t 8)),
    (none, .v 59 (.move (.t 4))),
    (none, .callP (some 60) 22 [.t 58, .t 59] 0 0 true),
    (none, .v 57 (.move (.t 60))),
    (none, .v 61 (.ext (.t 57) 0)),
    (none, .v 62 (.ext (.t 57) 1)),
    (none, .alloc 21 0 T22),
    (none, .store T22 (.t 21) (.t 61)),
    (none, .v 22 (.move (.t 62)))])
  (.seq
  (.region 1 [
    (none, .load 64 T22 (.t 8)),
    (none, .v 65 (.move (.t 4))),
    (none, .callP (some 66) 23 [.t 64, .t 65] 0 0 true),
    (none, .v 63 (.move (.t 66))),
    (none, .v 67 (.ext (.t 63) 0)),
    (none, .v 68 (.ext (.t 63) 1)),
    (none, .alloc 23 0 T22),
    (none, .store T22 (.t 23) (.t 67)),
    (none, .v 24 (.move (.t 68)))])
  (.seq
  (.region 0 [
    (none, .v 69 (.move (.t 11))),
    (none, .v 70 (.convS true (.t 69))),
    (none, .v 71 (.move (.t 13))),
    (none, .v 72 (.convS true (.t 71))),
    (none, .v 73 (.eqT .str false (.t 70) (.t 72))),
    (none, .v 74 (.move (.t 73))),
    (some (74, true), .v 75 (.move (.t 12))),
    (some (74, true), .v 76 (.move (.t 14))),
    (some (74, true), .v 77 (.cmp .eq (.t 75) (.t 76))),
    (none, .v 78 (.pick (.t 74) (.t 77) (.k (.bool false)))),
    (none, .v 79 (.move (.t 78))),
    (some (79, true), .v 80 (.move (.t 15))),
    (some (79, true), .v 81 (.move (.t 18))),
    (some (79, true), .v 82 (.cmp .eq (.t 80) (.t 81))),
    (none, .v 83 (.pick (.t 79) (.t 82) (.k (.bool false)))),
    (none, .v 84 (.move (.t 83))),
    (some (84, true), .v 85 (.move (.t 16))),
    (some (84, true), .v 86 (.convS true (.t 85))),
    (some (84, true), .v 87 (.move (.t 19))),
    (some (84, true), .v 88 (.convS true (.t 87))),
    (some (84, true), .v 89 (.eqT .str false (.t 86) (.t 88))),
    (none, .v 90 (.pick (.t 84) (.t 89) (.k (.bool false)))),
    (none, .v 91 (.move (.t 90))),
    (some (91, true), .v 92 (.move (.t 17))),
    (some (91, true), .v 93 (.move (.t 20))),
    (some (91, true), .v 94 (.cmp .eq (.t 92) (.t 93))),
    (none, .v 95 (.pick (.t 91) (.t 94) (.k (.bool false)))),
    (none, .v 96 (.move (.t 95))),
    (some (96, true), .load 97 T22 (.t 21)),
    (some (96, true), .load 98 T22 (.t 23)),
    (some (96, true), .v 99 (.eqT T22 false (.t 97) (.t 98))),
    (none, .v 100 (.pick (.t 96) (.t 99) (.k (.bool false)))),
    (none, .v 101 (.move (.t 100))),
    (some (101, true), .v 102 (.move (.t 22))),
    (some (101, true), .v 103 (.move (.t 24))),
    (some (101, true), .v 104 (.cmp .eq (.t 102) (.t 103))),
    (none, .v 105 (.pick (.t 101) (.t 104) (.k (.bool false)))),
    (none, .v 106 (.move (.t 105))),
    (some (106, true), .callP (some 107) 16 [] 0 0 true),
    (none, .v 108 (.pick (.t 106) (.t 107) (.k (.bool false)))),
    (none, .v 10 (.move (.t 108)))])
  .ret))))))))))
def nt_l02_TagTypes : Nat := 109
def rs_l02_TagTypes : List RV := [.tmp 10]
/-- pontage/pontagelaw02.TagTakes -/
abbrev f_l02_TagTakes : FuncId := 5
def ac_l02_TagTakes : AC :=
  (.seq
  (.region 0 [
    (none, .v 2 (.move (.k (.bool false))))])
  (.seq
  (.region 0 [
    (none, .v 15 (.move (.t 0))),
    (none, .callP (some 16) 17 [.t 15] 0 0 true),
    (none, .v 0 (.move (.t 16)))])
  (.seq
  (.region 2 [
    (none, .v 18 (.move (.t 0))),
    (none, .callP (some 19) 24 [.t 18] 0 1 true),
    (none, .v 17 (.move (.t 19))),
    (none, .v 20 (.ext (.t 17) 0)),
    (none, .v 21 (.ext (.t 17) 1)),
    (none, .v 22 (.ext (.t 17) 2)),
    (none, .alloc 3 1 T22),
    (none, .store T22 (.t 3) (.t 20)),
    (none, .v 4 (.move (.t 21))),
    (none, .v 5 (.move (.t 22)))])
  (.seq
  (.region 2 [
    (none, .v 24 (.move (.t 0))),
    (none, .callP (some 25) 25 [.t 24] 0 1 true),
    (none, .v 23 (.move (.t 25))),
    (none, .v 26 (.ext (.t 23) 0)),
    (none, .v 27 (.ext (.t 23) 1)),
    (none, .v 28 (.ext (.t 23) 2)),
    (none, .alloc 6 1 T22),
    (none, .store T22 (.t 6) (.t 26)),
    (none, .v 7 (.move (.t 27))),
    (none, .v 8 (.move (.t 28)))])
  (.seq
  (.region 2 [
    (none, .v 30 (.move (.t 0))),
    (none, .callP (some 31) 26 [.t 30] 0 1 true),
    (none, .v 29 (.move (.t 31))),
    (none, .v 32 (.ext (.t 29) 0)),
    (none, .v 33 (.ext (.t 29) 1)),
    (none, .v 34 (.ext (.t 29) 2)),
    (none, .alloc 9 1 T26),
    (none, .store T26 (.t 9) (.t 32)),
    (none, .v 10 (.move (.t 33))),
    (none, .v 11 (.move (.t 34)))])
  (.seq
  (.region 2 [
    (none, .v 36 (.move (.t 0))),
    (none, .callP (some 37) 27 [.t 36] 0 1 true),
    (none, .v 35 (.move (.t 37))),
    (none, .v 38 (.ext (.t 35) 0)),
    (none, .v 39 (.ext (.t 35) 1)),
    (none, .v 40 (.ext (.t 35) 2)),
    (none, .alloc 12 1 T26),
    (none, .store T26 (.t 12) (.t 38)),
    (none, .v 13 (.move (.t 39))),
    (none, .v 14 (.move (.t 40)))])
  (.seq
  (.region 0 [
    (none, .load 41 T22 (.t 3)),
    (none, .load 42 T22 (.t 6)),
    (none, .v 43 (.eqT T22 false (.t 41) (.t 42))),
    (none, .v 44 (.move (.t 43))),
    (some (44, true), .v 45 (.move (.t 4))),
    (some (44, true), .v 46 (.convS true (.t 45))),
    (some (44, true), .v 47 (.move (.t 7))),
    (some (44, true), .v 48 (.convS true (.t 47))),
    (some (44, true), .v 49 (.eqT .str false (.t 46) (.t 48))),
    (none, .v 50 (.pick (.t 44) (.t 49) (.k (.bool false)))),
    (none, .v 51 (.move (.t 50))),
    (some (51, true), .v 52 (.move (.t 5))),
    (some (51, true), .v 53 (.move (.t 8))),
    (some (51, true), .v 54 (.cmp .eq (.t 52) (.t 53))),
    (none, .v 55 (.pick (.t 51) (.t 54) (.k (.bool false)))),
    (none, .v 56 (.move (.t 55))),
    (some (56, true), .load 57 T26 (.t 9)),
    (some (56, true), .load 58 T26 (.t 12)),
    (some (56, true), .v 59 (.eqT T26 false (.t 57) (.t 58))),
    (none, .v 60 (.pick (.t 56) (.t 59) (.k (.bool false)))),
    (none, .v 61 (.move (.t 60))),
    (some (61, true), .v 62 (.move (.t 10))),
    (some (61, true), .v 63 (.convS true (.t 62))),
    (some (61, true), .v 64 (.move (.t 13))),
    (some (61, true), .v 65 (.convS true (.t 64))),
    (some (61, true), .v 66 (.eqT .str false (.t 63) (.t 65))),
    (none, .v 67 (.pick (.t 61) (.t 66) (.k (.bool false)))),
    (none, .v 68 (.move (.t 67))),
    (some (68, true), .v 69 (.move (.t 11))),
    (some (68, true), .v 70 (.move (.t 14))),
    (some (68, true), .v 71 (.cmp .eq (.t 69) (.t 70))),
    (none, .v 72 (.pick (.t 68) (.t 71) (.k (.bool false)))),
    (none, .v 73 (.move (.t 72))),
    (some (73, true), .callP (some 74) 16 [] 0 0 true),
    (none, .v 75 (.pick (.t 73) (.t 74) (.k (.bool false)))),
    (none, .v 2 (.move (.t 75)))])
  .ret)))))))
def nt_l02_TagTakes : Nat := 76
def rs_l02_TagTakes : List RV := [.tmp 2]
/-- pontage/pontagelaw02.TagBack -/
abbrev f_l02_TagBack : FuncId := 6
def ac_l02_TagBack : AC :=
  (.seq
  (.region 0 [
    (none, .boxc 4 T22 (.t 0)),
    (none, .boxc 5 T26 (.t 1)),
    (none, .v 8 (.move (.k (.bool false))))])
  (.seq
  (.region 0 [
    (none, .v 29 (.move (.t 2))),
    (none, .callP (some 30) 17 [.t 29] 0 0 true),
    (none, .v 2 (.move (.t 30)))])
  (.seq
  (.region 0 [
    (none, .v 31 (.move (.t 3))),
    (none, .callP (some 32) 17 [.t 31] 0 0 true),
    (none, .v 3 (.move (.t 32)))])
  (.seq
  (.region 1 [
    (none, .load 34 T22 (.t 4)),
    (none, .callP (some 35) 8 [.t 34] 0 1 true),
    (none, .v 33 (.move (.t 35))),
    (none, .v 36 (.ext (.t 33) 0)),
    (none, .v 37 (.ext (.t 33) 1)),
    (none, .v 9 (.move (.t 36))),
    (none, .v 10 (.move (.t 37)))])
  (.seq
  (.seq
  (.region 0 [
    (none, .v 38 (.move (.t 10))),
    (none, .v 39 (.cmp .eq (.t 38) (.k (.int .i64 (0)))))])
  (.cond (.t 39)
    (.seq
    (.region 5 [
      (none, .lit 41 0 (.int .u8) 0 [] true),
      (none, .v 42 (.move (.t 9))),
      (none, .app 43 1 (.int .u8) 1 (.t 41) (.t 42) false),
      (none, .v 44 (.move (.t 2))),
      (none, .app 45 2 (.int .u8) 1 (.t 43) (.t 44) false),
      (none, .callP (some 46) 24 [.t 45] 3 1 true),
      (none, .v 40 (.move (.t 46))),
      (none, .v 47 (.ext (.t 40) 0)),
      (none, .v 48 (.ext (.t 40) 1)),
      (none, .v 49 (.ext (.t 40) 2)),
      (none, .alloc 11 4 T22),
      (none, .store T22 (.t 11) (.t 47)),
      (none, .v 12 (.move (.t 48))),
      (none, .v 13 (.move (.t 49)))])
    (.seq
    (.region 0 [
      (none, .v 50 (.move (.t 13))),
      (none, .v 51 (.cmp .ne (.t 50) (.k (.int .i64 (0))))),
      (none, .v 52 (.move (.t 51))),
      (some (52, false), .load 53 T22 (.t 11)),
      (some (52, false), .load 54 T22 (.t 4)),
      (some (52, false), .v 55 (.eqT T22 true (.t 53) (.t 54))),
      (none, .v 56 (.pick (.t 52) (.k (.bool true)) (.t 55))),
      (none, .v 57 (.move (.t 56))),
      (some (57, false), .v 58 (.move (.t 12))),
      (some (57, false), .v 59 (.convS true (.t 58))),
      (some (57, false), .v 60 (.move (.t 2))),
      (some (57, false), .v 61 (.convS true (.t 60))),
      (some (57, false), .v 62 (.eqT .str true (.t 59) (.t 61))),
      (none, .v 63 (.pick (.t 57) (.k (.bool true)) (.t 62)))])
    (.cond (.t 63)
      (.seq
      (.region 0 [
        (none, .v 8 (.move (.k (.bool false))))])
      .ret)
      .skip)))
    .skip))
  (.seq
  (.region 1 [
    (none, .load 65 T26 (.t 5)),
    (none, .callP (some 66) 10 [.t 65] 0 1 true),
    (none, .v 64 (.move (.t 66))),
    (none, .v 67 (.ext (.t 64) 0)),
    (none, .v 68 (.ext (.t 64) 1)),
    (none, .v 14 (.move (.t 67))),
    (none, .v 15 (.move (.t 68)))])
  (.seq
  (.seq
  (.region 0 [
    (none, .v 69 (.move (.t 15))),
    (none, .v 70 (.cmp .eq (.t 69) (.k (.int .i64 (0)))))])
  (.cond (.t 70)
    (.seq
    (.region 5 [
      (none, .lit 72 0 (.int .u8) 0 [] true),
      (none, .v 73 (.move (.t 14))),
      (none, .app 74 1 (.int .u8) 1 (.t 72) (.t 73) false),
      (none, .v 75 (.move (.t 2))),
      (none, .app 76 2 (.int .u8) 1 (.t 74) (.t 75) false),
      (none, .callP (some 77) 26 [.t 76] 3 1 true),
      (none, .v 71 (.move (.t 77))),
      (none, .v 78 (.ext (.t 71) 0)),
      (none, .v 79 (.ext (.t 71) 1)),
      (none, .v 80 (.ext (.t 71) 2)),
      (none, .alloc 16 4 T26),
      (none, .store T26 (.t 16) (.t 78)),
      (none, .v 17 (.move (.t 79))),
      (none, .v 18 (.move (.t 80)))])
    (.seq
    (.region 0 [
      (none, .v 81 (.move (.t 18))),
      (none, .v 82 (.cmp .ne (.t 81) (.k (.int .i64 (0))))),
      (none, .v 83 (.move (.t 82))),
      (some (83, false), .load 84 T26 (.t 16)),
      (some (83, false), .load 85 T26 (.t 5)),
      (some (83, false), .v 86 (.eqT T26 true (.t 84) (.t 85))),
      (none, .v 87 (.pick (.t 83) (.k (.bool true)) (.t 86))),
      (none, .v 88 (.move (.t 87))),
      (some (88, false), .v 89 (.move (.t 17))),
      (some (88, false), .v 90 (.convS true (.t 89))),
      (some (88, false), .v 91 (.move (.t 2))),
      (some (88, false), .v 92 (.convS true (.t 91))),
      (some (88, false), .v 93 (.eqT .str true (.t 90) (.t 92))),
      (none, .v 94 (.pick (.t 88) (.k (.bool true)) (.t 93)))])
    (.cond (.t 94)
      (.seq
      (.region 0 [
        (none, .v 8 (.move (.k (.bool false))))])
      .ret)
      .skip)))
    .skip))
  (.seq
  (.region 2 [
    (none, .v 96 (.move (.t 3))),
    (none, .callP (some 97) 24 [.t 96] 0 1 true),
    (none, .v 95 (.move (.t 97))),
    (none, .v 98 (.ext (.t 95) 0)),
    (none, .v 99 (.ext (.t 95) 1)),
    (none, .v 100 (.ext (.t 95) 2)),
    (none, .alloc 19 1 T22),
    (none, .store T22 (.t 19) (.t 98)),
    (none, .v 20 (.move (.t 99))),
    (none, .v 21 (.move (.t 100)))])
  (.seq
  (.seq
  (.region 0 [
    (none, .v 101 (.move (.t 21))),
    (none, .v 102 (.cmp .eq (.t 101) (.k (.int .i64 (0)))))])
  (.cond (.t 102)
    (.seq
    (.region 1 [
      (none, .load 104 T22 (.t 19)),
      (none, .callP (some 105) 8 [.t 104] 0 1 true),
      (none, .v 103 (.move (.t 105))),
      (none, .v 106 (.ext (.t 103) 0)),
      (none, .v 107 (.ext (.t 103) 1)),
      (none, .v 22 (.move (.t 106))),
      (none, .v 23 (.move (.t 107)))])
    (.seq
    (.draw 1 [[], [], [], [], [], [], [], [], []] [
      (none, .v 108 (.move (.t 23))),
      (none, .v 109 (.cmp .ne (.t 108) (.k (.int .i64 (0))))),
      (none, .v 110 (.move (.t 109))),
      (some (110, false), .v 111 (.move (.t 22))),
      (some (110, false), .v 112 (.move (.t 20))),
      (some (110, false), .app 113 0 (.int .u8) 1 (.t 111) (.t 112) false),
      (some (110, false), .v 114 (.convS true (.t 113))),
      (some (110, false), .v 115 (.move (.t 3))),
      (some (110, false), .v 116 (.convS true (.t 115)))] [
      (some (110, false), .v 117 (.eqT .str true (.t 114) (.t 116))),
      (none, .v 118 (.pick (.t 110) (.k (.bool true)) (.t 117)))])
    (.cond (.t 118)
      (.seq
      (.region 0 [
        (none, .v 8 (.move (.k (.bool false))))])
      .ret)
      .skip)))
    .skip))
  (.seq
  (.region 2 [
    (none, .v 120 (.move (.t 3))),
    (none, .callP (some 121) 26 [.t 120] 0 1 true),
    (none, .v 119 (.move (.t 121))),
    (none, .v 122 (.ext (.t 119) 0)),
    (none, .v 123 (.ext (.t 119) 1)),
    (none, .v 124 (.ext (.t 119) 2)),
    (none, .alloc 24 1 T26),
    (none, .store T26 (.t 24) (.t 122)),
    (none, .v 25 (.move (.t 123))),
    (none, .v 26 (.move (.t 124)))])
  (.seq
  (.seq
  (.region 0 [
    (none, .v 125 (.move (.t 26))),
    (none, .v 126 (.cmp .eq (.t 125) (.k (.int .i64 (0)))))])
  (.cond (.t 126)
    (.seq
    (.region 1 [
      (none, .load 128 T26 (.t 24)),
      (none, .callP (some 129) 10 [.t 128] 0 1 true),
      (none, .v 127 (.move (.t 129))),
      (none, .v 130 (.ext (.t 127) 0)),
      (none, .v 131 (.ext (.t 127) 1)),
      (none, .v 27 (.move (.t 130))),
      (none, .v 28 (.move (.t 131)))])
    (.seq
    (.draw 1 [[], [], [], [], [], [], [], [], []] [
      (none, .v 132 (.move (.t 28))),
      (none, .v 133 (.cmp .eq (.t 132) (.k (.int .i64 (0))))),
      (none, .v 134 (.move (.t 133))),
      (some (134, true), .v 135 (.move (.t 27))),
      (some (134, true), .v 136 (.move (.t 25))),
      (some (134, true), .app 137 0 (.int .u8) 1 (.t 135) (.t 136) false),
      (some (134, true), .v 138 (.convS true (.t 137))),
      (some (134, true), .v 139 (.move (.t 3))),
      (some (134, true), .v 140 (.convS true (.t 139)))] [
      (some (134, true), .v 141 (.eqT .str false (.t 138) (.t 140))),
      (none, .v 142 (.pick (.t 134) (.t 141) (.k (.bool false)))),
      (none, .v 143 (.move (.t 142))),
      (some (143, true), .callP (some 144) 16 [] 1 0 true),
      (none, .v 145 (.pick (.t 143) (.t 144) (.k (.bool false)))),
      (none, .v 8 (.move (.t 145)))])
    .ret))
    .skip))
  (.seq
  (.region 0 [
    (none, .callP (some 146) 16 [] 0 0 true),
    (none, .v 8 (.move (.t 146)))])
  .ret))))))))))))
def nt_l02_TagBack : Nat := 147
def rs_l02_TagBack : List RV := [.tmp 8]
/-- pontage/pontagelaw02.TagOwn -/
abbrev f_l02_TagOwn : FuncId := 7
def ac_l02_TagOwn : AC :=
  (.seq
  (.region 0 [
    (none, .v 4 (.move (.k (.bool false))))])
  (.seq
  (.region 2 [
    (none, .lit 20 0 (.int .u8) 0 [] true),
    (none, .v 21 (.move (.t 0))),
    (none, .callP (some 22) 17 [.t 21] 1 0 true),
    (none, .app 23 1 (.int .u8) 1 (.t 20) (.t 22) false),
    (none, .v 0 (.move (.t 23)))])
  (.seq
  (.region 0 [
    (none, .v 24 (.move (.t 0))),
    (none, .v 25 (.convS true (.t 24))),
    (none, .v 5 (.move (.t 25)))])
  (.seq
  (.region 2 [
    (none, .v 27 (.move (.t 0))),
    (none, .callP (some 28) 24 [.t 27] 0 1 true),
    (none, .v 26 (.move (.t 28))),
    (none, .v 29 (.ext (.t 26) 0)),
    (none, .v 30 (.ext (.t 26) 1)),
    (none, .v 31 (.ext (.t 26) 2)),
    (none, .alloc 6 1 T22),
    (none, .store T22 (.t 6) (.t 29)),
    (none, .v 7 (.move (.t 30))),
    (none, .v 8 (.move (.t 31)))])
  (.seq
  (.region 2 [
    (none, .v 33 (.move (.t 0))),
    (none, .callP (some 34) 26 [.t 33] 0 1 true),
    (none, .v 32 (.move (.t 34))),
    (none, .v 35 (.ext (.t 32) 0)),
    (none, .v 36 (.ext (.t 32) 1)),
    (none, .v 37 (.ext (.t 32) 2)),
    (none, .alloc 9 1 T26),
    (none, .store T26 (.t 9) (.t 35)),
    (none, .v 10 (.move (.t 36))),
    (none, .v 11 (.move (.t 37)))])
  (.seq
  (.region 1 [
    (none, .v 39 (.move (.t 0))),
    (none, .callP (some 40) 20 [.t 39] 0 1 true),
    (none, .v 38 (.move (.t 40))),
    (none, .v 41 (.ext (.t 38) 0)),
    (none, .v 42 (.ext (.t 38) 1)),
    (none, .v 43 (.ext (.t 38) 2)),
    (none, .v 12 (.move (.t 41))),
    (none, .v 13 (.move (.t 42))),
    (none, .v 14 (.move (.t 43)))])
  (.seq
  (.region 2 [
    (none, .v 45 (.move (.t 0))),
    (none, .lit 46 0 (.sl (.int .u8)) 1 [(0, .t 45)] false),
    (none, .callP (some 47) 18 [.k (.int .i64 (5)), .t 46] 1 1 true),
    (none, .v 44 (.move (.t 47))),
    (none, .v 48 (.ext (.t 44) 0)),
    (none, .v 49 (.ext (.t 44) 1)),
    (none, .v 15 (.move (.t 48))),
    (none, .v 16 (.move (.t 49)))])
  (.seq
  (.region 1 [
    (none, .v 50 (.move (.t 7))),
    (none, .v 51 (.move (.t 10))),
    (none, .v 52 (.move (.t 13))),
    (none, .v 53 (.move (.t 15))),
    (none, .lit 54 0 (.sl (.int .u8)) 4 [(0, .t 50), (1, .t 51), (2, .t 52), (3, .t 53)] false),
    (none, .v 17 (.move (.t 54)))])
  (.seq
  (.seq
  (.region 0 [
    (none, .v 18 (.move (.k (.int .i64 (0)))))])
  (.block 0
    (.loop [0, 1, 5, 17, 18, 82]
      (.seq
      (.seq
      (.region 0 [
        (none, .v 55 (.move (.t 18))),
        (none, .v 56 (.move (.t 17))),
        (none, .v 57 (.len false (.t 56))),
        (none, .v 58 (.cmp .lt (.t 55) (.t 57)))])
      (.cond (.t 58)
        .skip
        (.exit 0)))
      (.seq
      (.block 1
        (.seq
        (.region 0 [
          (none, .v 19 (.move (.k (.int .i64 (0)))))])
        (.block 2
          (.loop [0, 1, 5, 17, 18, 19, 82]
            (.seq
            (.seq
            (.region 0 [
              (none, .v 61 (.move (.t 19))),
              (none, .v 62 (.move (.t 17))),
              (none, .v 63 (.move (.t 18))),
              (none, .v 64 (.iadr none (.sl (.int .u8)) (.t 62) (.t 63))),
              (none, .load 65 (.sl (.int .u8)) (.t 64)),
              (none, .v 66 (.len false (.t 65))),
              (none, .v 67 (.cmp .lt (.t 61) (.t 66)))])
            (.cond (.t 67)
              .skip
              (.exit 2)))
            (.seq
            (.block 3
              (.region 0 [
                (none, .v 70 (.move (.t 17))),
                (none, .v 71 (.move (.t 18))),
                (none, .v 72 (.iadr none (.sl (.int .u8)) (.t 70) (.t 71))),
                (none, .load 73 (.sl (.int .u8)) (.t 72)),
                (none, .v 74 (.move (.t 19))),
                (none, .v 75 (.move (.t 1))),
                (none, .v 76 (.iadr none (.int .u8) (.t 73) (.t 74))),
                (none, .store (.int .u8) (.t 76) (.t 75))]))
            (.region 0 [
              (none, .v 68 (.move (.t 19))),
              (none, .v 69 (.add (.t 68) (.k (.int .i64 (1))))),
              (none, .v 19 (.move (.t 69)))])))))))
      (.region 0 [
        (none, .v 59 (.move (.t 18))),
        (none, .v 60 (.add (.t 59) (.k (.int .i64 (1))))),
        (none, .v 18 (.move (.t 60)))]))))))
  (.seq
  (.region 0 [
    (none, .v 77 (.move (.t 0))),
    (none, .v 78 (.convS true (.t 77))),
    (none, .v 79 (.move (.t 5))),
    (none, .v 80 (.eqT .str false (.t 78) (.t 79))),
    (none, .v 81 (.move (.t 80))),
    (some (81, true), .callP (some 82) 16 [] 0 0 true),
    (none, .v 83 (.pick (.t 81) (.t 82) (.k (.bool false)))),
    (none, .v 4 (.move (.t 83)))])
  .ret))))))))))
def nt_l02_TagOwn : Nat := 84
def rs_l02_TagOwn : List RV := [.tmp 4]
/-- pontage/tag.Put -/
abbrev f_tag_Put : FuncId := 8
def ac_tag_Put : AC :=
  (.seq
  (.region 0 [
    (none, .boxc 1 T22 (.t 0)),
    (none, .v 2 (.move (.k (.sl (.int .u8) [] .full)))),
    (none, .v 3 (.move (.k (.int .i64 (0)))))])
  (.seq
  (.seq
  (.region 0 [
    (none, .load 5 T22 (.t 1)),
    (none, .callP (some 6) 12 [.t 5] 0 0 true),
    (none, .v 4 (.move (.t 6)))])
  (.seq
  (.region 0 [
    (none, .v 7 (.move (.t 4))),
    (none, .v 8 (.cmp .ne (.t 7) (.k (.int .i64 (0)))))])
  (.cond (.t 8)
    (.seq
    (.region 0 [
      (none, .v 9 (.move (.t 4))),
      (none, .v 2 (.move (.k (.sl (.int .u8) [] .full)))),
      (none, .v 3 (.move (.t 9)))])
    .ret)
    .skip)))
  (.seq
  (.draw 1 [[], [], [], [], [], [], [5], [], [], [], []] [
    (none, .v 10 (.fadr T22 0 (.t 1))),
    (none, .load 11 (.int .i64) (.t 10)),
    (none, .v 12 (.conv .u32 (.t 11))),
    (none, .v 13 (.shl (.t 12) (.k (.int .u64 (13))))),
    (none, .v 14 (.fadr T22 1 (.t 1))),
    (none, .load 15 .bool (.t 14)),
    (none, .callP (some 16) 29 [.t 15, .k (.int .u64 (12))] 0 0 false),
    (none, .v 17 (.bit .or (.t 13) (.t 16))),
    (none, .v 18 (.fadr T22 2 (.t 1))),
    (none, .load 19 (.int .i64) (.t 18)),
    (none, .v 20 (.conv .u32 (.t 19)))] [
    (none, .v 21 (.bit .or (.t 17) (.t 20))),
    (none, .callP (some 22) 28 [.t 21, .k (.int .i64 (2))] 0 1 true),
    (none, .v 2 (.move (.t 22))),
    (none, .v 3 (.move (.k (.int .i64 (0)))))])
  .ret)))
def nt_tag_Put : Nat := 23
def rs_tag_Put : List RV := [.tmp 2, .tmp 3]
/-- pontage/pontageref02.Put -/
abbrev f_r02_Put : FuncId := 9
def ac_r02_Put : AC :=
  (.seq
  (.region 0 [
    (none, .boxc 1 T22 (.t 0)),
    (none, .v 2 (.move (.k (.sl (.int .u8) [] .full)))),
    (none, .v 3 (.move (.k (.int .i64 (0)))))])
  (.seq
  (.seq
  (.region 0 [
    (none, .load 4 T22 (.t 1)),
    (none, .callP (some 5) 30 [.t 4] 0 0 true),
    (none, .v 6 (.not (.t 5)))])
  (.cond (.t 6)
    (.seq
    (.region 0 [
      (none, .v 2 (.move (.k (.sl (.int .u8) [] .full)))),
      (none, .v 3 (.move (.k (.int .i64 (20)))))])
    .ret)
    .skip))
  (.seq
  (.region 1 [
    (none, .load 7 T22 (.t 1)),
    (none, .callP (some 8) 31 [.t 7] 0 1 true),
    (none, .v 2 (.move (.t 8))),
    (none, .v 3 (.move (.k (.int .i64 (0)))))])
  .ret)))
def nt_r02_Put : Nat := 9
def rs_r02_Put : List RV := [.tmp 2, .tmp 3]
/-- pontage/tag.PutI -/
abbrev f_tag_PutI : FuncId := 10
def ac_tag_PutI : AC :=
  (.seq
  (.region 0 [
    (none, .boxc 1 T26 (.t 0)),
    (none, .v 2 (.move (.k (.sl (.int .u8) [] .full)))),
    (none, .v 3 (.move (.k (.int .i64 (0)))))])
  (.seq
  (.seq
  (.region 0 [
    (none, .load 6 T26 (.t 1)),
    (none, .callP (some 7) 14 [.t 6] 0 0 true),
    (none, .v 4 (.move (.t 7)))])
  (.seq
  (.region 0 [
    (none, .v 8 (.move (.t 4))),
    (none, .v 9 (.cmp .ne (.t 8) (.k (.int .i64 (0)))))])
  (.cond (.t 9)
    (.seq
    (.region 0 [
      (none, .v 10 (.move (.t 4))),
      (none, .v 2 (.move (.k (.sl (.int .u8) [] .full)))),
      (none, .v 3 (.move (.t 10)))])
    .ret)
    .skip)))
  (.seq
  (.draw 0 [[], [], [], [], [], [], [5], [], [], [], [5, 6, 9], [], [], [], []] [
    (none, .v 11 (.fadr T26 0 (.t 1))),
    (none, .load 12 (.int .i64) (.t 11)),
    (none, .v 13 (.conv .u32 (.t 12))),
    (none, .v 14 (.shl (.t 13) (.k (.int .u64 (29))))),
    (none, .v 15 (.fadr T26 1 (.t 1))),
    (none, .load 16 .bool (.t 15)),
    (none, .callP (some 17) 29 [.t 16, .k (.int .u64 (28))] 0 0 false),
    (none, .v 18 (.bit .or (.t 14) (.t 17))),
    (none, .v 19 (.fadr T26 2 (.t 1))),
    (none, .load 20 .bool (.t 19)),
    (none, .callP (some 21) 29 [.t 20, .k (.int .u64 (27))] 0 0 false),
    (none, .v 22 (.bit .or (.t 18) (.t 21))),
    (none, .v 23 (.fadr T26 3 (.t 1))),
    (none, .load 24 (.int .i64) (.t 23)),
    (none, .v 25 (.conv .u32 (.t 24)))] [
    (none, .v 26 (.bit .or (.t 22) (.t 25))),
    (none, .v 5 (.move (.t 26)))])
  (.seq
  (.draw 3 [[], [], [], [], [], []] [
    (none, .v 27 (.move (.t 5))),
    (none, .callP (some 28) 28 [.t 27, .k (.int .i64 (4))] 0 1 false),
    (none, .v 29 (.fadr T26 4 (.t 1))),
    (none, .v 30 (.sliceA 6 (.int .u8) (.t 29) none none)),
    (none, .v 31 (.fadr T26 5 (.t 1))),
    (none, .v 32 (.sliceA 6 (.int .u8) (.t 31) none none))] [
    (none, .lit 33 1 (.sl (.int .u8)) 3 [(0, .t 28), (1, .t 30), (2, .t 32)] false),
    (none, .callP (some 34) 32 [.t 33] 2 1 true),
    (none, .v 2 (.move (.t 34))),
    (none, .v 3 (.move (.k (.int .i64 (0)))))])
  .ret))))
def nt_tag_PutI : Nat := 35
def rs_tag_PutI : List RV := [.tmp 2, .tmp 3]
/-- pontage/pontageref02.PutI -/
abbrev f_r02_PutI : FuncId := 11
def ac_r02_PutI : AC :=
  (.seq
  (.region 0 [
    (none, .boxc 1 T26 (.t 0)),
    (none, .v 2 (.move (.k (.sl (.int .u8) [] .full)))),
    (none, .v 3 (.move (.k (.int .i64 (0)))))])
  (.seq
  (.seq
  (.region 0 [
    (none, .load 4 T26 (.t 1)),
    (none, .callP (some 5) 33 [.t 4] 0 0 true),
    (none, .v 6 (.not (.t 5)))])
  (.cond (.t 6)
    (.seq
    (.region 0 [
      (none, .v 2 (.move (.k (.sl (.int .u8) [] .full)))),
      (none, .v 3 (.move (.k (.int .i64 (20)))))])
    .ret)
    .skip))
  (.seq
  (.region 1 [
    (none, .load 7 T26 (.t 1)),
    (none, .callP (some 8) 34 [.t 7] 0 1 true),
    (none, .v 2 (.move (.t 8))),
    (none, .v 3 (.move (.k (.int .i64 (0)))))])
  .ret)))
def nt_r02_PutI : Nat := 9
def rs_r02_PutI : List RV := [.tmp 2, .tmp 3]
/-- pontage/tag.Check -/
abbrev f_tag_Check : FuncId := 12
def ac_tag_Check : AC :=
  (.seq
  (.region 0 [
    (none, .boxc 1 T22 (.t 0)),
    (none, .v 2 (.move (.k (.int .i64 (0)))))])
  (.seq
  (.seq
  (.region 0 [
    (none, .v 3 (.fadr T22 0 (.t 1))),
    (none, .load 4 (.int .i64) (.t 3)),
    (none, .callP (some 5) 35 [.t 4, .k (.int .i64 (0)), .k (.int .i64 (7))] 0 0 true),
    (none, .v 6 (.not (.t 5))),
    (none, .v 7 (.move (.t 6))),
    (some (7, false), .v 8 (.fadr T22 2 (.t 1))),
    (some (7, false), .load 9 (.int .i64) (.t 8)),
    (some (7, false), .callP (some 10) 35 [.t 9, .k (.int .i64 (1)), .k (.int .i64 (4094))] 0 0 true),
    (some (7, false), .v 11 (.not (.t 10))),
    (none, .v 12 (.pick (.t 7) (.k (.bool true)) (.t 11)))])
  (.cond (.t 12)
    (.seq
    (.region 0 [
      (none, .v 2 (.move (.k (.int .i64 (20)))))])
    .ret)
    .skip))
  (.seq
  (.region 0 [
    (none, .v 2 (.move (.k (.int .i64 (0)))))])
  .ret)))
def nt_tag_Check : Nat := 13
def rs_tag_Check : List RV := [.tmp 2]
/-- pontage/pontageref02.Check -/
abbrev f_r02_Check : FuncId := 13
def ac_r02_Check : AC :=
  (.seq
  (.region 0 [
    (none, .boxc 1 T22 (.t 0)),
    (none, .v 2 (.move (.k (.int .i64 (0)))))])
  (.seq
  (.seq
  (.region 0 [
    (none, .load 3 T22 (.t 1)),
    (none, .callP (some 4) 30 [.t 3] 0 0 true)])
  (.cond (.t 4)
    (.seq
    (.region 0 [
      (none, .v 2 (.move (.k (.int .i64 (0)))))])
    .ret)
    .skip))
  (.seq
  (.region 0 [
    (none, .v 2 (.move (.k (.int .i64 (20)))))])
  .ret)))
def nt_r02_Check : Nat := 5
def rs_r02_Check : List RV := [.tmp 2]
/-- pontage/tag.CheckI -/
abbrev f_tag_CheckI : FuncId := 14
def ac_tag_CheckI : AC :=
  (.seq
  (.region 0 [
    (none, .boxc 1 T26 (.t 0)),
    (none, .v 2 (.move (.k (.int .i64 (0)))))])
  (.seq
  (.seq
  (.region 0 [
    (none, .v 3 (.fadr T26 0 (.t 1))),
    (none, .load 4 (.int .i64) (.t 3)),
    (none, .callP (some 5) 35 [.t 4, .k (.int .i64 (0)), .k (.int .i64 (7))] 0 0 true),
    (none, .v 6 (.not (.t 5))),
    (none, .v 7 (.move (.t 6))),
    (some (7, false), .v 8 (.fadr T26 3 (.t 1))),
    (some (7, false), .load 9 (.int .i64) (.t 8)),
    (some (7, false), .callP (some 10) 35 [.t 9, .k (.int .i64 (0)), .k (.int .i64 (16777215))] 0 0 true),
    (some (7, false), .v 11 (.not (.t 10))),
    (none, .v 12 (.pick (.t 7) (.k (.bool true)) (.t 11)))])
  (.cond (.t 12)
    (.seq
    (.region 0 [
      (none, .v 2 (.move (.k (.int .i64 (20)))))])
    .ret)
    .skip))
  (.seq
  (.region 0 [
    (none, .v 2 (.move (.k (.int .i64 (0)))))])
  .ret)))
def nt_tag_CheckI : Nat := 13
def rs_tag_CheckI : List RV := [.tmp 2]
/-- pontage/pontageref02.CheckI -/
abbrev f_r02_CheckI : FuncId := 15
def ac_r02_CheckI : AC :=
  (.seq
  (.region 0 [
    (none, .boxc 1 T26 (.t 0)),
    (none, .v 2 (.move (.k (.int .i64 (0)))))])
  (.seq
  (.seq
  (.region 0 [
    (none, .load 3 T26 (.t 1)),
    (none, .callP (some 4) 33 [.t 3] 0 0 true)])
  (.cond (.t 4)
    (.seq
    (.region 0 [
      (none, .v 2 (.move (.k (.int .i64 (0)))))])
    .ret)
    .skip))
  (.seq
  (.region 0 [
    (none, .v 2 (.move (.k (.int .i64 (20)))))])
  .ret)))
def nt_r02_CheckI : Nat := 5
def rs_r02_CheckI : List RV := [.tmp 2]
/-- pontage/pontagelaw02.awake -/
abbrev f_l02_awake : FuncId := 16
def ac_l02_awake : AC :=
  (.seq
  (.region 0 [
    (none, .v 0 (.move (.k (.bool false))))])
  (.seq
  (.region 1 [
    (none, .v 6 (.build T22 [(0, .k (.int .i64 (5))), (1, .k (.bool true)), (2, .k (.int .i64 (100)))])),
    (none, .callP (some 7) 8 [.t 6] 0 1 true),
    (none, .v 5 (.move (.t 7))),
    (none, .v 8 (.ext (.t 5) 0)),
    (none, .v 9 (.ext (.t 5) 1)),
    (none, .v 1 (.move (.t 8))),
    (none, .v 2 (.move (.t 9)))])
  (.seq
  (.region 1 [
    (none, .v 11 (.build T26 [(0, .k (.int .i64 (3))), (2, .k (.bool true)), (3, .k (.int .i64 (300)))])),
    (none, .callP (some 12) 10 [.t 11] 0 1 true),
    (none, .v 10 (.move (.t 12))),
    (none, .v 13 (.ext (.t 10) 0)),
    (none, .v 14 (.ext (.t 10) 1)),
    (none, .v 3 (.move (.t 13))),
    (none, .v 4 (.move (.t 14)))])
  (.seq
  (.region 0 [
    (none, .v 15 (.move (.t 2))),
    (none, .v 16 (.cmp .eq (.t 15) (.k (.int .i64 (0))))),
    (none, .v 17 (.move (.t 16))),
    (some (17, true), .v 18 (.move (.t 1))),
    (some (17, true), .v 19 (.convS true (.t 18))),
    (some (17, true), .v 20 (.eqT .str false (.t 19) (.k (.str ⟨#[176, 100]⟩)))),
    (none, .v 21 (.pick (.t 17) (.t 20) (.k (.bool false)))),
    (none, .v 22 (.move (.t 21))),
    (some (22, true), .v 23 (.move (.t 4))),
    (some (22, true), .v 24 (.cmp .eq (.t 23) (.k (.int .i64 (0))))),
    (none, .v 25 (.pick (.t 22) (.t 24) (.k (.bool false)))),
    (none, .v 26 (.move (.t 25))),
    (some (26, true), .v 27 (.move (.t 3))),
    (some (26, true), .v 28 (.len false (.t 27))),
    (some (26, true), .v 29 (.cmp .eq (.t 28) (.k (.int .i64 (16))))),
    (none, .v 30 (.pick (.t 26) (.t 29) (.k (.bool false)))),
    (none, .v 31 (.move (.t 30))),
    (some (31, true), .v 32 (.move (.t 3))),
    (some (31, true), .v 33 (.slice (.int .u8) (.t 32) none (some (.k (.int .i64 (4)))) none)),
    (some (31, true), .v 34 (.convS true (.t 33))),
    (some (31, true), .v 35 (.eqT .str false (.t 34) (.k (.str ⟨#[104, 0, 1, 44]⟩)))),
    (none, .v 36 (.pick (.t 31) (.t 35) (.k (.bool false)))),
    (none, .v 0 (.move (.t 36)))])
  .ret))))
def nt_l02_awake : Nat := 37
def rs_l02_awake : List RV := [.tmp 0]
/-- pontage/pontagelaw02.cut -/
abbrev f_l02_cut : FuncId := 17
def ac_l02_cut : AC :=
  (.seq
  (.region 0 [
    (none, .v 2 (.move (.k (.sl (.int .u8) [] .full))))])
  (.seq
  (.seq
  (.region 0 [
    (none, .v 3 (.move (.t 0))),
    (none, .v 4 (.len false (.t 3))),
    (none, .v 5 (.cmp .gt (.t 4) (.k (.int .i64 (400)))))])
  (.cond (.t 5)
    (.seq
    (.region 0 [
      (none, .v 6 (.move (.t 0))),
      (none, .v 7 (.slice (.int .u8) (.t 6) none (some (.k (.int .i64 (400)))) none)),
      (none, .v 2 (.move (.t 7)))])
    .ret)
    .skip))
  (.seq
  (.region 0 [
    (none, .v 8 (.move (.t 0))),
    (none, .v 2 (.move (.t 8)))])
  .ret)))
def nt_l02_cut : Nat := 9
def rs_l02_cut : List RV := [.tmp 2]
/-- pontage/tag.PutType -/
abbrev f_tag_PutType : FuncId := 18
def ac_tag_PutType : AC :=
  (.seq
  (.region 0 [
    (none, .v 4 (.move (.k (.sl (.int .u8) [] .full)))),
    (none, .v 5 (.move (.k (.int .i64 (0)))))])
  (.seq
  (.seq
  (.region 0 [
    (none, .v 6 (.move (.t 0))),
    (none, .callP (some 7) 35 [.t 6, .k (.int .i64 (0)), .k (.int .i64 (65535))] 0 0 true),
    (none, .v 8 (.not (.t 7)))])
  (.cond (.t 8)
    (.seq
    (.region 0 [
      (none, .v 4 (.move (.k (.sl (.int .u8) [] .full)))),
      (none, .v 5 (.move (.k (.int .i64 (1)))))])
    .ret)
    .skip))
  (.seq
  (.region 3 [
    (none, .v 9 (.move (.t 0))),
    (none, .v 10 (.conv .u32 (.t 9))),
    (none, .callP (some 11) 28 [.t 10, .k (.int .i64 (2))] 0 1 true),
    (none, .v 12 (.move (.t 1))),
    (none, .callP (some 13) 32 [.t 12] 1 1 true),
    (none, .app 14 2 (.int .u8) 1 (.t 11) (.t 13) false),
    (none, .v 4 (.move (.t 14))),
    (none, .v 5 (.move (.k (.int .i64 (0)))))])
  .ret)))
def nt_tag_PutType : Nat := 15
def rs_tag_PutType : List RV := [.tmp 4, .tmp 5]
/-- pontage/pontageref02.PutType -/
abbrev f_r02_PutType : FuncId := 19
def ac_r02_PutType : AC :=
  (.seq
  (.region 0 [
    (none, .v 4 (.move (.k (.sl (.int .u8) [] .full)))),
    (none, .v 5 (.move (.k (.int .i64 (0)))))])
  (.seq
  (.seq
  (.region 0 [
    (none, .v 8 (.move (.t 0))),
    (none, .v 9 (.cmp .lt (.t 8) (.k (.int .i64 (0))))),
    (none, .v 10 (.move (.t 9))),
    (some (10, false), .v 11 (.move (.t 0))),
    (some (10, false), .v 12 (.cmp .gt (.t 11) (.k (.int .i64 (65535))))),
    (none, .v 13 (.pick (.t 10) (.k (.bool true)) (.t 12)))])
  (.cond (.t 13)
    (.seq
    (.region 0 [
      (none, .v 4 (.move (.k (.sl (.int .u8) [] .full)))),
      (none, .v 5 (.move (.k (.int .i64 (1)))))])
    .ret)
    .skip))
  (.seq
  (.region 1 [
    (none, .v 14 (.move (.t 0))),
    (none, .v 15 (.quo (.t 14) (.k (.int .i64 (256))))),
    (none, .v 16 (.conv .u8 (.t 15))),
    (none, .v 17 (.move (.t 0))),
    (none, .v 18 (.rem (.t 17) (.k (.int .i64 (256))))),
    (none, .v 19 (.conv .u8 (.t 18))),
    (none, .lit 20 0 (.int .u8) 2 [(0, .t 16), (1, .t 19)] false),
    (none, .v 6 (.move (.t 20)))])
  (.seq
  (.seq
  (.region 0 [
    (none, .v 7 (.move (.k (.int .i64 (0)))))])
  (.block 0
    (.loop [1, 6, 7]
      (.seq
      (.seq
      (.region 0 [
        (none, .v 21 (.move (.t 7))),
        (none, .v 22 (.move (.t 1))),
        (none, .v 23 (.len false (.t 22))),
        (none, .v 24 (.cmp .lt (.t 21) (.t 23)))])
      (.cond (.t 24)
        .skip
        (.exit 0)))
      (.seq
      (.block 1
        (.region 1 [
          (none, .v 27 (.move (.t 6))),
          (none, .v 28 (.move (.t 1))),
          (none, .v 29 (.move (.t 7))),
          (none, .v 30 (.iadr none (.sl (.int .u8)) (.t 28) (.t 29))),
          (none, .load 31 (.sl (.int .u8)) (.t 30)),
          (none, .app 32 0 (.int .u8) 1 (.t 27) (.t 31) false),
          (none, .v 6 (.move (.t 32)))]))
      (.region 0 [
        (none, .v 25 (.move (.t 7))),
        (none, .v 26 (.add (.t 25) (.k (.int .i64 (1))))),
        (none, .v 7 (.move (.t 26)))]))))))
  (.seq
  (.region 0 [
    (none, .v 33 (.move (.t 6))),
    (none, .v 4 (.move (.t 33))),
    (none, .v 5 (.move (.k (.int .i64 (0)))))])
  .ret)))))
def nt_r02_PutType : Nat := 34
def rs_r02_PutType : List RV := [.tmp 4, .tmp 5]
/-- pontage/tag.TakeType -/
abbrev f_tag_TakeType : FuncId := 20
def ac_tag_TakeType : AC :=
  (.seq
  (.region 0 [
    (none, .v 2 (.move (.k (.int .i64 (0))))),
    (none, .v 3 (.move (.k (.sl (.int .u8) [] .full)))),
    (none, .v 4 (.move (.k (.int .i64 (0)))))])
  (.seq
  (.seq
  (.region 0 [
    (none, .v 5 (.move (.t 0))),
    (none, .v 6 (.len false (.t 5))),
    (none, .v 7 (.cmp .lt (.t 6) (.k (.int .i64 (2)))))])
  (.cond (.t 7)
    (.seq
    (.region 0 [
      (none, .v 2 (.move (.k (.int .i64 (0))))),
      (none, .v 3 (.move (.k (.sl (.int .u8) [] .full)))),
      (none, .v 4 (.move (.k (.int .i64 (6)))))])
    .ret)
    .skip))
  (.seq
  (.draw 1 [[], [], [], [], [], [], [2]] [
    (none, .v 8 (.move (.t 0))),
    (none, .v 9 (.slice (.int .u8) (.t 8) none (some (.k (.int .i64 (2)))) none)),
    (none, .callP (some 10) 36 [.t 9] 0 0 false),
    (none, .v 11 (.conv .i64 (.t 10))),
    (none, .v 12 (.move (.t 0))),
    (none, .v 13 (.slice (.int .u8) (.t 12) (some (.k (.int .i64 (2)))) none none)),
    (none, .callP (some 14) 37 [.t 13] 0 1 false)] [
    (none, .v 2 (.move (.t 11))),
    (none, .v 3 (.move (.t 14))),
    (none, .v 4 (.move (.k (.int .i64 (0)))))])
  .ret)))
def nt_tag_TakeType : Nat := 15
def rs_tag_TakeType : List RV := [.tmp 2, .tmp 3, .tmp 4]
/-- pontage/pontageref02.TakeType -/
abbrev f_r02_TakeType : FuncId := 21
def ac_r02_TakeType : AC :=
  (.seq
  (.region 0 [
    (none, .v 2 (.move (.k (.int .i64 (0))))),
    (none, .v 3 (.move (.k (.sl (.int .u8) [] .full)))),
    (none, .v 4 (.move (.k (.int .i64 (0)))))])
  (.seq
  (.seq
  (.region 0 [
    (none, .v 5 (.move (.t 0))),
    (none, .v 6 (.len false (.t 5))),
    (none, .v 7 (.cmp .lt (.t 6) (.k (.int .i64 (2)))))])
  (.cond (.t 7)
    (.seq
    (.region 0 [
      (none, .v 2 (.move (.k (.int .i64 (0))))),
      (none, .v 3 (.move (.k (.sl (.int .u8) [] .full)))),
      (none, .v 4 (.move (.k (.int .i64 (6)))))])
    .ret)
    .skip))
  (.seq
  (.draw 2 [[], [], [], [], [], [], [], [], [], [], [], [], [], [10]] [
    (none, .v 8 (.move (.t 0))),
    (none, .v 9 (.iadr none (.int .u8) (.t 8) (.k (.int .i64 (0))))),
    (none, .load 10 (.int .u8) (.t 9)),
    (none, .v 11 (.conv .i64 (.t 10))),
    (none, .v 12 (.mul (.t 11) (.k (.int .i64 (256))))),
    (none, .v 13 (.move (.t 0))),
    (none, .v 14 (.iadr none (.int .u8) (.t 13) (.k (.int .i64 (1))))),
    (none, .load 15 (.int .u8) (.t 14)),
    (none, .v 16 (.conv .i64 (.t 15))),
    (none, .v 17 (.add (.t 12) (.t 16))),
    (none, .lit 18 0 (.int .u8) 0 [] true),
    (none, .v 19 (.move (.t 0))),
    (none, .v 20 (.slice (.int .u8) (.t 19) (some (.k (.int .i64 (2)))) none none)),
    (none, .app 21 1 (.int .u8) 1 (.t 18) (.t 20) false)] [
    (none, .v 2 (.move (.t 17))),
    (none, .v 3 (.move (.t 21))),
    (none, .v 4 (.move (.k (.int .i64 (0)))))])
  .ret)))
def nt_r02_TakeType : Nat := 22
def rs_r02_TakeType : List RV := [.tmp 2, .tmp 3, .tmp 4]
/-- pontage/tag.Carried -/
abbrev f_tag_Carried : FuncId := 22
def ac_tag_Carried : AC :=
  (.seq
  (.region 2 [
    (none, .box 2 0 T22 (.t 0)),
    (none, .alloc 4 1 T22),
    (none, .v 5 (.move (.k (.int .i64 (0)))))])
  (.seq
  (.seq
  (.region 0 [
    (none, .load 6 T22 (.t 2)),
    (none, .callP (some 7) 12 [.t 6] 0 0 true),
    (none, .v 8 (.cmp .ne (.t 7) (.k (.int .i64 (0)))))])
  (.cond (.t 8)
    (.seq
    (.region 0 [
      (none, .v 9 (.build T22 [])),
      (none, .store T22 (.t 4) (.t 9)),
      (none, .v 5 (.move (.k (.int .i64 (20)))))])
    .ret)
    .skip))
  (.seq
  (.region 0 [
    (none, .v 10 (.move (.t 1))),
    (none, .v 11 (.fadr T22 2 (.t 2))),
    (none, .store (.int .i64) (.t 11) (.t 10))])
  (.seq
  (.seq
  (.region 0 [
    (none, .load 12 T22 (.t 2)),
    (none, .callP (some 13) 12 [.t 12] 0 0 true),
    (none, .v 14 (.cmp .ne (.t 13) (.k (.int .i64 (0)))))])
  (.cond (.t 14)
    (.seq
    (.region 0 [
      (none, .v 15 (.build T22 [])),
      (none, .store T22 (.t 4) (.t 15)),
      (none, .v 5 (.move (.k (.int .i64 (20)))))])
    .ret)
    .skip))
  (.seq
  (.region 0 [
    (none, .load 16 T22 (.t 2)),
    (none, .store T22 (.t 4) (.t 16)),
    (none, .v 5 (.move (.k (.int .i64 (0)))))])
  .ret)))))
def nt_tag_Carried : Nat := 17
def rs_tag_Carried : List RV := [.cell 4 T22, .tmp 5]
/-- pontage/pontageref02.Carried -/
abbrev f_r02_Carried : FuncId := 23
def ac_r02_Carried : AC :=
  (.seq
  (.region 1 [
    (none, .boxc 2 T22 (.t 0)),
    (none, .alloc 4 0 T22),
    (none, .v 5 (.move (.k (.int .i64 (0)))))])
  (.seq
  (.region 1 [
    (none, .load 7 T22 (.t 2)),
    (none, .alloc 6 0 T22),
    (none, .store T22 (.t 6) (.t 7))])
  (.seq
  (.region 0 [
    (none, .v 8 (.move (.t 1))),
    (none, .v 9 (.fadr T22 2 (.t 6))),
    (none, .store (.int .i64) (.t 9) (.t 8))])
  (.seq
  (.seq
  (.region 0 [
    (none, .load 10 T22 (.t 2)),
    (none, .callP (some 11) 30 [.t 10] 0 0 true),
    (none, .v 12 (.not (.t 11))),
    (none, .v 13 (.move (.t 12))),
    (some (13, false), .load 14 T22 (.t 6)),
    (some (13, false), .callP (some 15) 30 [.t 14] 0 0 true),
    (some (13, false), .v 16 (.not (.t 15))),
    (none, .v 17 (.pick (.t 13) (.k (.bool true)) (.t 16)))])
  (.cond (.t 17)
    (.seq
    (.region 0 [
      (none, .v 18 (.build T22 [])),
      (none, .store T22 (.t 4) (.t 18)),
      (none, .v 5 (.move (.k (.int .i64 (20)))))])
    .ret)
    .skip))
  (.seq
  (.region 0 [
    (none, .load 19 T22 (.t 6)),
    (none, .store T22 (.t 4) (.t 19)),
    (none, .v 5 (.move (.k (.int .i64 (0)))))])
  .ret)))))
def nt_r02_Carried : Nat := 20
def rs_r02_Carried : List RV := [.cell 4 T22, .tmp 5]
/-- pontage/tag.Take -/
abbrev f_tag_Take : FuncId := 24
def ac_tag_Take : AC :=
  (.seq
  (.region 1 [
    (none, .alloc 2 0 T22),
    (none, .v 3 (.move (.k (.sl (.int .u8) [] .full)))),
    (none, .v 4 (.move (.k (.int .i64 (0)))))])
  (.seq
  (.seq
  (.region 0 [
    (none, .v 8 (.move (.t 0))),
    (none, .v 9 (.len false (.t 8))),
    (none, .v 10 (.cmp .lt (.t 9) (.k (.int .i64 (2)))))])
  (.cond (.t 10)
    (.seq
    (.region 0 [
      (none, .v 11 (.build T22 [])),
      (none, .store T22 (.t 2) (.t 11)),
      (none, .v 3 (.move (.k (.sl (.int .u8) [] .full)))),
      (none, .v 4 (.move (.k (.int .i64 (6)))))])
    .ret)
    .skip))
  (.seq
  (.region 1 [
    (none, .v 12 (.move (.t 0))),
    (none, .v 13 (.slice (.int .u8) (.t 12) none (some (.k (.int .i64 (2)))) none)),
    (none, .callP (some 14) 36 [.t 13] 0 0 true),
    (none, .callP (some 15) 38 [.t 14] 0 1 true),
    (none, .v 5 (.move (.t 15)))])
  (.seq
  (.region 1 [
    (none, .v 16 (.move (.t 5))),
    (none, .callS (some 17) (.t 16) [.k (.int .u64 (12))] [] [41]),
    (none, .v 18 (.build T22 [(2, .t 17)])),
    (none, .alloc 6 0 T22),
    (none, .store T22 (.t 6) (.t 18))])
  (.seq
  (.region 0 [
    (none, .v 19 (.move (.t 5))),
    (none, .callS (some 20) (.t 19) [.k (.int .u64 (1))] [] [41]),
    (none, .v 21 (.cmp .eq (.t 20) (.k (.int .i64 (1))))),
    (none, .v 22 (.fadr T22 1 (.t 6))),
    (none, .store .bool (.t 22) (.t 21))])
  (.seq
  (.region 0 [
    (none, .v 23 (.move (.t 5))),
    (none, .callS (some 24) (.t 23) [.k (.int .u64 (3))] [] [41]),
    (none, .v 25 (.fadr T22 0 (.t 6))),
    (none, .store (.int .i64) (.t 25) (.t 24))])
  (.seq
  (.seq
  (.region 0 [
    (none, .load 26 T22 (.t 6)),
    (none, .callP (some 27) 12 [.t 26] 0 0 true),
    (none, .v 7 (.move (.t 27)))])
  (.seq
  (.region 0 [
    (none, .v 28 (.move (.t 7))),
    (none, .v 29 (.cmp .ne (.t 28) (.k (.int .i64 (0)))))])
  (.cond (.t 29)
    (.seq
    (.region 0 [
      (none, .v 30 (.build T22 [])),
      (none, .v 31 (.move (.t 7))),
      (none, .store T22 (.t 2) (.t 30)),
      (none, .v 3 (.move (.k (.sl (.int .u8) [] .full)))),
      (none, .v 4 (.move (.t 31)))])
    .ret)
    .skip)))
  (.seq
  (.draw 1 [[], [], [], []] [
    (none, .load 32 T22 (.t 6)),
    (none, .v 33 (.move (.t 0))),
    (none, .v 34 (.slice (.int .u8) (.t 33) (some (.k (.int .i64 (2)))) none none)),
    (none, .callP (some 35) 37 [.t 34] 0 1 false)] [
    (none, .store T22 (.t 2) (.t 32)),
    (none, .v 3 (.move (.t 35))),
    (none, .v 4 (.move (.k (.int .i64 (0)))))])
  .ret))))))))
def nt_tag_Take : Nat := 36
def rs_tag_Take : List RV := [.cell 2 T22, .tmp 3, .tmp 4]
/-- pontage/pontageref02.Take -/
abbrev f_r02_Take : FuncId := 25
def ac_r02_Take : AC :=
  (.seq
  (.region 1 [
    (none, .alloc 2 0 T22),
    (none, .v 3 (.move (.k (.sl (.int .u8) [] .full)))),
    (none, .v 4 (.move (.k (.int .i64 (0)))))])
  (.seq
  (.seq
  (.region 0 [
    (none, .v 7 (.move (.t 0))),
    (none, .v 8 (.len false (.t 7))),
    (none, .v 9 (.cmp .lt (.t 8) (.k (.int .i64 (2)))))])
  (.cond (.t 9)
    (.seq
    (.region 0 [
      (none, .v 10 (.build T22 [])),
      (none, .store T22 (.t 2) (.t 10)),
      (none, .v 3 (.move (.k (.sl (.int .u8) [] .full)))),
      (none, .v 4 (.move (.k (.int .i64 (6)))))])
    .ret)
    .skip))
  (.seq
  (.draw 0 [[], [], [], [], [], [], [], [], []] [
    (none, .v 11 (.move (.t 0))),
    (none, .v 12 (.iadr none (.int .u8) (.t 11) (.k (.int .i64 (0))))),
    (none, .load 13 (.int .u8) (.t 12)),
    (none, .v 14 (.conv .i64 (.t 13))),
    (none, .v 15 (.mul (.t 14) (.k (.int .i64 (256))))),
    (none, .v 16 (.move (.t 0))),
    (none, .v 17 (.iadr none (.int .u8) (.t 16) (.k (.int .i64 (1))))),
    (none, .load 18 (.int .u8) (.t 17)),
    (none, .v 19 (.conv .i64 (.t 18)))] [
    (none, .v 20 (.add (.t 15) (.t 19))),
    (none, .v 5 (.move (.t 20)))])
  (.seq
  (.region 1 [
    (none, .v 21 (.move (.t 5))),
    (none, .v 22 (.quo (.t 21) (.k (.int .i64 (8192))))),
    (none, .v 23 (.move (.t 5))),
    (none, .v 24 (.quo (.t 23) (.k (.int .i64 (4096))))),
    (none, .v 25 (.rem (.t 24) (.k (.int .i64 (2))))),
    (none, .v 26 (.cmp .eq (.t 25) (.k (.int .i64 (1))))),
    (none, .v 27 (.move (.t 5))),
    (none, .v 28 (.rem (.t 27) (.k (.int .i64 (4096))))),
    (none, .v 29 (.build T22 [(0, .t 22), (1, .t 26), (2, .t 28)])),
    (none, .alloc 6 0 T22),
    (none, .store T22 (.t 6) (.t 29))])
  (.seq
  (.seq
  (.region 0 [
    (none, .load 30 T22 (.t 6)),
    (none, .callP (some 31) 30 [.t 30] 0 0 true),
    (none, .v 32 (.not (.t 31)))])
  (.cond (.t 32)
    (.seq
    (.region 0 [
      (none, .v 33 (.build T22 [])),
      (none, .store T22 (.t 2) (.t 33)),
      (none, .v 3 (.move (.k (.sl (.int .u8) [] .full)))),
      (none, .v 4 (.move (.k (.int .i64 (20)))))])
    .ret)
    .skip))
  (.seq
  (.draw 2 [[], [], [], [], [1]] [
    (none, .load 34 T22 (.t 6)),
    (none, .lit 35 0 (.int .u8) 0 [] true),
    (none, .v 36 (.move (.t 0))),
    (none, .v 37 (.slice (.int .u8) (.t 36) (some (.k (.int .i64 (2)))) none none)),
    (none, .app 38 1 (.int .u8) 1 (.t 35) (.t 37) false)] [
    (none, .store T22 (.t 2) (.t 34)),
    (none, .v 3 (.move (.t 38))),
    (none, .v 4 (.move (.k (.int .i64 (0)))))])
  .ret))))))
def nt_r02_Take : Nat := 39
def rs_r02_Take : List RV := [.cell 2 T22, .tmp 3, .tmp 4]
/-- pontage/tag.TakeI -/
abbrev f_tag_TakeI : FuncId := 26
def ac_tag_TakeI : AC :=
  (.seq
  (.region 1 [
    (none, .alloc 2 0 T26),
    (none, .v 3 (.move (.k (.sl (.int .u8) [] .full)))),
    (none, .v 4 (.move (.k (.int .i64 (0)))))])
  (.seq
  (.seq
  (.region 0 [
    (none, .v 8 (.move (.t 0))),
    (none, .v 9 (.len false (.t 8))),
    (none, .v 10 (.cmp .lt (.t 9) (.k (.int .i64 (16)))))])
  (.cond (.t 10)
    (.seq
    (.region 0 [
      (none, .v 11 (.build T26 [])),
      (none, .store T26 (.t 2) (.t 11)),
      (none, .v 3 (.move (.k (.sl (.int .u8) [] .full)))),
      (none, .v 4 (.move (.k (.int .i64 (6)))))])
    .ret)
    .skip))
  (.seq
  (.region 1 [
    (none, .v 12 (.move (.t 0))),
    (none, .v 13 (.slice (.int .u8) (.t 12) none (some (.k (.int .i64 (4)))) none)),
    (none, .callP (some 14) 36 [.t 13] 0 0 true),
    (none, .callP (some 15) 38 [.t 14] 0 1 true),
    (none, .v 5 (.move (.t 15)))])
  (.seq
  (.draw 1 [[], [], [], [], [], [], [], [], [], [], [], []] [
    (none, .v 16 (.move (.t 5))),
    (none, .callS (some 17) (.t 16) [.k (.int .u64 (24))] [] [41]),
    (none, .v 18 (.move (.t 0))),
    (none, .v 19 (.slice (.int .u8) (.t 18) (some (.k (.int .i64 (4)))) (some (.k (.int .i64 (10)))) none)),
    (none, .v 20 (.sarr 6 (.int .u8) (.t 19))),
    (none, .load 21 T24 (.t 20)),
    (none, .v 22 (.move (.t 0))),
    (none, .v 23 (.slice (.int .u8) (.t 22) (some (.k (.int .i64 (10)))) (some (.k (.int .i64 (16)))) none)),
    (none, .v 24 (.sarr 6 (.int .u8) (.t 23))),
    (none, .load 25 T24 (.t 24)),
    (none, .v 26 (.build T26 [(3, .t 17), (4, .t 21), (5, .t 25)])),
    (none, .alloc 6 0 T26)] [
    (none, .store T26 (.t 6) (.t 26))])
  (.seq
  (.region 0 [
    (none, .v 27 (.move (.t 5))),
    (none, .callS (some 28) (.t 27) [.k (.int .u64 (3))] [] [41]),
    (none, .v 7 (.move (.t 28)))])
  (.seq
  (.region 0 [
    (none, .v 29 (.move (.t 5))),
    (none, .callS (some 30) (.t 29) [.k (.int .u64 (1))] [] [41]),
    (none, .v 31 (.cmp .eq (.t 30) (.k (.int .i64 (1))))),
    (none, .v 32 (.fadr T26 2 (.t 6))),
    (none, .store .bool (.t 32) (.t 31))])
  (.seq
  (.region 0 [
    (none, .v 33 (.move (.t 5))),
    (none, .callS (some 34) (.t 33) [.k (.int .u64 (1))] [] [41]),
    (none, .v 35 (.cmp .eq (.t 34) (.k (.int .i64 (1))))),
    (none, .v 36 (.fadr T26 1 (.t 6))),
    (none, .store .bool (.t 36) (.t 35))])
  (.seq
  (.region 0 [
    (none, .v 37 (.move (.t 5))),
    (none, .callS (some 38) (.t 37) [.k (.int .u64 (3))] [] [41]),
    (none, .v 39 (.fadr T26 0 (.t 6))),
    (none, .store (.int .i64) (.t 39) (.t 38))])
  (.seq
  (.seq
  (.region 0 [
    (none, .v 40 (.move (.t 7))),
    (none, .v 41 (.cmp .ne (.t 40) (.k (.int .i64 (0))))),
    (none, .v 42 (.move (.t 41))),
    (some (42, false), .load 43 T26 (.t 6)),
    (some (42, false), .callP (some 44) 14 [.t 43] 0 0 true),
    (some (42, false), .v 45 (.cmp .ne (.t 44) (.k (.int .i64 (0))))),
    (none, .v 46 (.pick (.t 42) (.k (.bool true)) (.t 45)))])
  (.cond (.t 46)
    (.seq
    (.region 0 [
      (none, .v 47 (.build T26 [])),
      (none, .store T26 (.t 2) (.t 47)),
      (none, .v 3 (.move (.k (.sl (.int .u8) [] .full)))),
      (none, .v 4 (.move (.k (.int .i64 (20)))))])
    .ret)
    .skip))
  (.seq
  (.draw 1 [[], [], [], []] [
    (none, .load 48 T26 (.t 6)),
    (none, .v 49 (.move (.t 0))),
    (none, .v 50 (.slice (.int .u8) (.t 49) (some (.k (.int .i64 (16)))) none none)),
    (none, .callP (some 51) 37 [.t 50] 0 1 false)] [
    (none, .store T26 (.t 2) (.t 48)),
    (none, .v 3 (.move (.t 51))),
    (none, .v 4 (.move (.k (.int .i64 (0)))))])
  .ret))))))))))
def nt_tag_TakeI : Nat := 52
def rs_tag_TakeI : List RV := [.cell 2 T26, .tmp 3, .tmp 4]
/-- pontage/pontageref02.TakeI -/
abbrev f_r02_TakeI : FuncId := 27
def ac_r02_TakeI : AC :=
  (.seq
  (.region 1 [
    (none, .alloc 2 0 T26),
    (none, .v 3 (.move (.k (.sl (.int .u8) [] .full)))),
    (none, .v 4 (.move (.k (.int .i64 (0)))))])
  (.seq
  (.seq
  (.region 0 [
    (none, .v 7 (.move (.t 0))),
    (none, .v 8 (.len false (.t 7))),
    (none, .v 9 (.cmp .lt (.t 8) (.k (.int .i64 (16)))))])
  (.cond (.t 9)
    (.seq
    (.region 0 [
      (none, .v 10 (.build T26 [])),
      (none, .store T26 (.t 2) (.t 10)),
      (none, .v 3 (.move (.k (.sl (.int .u8) [] .full)))),
      (none, .v 4 (.move (.k (.int .i64 (6)))))])
    .ret)
    .skip))
  (.seq
  (.seq
  (.region 0 [
    (none, .v 11 (.move (.t 0))),
    (none, .v 12 (.iadr none (.int .u8) (.t 11) (.k (.int .i64 (0))))),
    (none, .load 13 (.int .u8) (.t 12)),
    (none, .v 14 (.rem (.t 13) (.k (.int .u8 (8))))),
    (none, .v 15 (.cmp .ne (.t 14) (.k (.int .u8 (0)))))])
  (.cond (.t 15)
    (.seq
    (.region 0 [
      (none, .v 16 (.build T26 [])),
      (none, .store T26 (.t 2) (.t 16)),
      (none, .v 3 (.move (.k (.sl (.int .u8) [] .full)))),
      (none, .v 4 (.move (.k (.int .i64 (20)))))])
    .ret)
    .skip))
  (.seq
  (.draw 1 [[], [], [], [], [], [], [], [], [], [], [], [], [], [], [], [], [], [], [], [], [], [], [], [], [], [], [], [], [], [], [], [], [], [], []] [
    (none, .v 17 (.move (.t 0))),
    (none, .v 18 (.iadr none (.int .u8) (.t 17) (.k (.int .i64 (0))))),
    (none, .load 19 (.int .u8) (.t 18)),
    (none, .v 20 (.quo (.t 19) (.k (.int .u8 (32))))),
    (none, .v 21 (.conv .i64 (.t 20))),
    (none, .v 22 (.move (.t 0))),
    (none, .v 23 (.iadr none (.int .u8) (.t 22) (.k (.int .i64 (0))))),
    (none, .load 24 (.int .u8) (.t 23)),
    (none, .v 25 (.quo (.t 24) (.k (.int .u8 (16))))),
    (none, .v 26 (.rem (.t 25) (.k (.int .u8 (2))))),
    (none, .v 27 (.cmp .eq (.t 26) (.k (.int .u8 (1))))),
    (none, .v 28 (.move (.t 0))),
    (none, .v 29 (.iadr none (.int .u8) (.t 28) (.k (.int .i64 (0))))),
    (none, .load 30 (.int .u8) (.t 29)),
    (none, .v 31 (.quo (.t 30) (.k (.int .u8 (8))))),
    (none, .v 32 (.rem (.t 31) (.k (.int .u8 (2))))),
    (none, .v 33 (.cmp .eq (.t 32) (.k (.int .u8 (1))))),
    (none, .v 34 (.move (.t 0))),
    (none, .v 35 (.iadr none (.int .u8) (.t 34) (.k (.int .i64 (1))))),
    (none, .load 36 (.int .u8) (.t 35)),
    (none, .v 37 (.conv .i64 (.t 36))),
    (none, .v 38 (.mul (.t 37) (.k (.int .i64 (65536))))),
    (none, .v 39 (.move (.t 0))),
    (none, .v 40 (.iadr none (.int .u8) (.t 39) (.k (.int .i64 (2))))),
    (none, .load 41 (.int .u8) (.t 40)),
    (none, .v 42 (.conv .i64 (.t 41))),
    (none, .v 43 (.mul (.t 42) (.k (.int .i64 (256))))),
    (none, .v 44 (.add (.t 38) (.t 43))),
    (none, .v 45 (.move (.t 0))),
    (none, .v 46 (.iadr none (.int .u8) (.t 45) (.k (.int .i64 (3))))),
    (none, .load 47 (.int .u8) (.t 46)),
    (none, .v 48 (.conv .i64 (.t 47))),
    (none, .v 49 (.add (.t 44) (.t 48))),
    (none, .v 50 (.build T26 [(0, .t 21), (1, .t 27), (2, .t 33), (3, .t 49)])),
    (none, .alloc 5 0 T26)] [
    (none, .store T26 (.t 5) (.t 50))])
  (.seq
  (.seq
  (.region 0 [
    (none, .v 6 (.move (.k (.int .i64 (0)))))])
  (.block 0
    (.loop [0, 2, 5, 6]
      (.seq
      (.seq
      (.region 0 [
        (none, .v 51 (.move (.t 6))),
        (none, .v 52 (.cmp .lt (.t 51) (.k (.int .i64 (6)))))])
      (.cond (.t 52)
        .skip
        (.exit 0)))
      (.seq
      (.block 1
        (.seq
        (.region 0 [
          (none, .v 55 (.move (.t 6))),
          (none, .v 56 (.move (.t 0))),
          (none, .v 57 (.move (.t 6))),
          (none, .v 58 (.add (.k (.int .i64 (4))) (.t 57))),
          (none, .v 59 (.iadr none (.int .u8) (.t 56) (.t 58))),
          (none, .load 60 (.int .u8) (.t 59)),
          (none, .v 61 (.fadr T26 4 (.t 5))),
          (none, .v 62 (.iadr (some 6) (.int .u8) (.t 61) (.t 55))),
          (none, .store (.int .u8) (.t 62) (.t 60))])
        (.region 0 [
          (none, .v 63 (.move (.t 6))),
          (none, .v 64 (.move (.t 0))),
          (none, .v 65 (.move (.t 6))),
          (none, .v 66 (.add (.k (.int .i64 (10))) (.t 65))),
          (none, .v 67 (.iadr none (.int .u8) (.t 64) (.t 66))),
          (none, .load 68 (.int .u8) (.t 67)),
          (none, .v 69 (.fadr T26 5 (.t 5))),
          (none, .v 70 (.iadr (some 6) (.int .u8) (.t 69) (.t 63))),
          (none, .store (.int .u8) (.t 70) (.t 68))])))
      (.region 0 [
        (none, .v 53 (.move (.t 6))),
        (none, .v 54 (.add (.t 53) (.k (.int .i64 (1))))),
        (none, .v 6 (.move (.t 54)))]))))))
  (.seq
  (.draw 2 [[], [], [], [], [1]] [
    (none, .load 71 T26 (.t 5)),
    (none, .lit 72 0 (.int .u8) 0 [] true),
    (none, .v 73 (.move (.t 0))),
    (none, .v 74 (.slice (.int .u8) (.t 73) (some (.k (.int .i64 (16)))) none none)),
    (none, .app 75 1 (.int .u8) 1 (.t 72) (.t 74) false)] [
    (none, .store T26 (.t 2) (.t 71)),
    (none, .v 3 (.move (.t 75))),
    (none, .v 4 (.move (.k (.int .i64 (0)))))])
  .ret))))))
def nt_r02_TakeI : Nat := 76
def rs_r02_TakeI : List RV := [.cell 2 T26, .tmp 3, .tmp 4]
/-- pontage/tag.numbered -/
abbrev f_tag_numbered : FuncId := 28
def ac_tag_numbered : AC :=
  (.seq
  (.region 0 [
    (none, .v 4 (.move (.k (.sl (.int .u8) [] .full))))])
  (.seq
  (.region 1 [
    (none, .v 7 (.move (.t 1))),
    (none, .make 8 0 (.int .u8) 1 (.t 7)),
    (none, .v 5 (.move (.t 8)))])
  (.seq
  (.seq
  (.region 0 [
    (none, .v 9 (.move (.t 5))),
    (none, .v 10 (.len false (.t 9))),
    (none, .v 11 (.move (.k (.int .i64 (0)))))])
  (.block 0
    (.loop [0, 1, 5, 10, 11]
      (.seq
      (.region 0 [
        (none, .v 12 (.cmp .lt (.t 11) (.t 10)))])
      (.seq
      (.cond (.t 12)
        .skip
        (.exit 0))
      (.seq
      (.block 1
        (.seq
        (.region 0 [
          (none, .v 13 (.move (.t 11))),
          (none, .v 6 (.move (.t 13)))])
        (.region 0 [
          (none, .v 14 (.move (.t 5))),
          (none, .v 15 (.move (.t 1))),
          (none, .v 16 (.sub (.t 15) (.k (.int .i64 (1))))),
          (none, .v 17 (.move (.t 6))),
          (none, .v 18 (.sub (.t 16) (.t 17))),
          (none, .v 19 (.move (.t 0))),
          (none, .v 20 (.move (.t 6))),
          (none, .v 21 (.conv .u64 (.t 20))),
          (none, .v 22 (.mul (.k (.int .u64 (8))) (.t 21))),
          (none, .v 23 (.shr (.t 19) (.t 22))),
          (none, .v 24 (.conv .u8 (.t 23))),
          (none, .v 25 (.iadr none (.int .u8) (.t 14) (.t 18))),
          (none, .store (.int .u8) (.t 25) (.t 24))])))
      (.region 0 [
        (none, .v 26 (.add (.t 11) (.k (.int .i64 (1))))),
        (none, .v 11 (.move (.t 26)))])))))))
  (.seq
  (.region 0 [
    (none, .v 27 (.move (.t 5))),
    (none, .close 4 (.t 27))])
  .ret))))
def nt_tag_numbered : Nat := 28
def rs_tag_numbered : List RV := [.tmp 4]
/-- pontage/tag.bit -/
abbrev f_tag_bit : FuncId := 29
def ac_tag_bit : AC :=
  (.seq
  (.region 0 [
    (none, .v 4 (.move (.k (.int .u32 (0)))))])
  (.seq
  (.seq
  (.region 0 [
    (none, .v 5 (.move (.t 0)))])
  (.cond (.t 5)
    (.seq
    (.region 0 [
      (none, .v 6 (.move (.t 1))),
      (none, .v 7 (.shl (.k (.int .u32 (1))) (.t 6))),
      (none, .v 4 (.move (.t 7)))])
    .ret)
    .skip))
  (.seq
  (.region 0 [
    (none, .v 4 (.move (.k (.int .u32 (0)))))])
  .ret)))
def nt_tag_bit : Nat := 8
def rs_tag_bit : List RV := [.tmp 4]
/-- pontage/pontageref02.Is -/
abbrev f_r02_Is : FuncId := 30
def ac_r02_Is : AC :=
  (.seq
  (.region 0 [
    (none, .boxc 1 T22 (.t 0)),
    (none, .v 2 (.move (.k (.bool false))))])
  (.seq
  (.region 0 [
    (none, .v 3 (.fadr T22 0 (.t 1))),
    (none, .load 4 (.int .i64) (.t 3)),
    (none, .v 5 (.cmp .ge (.t 4) (.k (.int .i64 (0))))),
    (none, .v 6 (.move (.t 5))),
    (some (6, true), .v 7 (.fadr T22 0 (.t 1))),
    (some (6, true), .load 8 (.int .i64) (.t 7)),
    (some (6, true), .v 9 (.cmp .le (.t 8) (.k (.int .i64 (7))))),
    (none, .v 10 (.pick (.t 6) (.t 9) (.k (.bool false)))),
    (none, .v 11 (.move (.t 10))),
    (some (11, true), .v 12 (.fadr T22 2 (.t 1))),
    (some (11, true), .load 13 (.int .i64) (.t 12)),
    (some (11, true), .v 14 (.cmp .ge (.t 13) (.k (.int .i64 (1))))),
    (none, .v 15 (.pick (.t 11) (.t 14) (.k (.bool false)))),
    (none, .v 16 (.move (.t 15))),
    (some (16, true), .v 17 (.fadr T22 2 (.t 1))),
    (some (16, true), .load 18 (.int .i64) (.t 17)),
    (some (16, true), .v 19 (.cmp .le (.t 18) (.k (.int .i64 (4094))))),
    (none, .v 20 (.pick (.t 16) (.t 19) (.k (.bool false)))),
    (none, .v 2 (.move (.t 20)))])
  .ret))
def nt_r02_Is : Nat := 21
def rs_r02_Is : List RV := [.tmp 2]
/-- pontage/pontageref02.Bytes -/
abbrev f_r02_Bytes : FuncId := 31
def ac_r02_Bytes : AC :=
  (.seq
  (.region 0 [
    (none, .boxc 1 T22 (.t 0)),
    (none, .v 2 (.move (.k (.sl (.int .u8) [] .full))))])
  (.seq
  (.draw 0 [[], [], [], [], [], [4], [], [], []] [
    (none, .v 4 (.fadr T22 0 (.t 1))),
    (none, .load 5 (.int .i64) (.t 4)),
    (none, .v 6 (.mul (.t 5) (.k (.int .i64 (8192))))),
    (none, .v 7 (.fadr T22 1 (.t 1))),
    (none, .load 8 .bool (.t 7)),
    (none, .callP (some 9) 39 [.t 8, .k (.int .i64 (4096))] 0 0 false),
    (none, .v 10 (.add (.t 6) (.t 9))),
    (none, .v 11 (.fadr T22 2 (.t 1))),
    (none, .load 12 (.int .i64) (.t 11))] [
    (none, .v 13 (.add (.t 10) (.t 12))),
    (none, .v 3 (.move (.t 13)))])
  (.seq
  (.region 1 [
    (none, .v 14 (.move (.t 3))),
    (none, .v 15 (.quo (.t 14) (.k (.int .i64 (256))))),
    (none, .v 16 (.conv .u8 (.t 15))),
    (none, .v 17 (.move (.t 3))),
    (none, .v 18 (.rem (.t 17) (.k (.int .i64 (256))))),
    (none, .v 19 (.conv .u8 (.t 18))),
    (none, .lit 20 0 (.int .u8) 2 [(0, .t 16), (1, .t 19)] false),
    (none, .v 2 (.move (.t 20)))])
  .ret)))
def nt_r02_Bytes : Nat := 21
def rs_r02_Bytes : List RV := [.tmp 2]
/-- slices.Concat[[]byte,byte] -/
abbrev f_slices_Concat_u8 : FuncId := 32
def ac_slices_Concat_u8 : AC :=
  (.seq
  (.region 0 [
    (none, .v 2 (.move (.k (.sl (.int .u8) [] .full))))])
  (.seq
  (.region 0 [
    (none, .v 3 (.move (.k (.int .i64 (0)))))])
  (.seq
  (.seq
  (.region 0 [
    (none, .v 9 (.move (.t 0))),
    (none, .v 10 (.len false (.t 9))),
    (none, .v 11 (.move (.k (.int .i64 (0)))))])
  (.block 0
    (.loop [0, 3, 9, 10, 11]
      (.seq
      (.region 0 [
        (none, .v 12 (.cmp .lt (.t 11) (.t 10)))])
      (.seq
      (.cond (.t 12)
        .skip
        (.exit 0))
      (.seq
      (.block 1
        (.seq
        (.region 0 [
          (none, .v 13 (.iadr none (.sl (.int .u8)) (.t 9) (.t 11))),
          (none, .load 14 (.sl (.int .u8)) (.t 13)),
          (none, .v 5 (.move (.t 14)))])
        (.seq
        (.region 0 [
          (none, .v 15 (.move (.t 3))),
          (none, .v 16 (.move (.t 5))),
          (none, .v 17 (.len false (.t 16))),
          (none, .v 18 (.add (.t 15) (.t 17))),
          (none, .v 3 (.move (.t 18)))])
        (.seq
        (.region 0 [
          (none, .v 19 (.move (.t 3))),
          (none, .v 20 (.cmp .lt (.t 19) (.k (.int .i64 (0)))))])
        (.cond (.t 20)
          (.region 0 [
            (none, .stop (some 21)),
            (none, .stop none)])
          .skip)))))
      (.region 0 [
        (none, .v 22 (.add (.t 11) (.k (.int .i64 (1))))),
        (none, .v 11 (.move (.t 22)))])))))))
  (.seq
  (.region 2 [
    (none, .v 23 (.move (.t 3))),
    (none, .callP (some 24) 40 [.k (.sl (.int .u8) [] .full), .t 23] 0 1 true),
    (none, .mk 6 1 (.int .u8) (.t 24))])
  (.seq
  (.seq
  (.region 0 [
    (none, .v 25 (.move (.t 0))),
    (none, .v 26 (.len false (.t 25))),
    (none, .v 27 (.move (.k (.int .i64 (0)))))])
  (.block 2
    (.loop [6, 25, 26, 27]
      (.seq
      (.region 0 [
        (none, .v 28 (.cmp .lt (.t 27) (.t 26)))])
      (.seq
      (.cond (.t 28)
        .skip
        (.exit 2))
      (.seq
      (.block 3
        (.seq
        (.region 0 [
          (none, .v 29 (.iadr none (.sl (.int .u8)) (.t 25) (.t 27))),
          (none, .load 30 (.sl (.int .u8)) (.t 29)),
          (none, .v 8 (.move (.t 30)))])
        (.region 1 [
          (none, .v 31 (.move (.t 6))),
          (none, .v 32 (.move (.t 8))),
          (none, .app 33 0 (.int .u8) 1 (.t 31) (.t 32) false),
          (none, .v 6 (.move (.t 33)))])))
      (.region 0 [
        (none, .v 34 (.add (.t 27) (.k (.int .i64 (1))))),
        (none, .v 27 (.move (.t 34)))])))))))
  (.seq
  (.region 0 [
    (none, .v 35 (.move (.t 6))),
    (none, .v 2 (.move (.t 35)))])
  .ret))))))
def nt_slices_Concat_u8 : Nat := 36
def rs_slices_Concat_u8 : List RV := [.tmp 2]
/-- pontage/pontageref02.IsI -/
abbrev f_r02_IsI : FuncId := 33
def ac_r02_IsI : AC :=
  (.seq
  (.region 0 [
    (none, .boxc 1 T26 (.t 0)),
    (none, .v 2 (.move (.k (.bool false))))])
  (.seq
  (.region 0 [
    (none, .v 3 (.fadr T26 0 (.t 1))),
    (none, .load 4 (.int .i64) (.t 3)),
    (none, .v 5 (.cmp .ge (.t 4) (.k (.int .i64 (0))))),
    (none, .v 6 (.move (.t 5))),
    (some (6, true), .v 7 (.fadr T26 0 (.t 1))),
    (some (6, true), .load 8 (.int .i64) (.t 7)),
    (some (6, true), .v 9 (.cmp .le (.t 8) (.k (.int .i64 (7))))),
    (none, .v 10 (.pick (.t 6) (.t 9) (.k (.bool false)))),
    (none, .v 11 (.move (.t 10))),
    (some (11, true), .v 12 (.fadr T26 3 (.t 1))),
    (some (11, true), .load 13 (.int .i64) (.t 12)),
    (some (11, true), .v 14 (.cmp .ge (.t 13) (.k (.int .i64 (0))))),
    (none, .v 15 (.pick (.t 11) (.t 14) (.k (.bool false)))),
    (none, .v 16 (.move (.t 15))),
    (some (16, true), .v 17 (.fadr T26 3 (.t 1))),
    (some (16, true), .load 18 (.int .i64) (.t 17)),
    (some (16, true), .v 19 (.cmp .le (.t 18) (.k (.int .i64 (16777215))))),
    (none, .v 20 (.pick (.t 16) (.t 19) (.k (.bool false)))),
    (none, .v 2 (.move (.t 20)))])
  .ret))
def nt_r02_IsI : Nat := 21
def rs_r02_IsI : List RV := [.tmp 2]
/-- pontage/pontageref02.BytesI -/
abbrev f_r02_BytesI : FuncId := 34
def ac_r02_BytesI : AC :=
  (.seq
  (.region 0 [
    (none, .boxc 1 T26 (.t 0)),
    (none, .v 2 (.move (.k (.sl (.int .u8) [] .full))))])
  (.seq
  (.draw 1 [[], [], [], [], [], [4], [], [], [], [4, 5, 8], [], [], [], [], [], [], [], [], [], [], [], [], [], [], []] [
    (none, .v 4 (.fadr T26 0 (.t 1))),
    (none, .load 5 (.int .i64) (.t 4)),
    (none, .v 6 (.mul (.t 5) (.k (.int .i64 (32))))),
    (none, .v 7 (.fadr T26 1 (.t 1))),
    (none, .load 8 .bool (.t 7)),
    (none, .callP (some 9) 39 [.t 8, .k (.int .i64 (16))] 0 0 false),
    (none, .v 10 (.add (.t 6) (.t 9))),
    (none, .v 11 (.fadr T26 2 (.t 1))),
    (none, .load 12 .bool (.t 11)),
    (none, .callP (some 13) 39 [.t 12, .k (.int .i64 (8))] 0 0 false),
    (none, .v 14 (.add (.t 10) (.t 13))),
    (none, .v 15 (.conv .u8 (.t 14))),
    (none, .v 16 (.fadr T26 3 (.t 1))),
    (none, .load 17 (.int .i64) (.t 16)),
    (none, .v 18 (.quo (.t 17) (.k (.int .i64 (65536))))),
    (none, .v 19 (.conv .u8 (.t 18))),
    (none, .v 20 (.fadr T26 3 (.t 1))),
    (none, .load 21 (.int .i64) (.t 20)),
    (none, .v 22 (.quo (.t 21) (.k (.int .i64 (256))))),
    (none, .v 23 (.rem (.t 22) (.k (.int .i64 (256))))),
    (none, .v 24 (.conv .u8 (.t 23))),
    (none, .v 25 (.fadr T26 3 (.t 1))),
    (none, .load 26 (.int .i64) (.t 25)),
    (none, .v 27 (.rem (.t 26) (.k (.int .i64 (256))))),
    (none, .v 28 (.conv .u8 (.t 27)))] [
    (none, .lit 29 0 (.int .u8) 4 [(0, .t 15), (1, .t 19), (2, .t 24), (3, .t 28)] false),
    (none, .v 3 (.move (.t 29)))])
  (.seq
  (.region 1 [
    (none, .v 30 (.move (.t 3))),
    (none, .v 31 (.fadr T26 4 (.t 1))),
    (none, .v 32 (.sliceA 6 (.int .u8) (.t 31) none none)),
    (none, .app 33 0 (.int .u8) 1 (.t 30) (.t 32) false),
    (none, .v 3 (.move (.t 33)))])
  (.seq
  (.region 1 [
    (none, .v 34 (.move (.t 3))),
    (none, .v 35 (.fadr T26 5 (.t 1))),
    (none, .v 36 (.sliceA 6 (.int .u8) (.t 35) none none)),
    (none, .app 37 0 (.int .u8) 1 (.t 34) (.t 36) false),
    (none, .v 2 (.move (.t 37)))])
  .ret))))
def nt_r02_BytesI : Nat := 38
def rs_r02_BytesI : List RV := [.tmp 2]
/-- pontage/tag.within -/
abbrev f_tag_within : FuncId := 35
def ac_tag_within : AC :=
  (.seq
  (.region 0 [
    (none, .v 6 (.move (.k (.bool false))))])
  (.seq
  (.region 0 [
    (none, .v 7 (.move (.t 0))),
    (none, .v 8 (.move (.t 1))),
    (none, .v 9 (.cmp .ge (.t 7) (.t 8))),
    (none, .v 10 (.move (.t 9))),
    (some (10, true), .v 11 (.move (.t 0))),
    (some (10, true), .v 12 (.move (.t 2))),
    (some (10, true), .v 13 (.cmp .le (.t 11) (.t 12))),
    (none, .v 14 (.pick (.t 10) (.t 13) (.k (.bool false)))),
    (none, .v 6 (.move (.t 14)))])
  .ret))
def nt_tag_within : Nat := 15
def rs_tag_within : List RV := [.tmp 6]
/-- pontage/tag.number -/
abbrev f_tag_number : FuncId := 36
def ac_tag_number : AC :=
  (.seq
  (.region 0 [
    (none, .v 2 (.move (.k (.int .u32 (0)))))])
  (.seq
  (.region 0 [
    (none, .v 3 (.move (.k (.int .u32 (0)))))])
  (.seq
  (.seq
  (.region 0 [
    (none, .v 6 (.move (.t 0))),
    (none, .v 7 (.len false (.t 6))),
    (none, .v 8 (.move (.k (.int .i64 (0)))))])
  (.block 0
    (.loop [3, 6, 7, 8]
      (.seq
      (.region 0 [
        (none, .v 9 (.cmp .lt (.t 8) (.t 7)))])
      (.seq
      (.cond (.t 9)
        .skip
        (.exit 0))
      (.seq
      (.block 1
        (.seq
        (.region 0 [
          (none, .v 10 (.iadr none (.int .u8) (.t 6) (.t 8))),
          (none, .load 11 (.int .u8) (.t 10)),
          (none, .v 5 (.move (.t 11)))])
        (.region 0 [
          (none, .v 12 (.move (.t 3))),
          (none, .v 13 (.shl (.t 12) (.k (.int .u64 (8))))),
          (none, .v 14 (.move (.t 5))),
          (none, .v 15 (.conv .u32 (.t 14))),
          (none, .v 16 (.bit .or (.t 13) (.t 15))),
          (none, .v 3 (.move (.t 16)))])))
      (.region 0 [
        (none, .v 17 (.add (.t 8) (.k (.int .i64 (1))))),
        (none, .v 8 (.move (.t 17)))])))))))
  (.seq
  (.region 0 [
    (none, .v 18 (.move (.t 3))),
    (none, .v 2 (.move (.t 18)))])
  .ret))))
def nt_tag_number : Nat := 19
def rs_tag_number : List RV := [.tmp 2]
/-- slices.Clone[[]byte,byte] -/
abbrev f_slices_Clone_u8 : FuncId := 37
def ac_slices_Clone_u8 : AC :=
  (.seq
  (.region 0 [
    (none, .v 2 (.move (.k (.sl (.int .u8) [] .full))))])
  (.seq
  (.seq
  (.region 0 [
    (none, .v 3 (.move (.t 0))),
    (none, .eqnil 4 false (.t 3))])
  (.cond (.t 4)
    (.seq
    (.region 1 [
      (none, .mk 2 0 (.int .u8) (.k (.sl (.int .u8) [] .full)))])
    .ret)
    .skip))
  (.seq
  (.region 2 [
    (none, .lit 5 0 (.int .u8) 0 [] true),
    (none, .v 6 (.move (.t 0))),
    (none, .app 7 1 (.int .u8) 1 (.t 5) (.t 6) false),
    (none, .v 2 (.move (.t 7)))])
  .ret)))
def nt_slices_Clone_u8 : Nat := 8
def rs_slices_Clone_u8 : List RV := [.tmp 2]
/-- pontage/tag.cutter -/
abbrev f_tag_cutter : FuncId := 38
def ac_tag_cutter : AC :=
  (.seq
  (.region 1 [
    (none, .box 1 0 (.int .u32) (.t 0)),
    (none, .v 2 (.move (.k .nilfn)))])
  (.seq
  (.region 0 [
    (none, .v 3 (.mkfn 41 [.t 1])),
    (none, .v 2 (.move (.t 3)))])
  .ret))
def nt_tag_cutter : Nat := 4
def rs_tag_cutter : List RV := [.tmp 2]
/-- pontage/pontageref02.bit -/
abbrev f_r02_bit : FuncId := 39
def ac_r02_bit : AC :=
  (.seq
  (.region 0 [
    (none, .v 4 (.move (.k (.int .i64 (0)))))])
  (.seq
  (.seq
  (.region 0 [
    (none, .v 5 (.move (.t 0)))])
  (.cond (.t 5)
    (.seq
    (.region 0 [
      (none, .v 6 (.move (.t 1))),
      (none, .v 4 (.move (.t 6)))])
    .ret)
    .skip))
  (.seq
  (.region 0 [
    (none, .v 4 (.move (.k (.int .i64 (0)))))])
  .ret)))
def nt_r02_bit : Nat := 7
def rs_r02_bit : List RV := [.tmp 4]
/-- slices.Grow[[]byte,byte] -/
abbrev f_slices_Grow_u8 : FuncId := 40
def ac_slices_Grow_u8 : AC :=
  (.seq
  (.region 0 [
    (none, .v 4 (.move (.k (.sl (.int .u8) [] .full))))])
  (.seq
  (.seq
  (.region 0 [
    (none, .v 5 (.move (.t 1))),
    (none, .v 6 (.cmp .lt (.t 5) (.k (.int .i64 (0)))))])
  (.cond (.t 6)
    (.region 0 [
      (none, .stop (some 7)),
      (none, .stop none)])
    .skip))
  (.seq
  (.seq
  (.region 0 [
    (none, .v 8 (.move (.t 1))),
    (none, .v 9 (.move (.t 0))),
    (none, .cap 10 (.t 9)),
    (none, .v 11 (.move (.t 0))),
    (none, .v 12 (.len false (.t 11))),
    (none, .v 13 (.sub (.t 10) (.t 12))),
    (none, .v 14 (.sub (.t 8) (.t 13))),
    (none, .v 1 (.move (.t 14)))])
  (.seq
  (.region 0 [
    (none, .v 15 (.move (.t 1))),
    (none, .v 16 (.cmp .gt (.t 15) (.k (.int .i64 (0)))))])
  (.cond (.t 16)
    (.region 1 [
      (none, .v 17 (.move (.t 0))),
      (none, .v 18 (.move (.t 0))),
      (none, .cap 19 (.t 18)),
      (none, .v 20 (.slc (.int .u8) (.t 17) (.t 19))),
      (none, .v 21 (.move (.t 1))),
      (none, .appz 22 0 (.int .u8) 1 (.t 20) (.t 21)),
      (none, .v 23 (.move (.t 0))),
      (none, .v 24 (.len false (.t 23))),
      (none, .trim 25 (.t 22) (.t 24)),
      (none, .v 0 (.move (.t 25)))])
    .skip)))
  (.seq
  (.region 0 [
    (none, .v 26 (.move (.t 0))),
    (none, .v 4 (.move (.t 26)))])
  .ret))))
def nt_slices_Grow_u8 : Nat := 27
def rs_slices_Grow_u8 : List RV := [.tmp 4]
/-- pontage/tag.cutter$1 -/
abbrev f_tag_cutter_1 : FuncId := 41
def ac_tag_cutter_1 : AC :=
  (.seq
  (.region 0 [
    (none, .v 3 (.move (.k (.int .i64 (0)))))])
  (.seq
  (.region 0 [
    (none, .load 5 (.int .u32) (.t 1)),
    (none, .v 6 (.move (.t 0))),
    (none, .v 7 (.shl (.k (.int .u32 (1))) (.t 6))),
    (none, .v 8 (.sub (.t 7) (.k (.int .u32 (1))))),
    (none, .v 9 (.bit .and (.t 5) (.t 8))),
    (none, .v 4 (.move (.t 9)))])
  (.seq
  (.region 0 [
    (none, .load 10 (.int .u32) (.t 1)),
    (none, .v 11 (.move (.t 0))),
    (none, .v 12 (.shr (.t 10) (.t 11))),
    (none, .store (.int .u32) (.t 1) (.t 12))])
  (.seq
  (.region 0 [
    (none, .v 13 (.move (.t 4))),
    (none, .v 14 (.conv .i64 (.t 13))),
    (none, .v 3 (.move (.t 14)))])
  .ret))))
def nt_tag_cutter_1 : Nat := 15
def rs_tag_cutter_1 : List RV := [.tmp 3]
theorem mixed : prog.follows .mixedOrders = true := by kernel_rfl
theorem ok_l02_TagPuts : funOK prog f_l02_TagPuts nt_l02_TagPuts rs_l02_TagPuts ac_l02_TagPuts = true := by kernel_rfl
theorem ok_l02_TagTypes : funOK prog f_l02_TagTypes nt_l02_TagTypes rs_l02_TagTypes ac_l02_TagTypes = true := by kernel_rfl
theorem ok_l02_TagTakes : funOK prog f_l02_TagTakes nt_l02_TagTakes rs_l02_TagTakes ac_l02_TagTakes = true := by kernel_rfl
theorem ok_l02_TagBack : funOK prog f_l02_TagBack nt_l02_TagBack rs_l02_TagBack ac_l02_TagBack = true := by kernel_rfl
theorem ok_tag_Put : funOK prog f_tag_Put nt_tag_Put rs_tag_Put ac_tag_Put = true := by kernel_rfl
theorem ok_r02_Put : funOK prog f_r02_Put nt_r02_Put rs_r02_Put ac_r02_Put = true := by kernel_rfl
theorem ok_tag_PutI : funOK prog f_tag_PutI nt_tag_PutI rs_tag_PutI ac_tag_PutI = true := by kernel_rfl
theorem ok_r02_PutI : funOK prog f_r02_PutI nt_r02_PutI rs_r02_PutI ac_r02_PutI = true := by kernel_rfl
theorem ok_tag_Check : funOK prog f_tag_Check nt_tag_Check rs_tag_Check ac_tag_Check = true := by kernel_rfl
theorem ok_r02_Check : funOK prog f_r02_Check nt_r02_Check rs_r02_Check ac_r02_Check = true := by kernel_rfl
theorem ok_tag_CheckI : funOK prog f_tag_CheckI nt_tag_CheckI rs_tag_CheckI ac_tag_CheckI = true := by kernel_rfl
theorem ok_r02_CheckI : funOK prog f_r02_CheckI nt_r02_CheckI rs_r02_CheckI ac_r02_CheckI = true := by kernel_rfl
theorem ok_l02_awake : funOK prog f_l02_awake nt_l02_awake rs_l02_awake ac_l02_awake = true := by kernel_rfl
theorem ok_l02_cut : funOK prog f_l02_cut nt_l02_cut rs_l02_cut ac_l02_cut = true := by kernel_rfl
theorem ok_tag_PutType : funOK prog f_tag_PutType nt_tag_PutType rs_tag_PutType ac_tag_PutType = true := by kernel_rfl
theorem ok_r02_PutType : funOK prog f_r02_PutType nt_r02_PutType rs_r02_PutType ac_r02_PutType = true := by kernel_rfl
theorem ok_tag_TakeType : funOK prog f_tag_TakeType nt_tag_TakeType rs_tag_TakeType ac_tag_TakeType = true := by kernel_rfl
theorem ok_r02_TakeType : funOK prog f_r02_TakeType nt_r02_TakeType rs_r02_TakeType ac_r02_TakeType = true := by kernel_rfl
theorem ok_tag_Carried : funOK prog f_tag_Carried nt_tag_Carried rs_tag_Carried ac_tag_Carried = true := by kernel_rfl
theorem ok_r02_Carried : funOK prog f_r02_Carried nt_r02_Carried rs_r02_Carried ac_r02_Carried = true := by kernel_rfl
theorem ok_tag_Take : funOK prog f_tag_Take nt_tag_Take rs_tag_Take ac_tag_Take = true := by kernel_rfl
theorem ok_r02_Take : funOK prog f_r02_Take nt_r02_Take rs_r02_Take ac_r02_Take = true := by kernel_rfl
theorem ok_tag_TakeI : funOK prog f_tag_TakeI nt_tag_TakeI rs_tag_TakeI ac_tag_TakeI = true := by kernel_rfl
theorem ok_r02_TakeI : funOK prog f_r02_TakeI nt_r02_TakeI rs_r02_TakeI ac_r02_TakeI = true := by kernel_rfl
theorem ok_tag_numbered : funOK prog f_tag_numbered nt_tag_numbered rs_tag_numbered ac_tag_numbered = true := by kernel_rfl
theorem ok_tag_bit : funOK prog f_tag_bit nt_tag_bit rs_tag_bit ac_tag_bit = true := by kernel_rfl
theorem ok_r02_Is : funOK prog f_r02_Is nt_r02_Is rs_r02_Is ac_r02_Is = true := by kernel_rfl
theorem ok_r02_Bytes : funOK prog f_r02_Bytes nt_r02_Bytes rs_r02_Bytes ac_r02_Bytes = true := by kernel_rfl
theorem ok_slices_Concat_u8 : funOK prog f_slices_Concat_u8 nt_slices_Concat_u8 rs_slices_Concat_u8 ac_slices_Concat_u8 = true := by kernel_rfl
theorem ok_r02_IsI : funOK prog f_r02_IsI nt_r02_IsI rs_r02_IsI ac_r02_IsI = true := by kernel_rfl
theorem ok_r02_BytesI : funOK prog f_r02_BytesI nt_r02_BytesI rs_r02_BytesI ac_r02_BytesI = true := by kernel_rfl
theorem ok_tag_within : funOK prog f_tag_within nt_tag_within rs_tag_within ac_tag_within = true := by kernel_rfl
theorem ok_tag_number : funOK prog f_tag_number nt_tag_number rs_tag_number ac_tag_number = true := by kernel_rfl
theorem ok_slices_Clone_u8 : funOK prog f_slices_Clone_u8 nt_slices_Clone_u8 rs_slices_Clone_u8 ac_slices_Clone_u8 = true := by kernel_rfl
theorem ok_tag_cutter : funOK prog f_tag_cutter nt_tag_cutter rs_tag_cutter ac_tag_cutter = true := by kernel_rfl
theorem ok_r02_bit : funOK prog f_r02_bit nt_r02_bit rs_r02_bit ac_r02_bit = true := by kernel_rfl
theorem ok_slices_Grow_u8 : funOK prog f_slices_Grow_u8 nt_slices_Grow_u8 rs_slices_Grow_u8 ac_slices_Grow_u8 = true := by kernel_rfl
theorem ok_tag_cutter_1 : funOK prog f_tag_cutter_1 nt_tag_cutter_1 rs_tag_cutter_1 ac_tag_cutter_1 = true := by kernel_rfl
def orc : Orc where
  p := fun f args => match f with
    | 3 => pTagPuts args
    | 4 => pTagTypes args
    | 5 => pTagTakes args
    | 6 => pTagBack args
    | 8 => pTagPut args
    | 9 => pTagPut args
    | 10 => pTagPutI args
    | 11 => pTagPutI args
    | 12 => pTagCheck args
    | 13 => pTagCheck args
    | 14 => pTagCheckI args
    | 15 => pTagCheckI args
    | 16 => pYes args
    | 17 => pCut args
    | 18 => pPutType args
    | 19 => pPutType args
    | 20 => pTakeType args
    | 21 => pTakeType args
    | 22 => pCarried args
    | 23 => pCarried args
    | 24 => pTake args
    | 25 => pTake args
    | 26 => pTakeI args
    | 27 => pTakeI args
    | 28 => pNumbered args
    | 29 => pBit args
    | 30 => pTagIs args
    | 31 => pTagBytes args
    | 32 => pConcat8 args
    | 33 => pTagIsI args
    | 34 => pTagBytesI args
    | 35 => pWithin args
    | 36 => pNumber args
    | 37 => pClone8 args
    | 38 => pCutter args
    | 39 => pRBit args
    | 40 => pGrow8 args
    | _ => .bad
  s := fun f args h => match f with
    | 41 => sCutter args h
    | _ => .bad
  fu := fun f => match f with
    | 40 => true
    | _ => false
end Go.Vc.Seat
