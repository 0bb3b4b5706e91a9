/- The seat's code in abstract form, held against the program; what is known of its functions. -/
import Derived.Test.YtpdcgjpkcjhbjaaProg
import Derived.KernelRfl
import Derived.Test.YtpdcgjpkcjhbjaaSpTag
import Derived.Test.YtpdcgjpkcjhbjaaEpSpTag2
import Derived.Test.YtpdcgjpkcjhbjaaSpEth
import Derived.Test.YtpdcgjpkcjhbjaaSpSpan
import Derived.Test.YtpdcgjpkcjhbjaaSpSpan2
import Derived.Test.YtpdcgjpkcjhbjaaSpSpan3
set_option linter.unusedVariables false
set_option maxRecDepth 100000
namespace Go.Vc.Seat
open Go.Vc Go.Proofs.Try
abbrev T49 : Ty := .st [.int .i64, .int .i64, .int .i64, .int .i64, .int .u32, .int .u32]
abbrev T55 : Ty := .st [.int .u64, .int .u32, .int .u64, .int .u16]
abbrev T57 : Ty := .st [.int .i64, .int .i64, .int .i64, .st [.int .u64, .int .u32, .int .u64, .int .u16]]
abbrev T59 : Ty := .st [.int .u64, .int .u32, .int .i64]
abbrev T63 : Ty := .st [.int .i64, .int .i64, .int .u32, .int .i64, .int .i64]
abbrev T70 : Ty := .st [.int .i64, .int .i64]
abbrev T72 : Ty := .st [.st [.int .i64, .int .i64], .int .u32, .st [.int .i64, .int .i64]]
abbrev T74 : Ty := .arr 2 (.st [.st [.int .i64, .int .i64], .int .u32, .st [.int .i64, .int .i64]])
abbrev T83 : Ty := .arr 6 (.int .u8)
abbrev T92 : Ty := .arr 2 (.int .u64)
abbrev T93 : Ty := .arr 4 (.arr 2 (.int .u64))
/-- pontage/pontagelaw16.SpanTree -/
abbrev f_l16_SpanTree : FuncId := 5
def ac_l16_SpanTree : AC :=
  (.seq
  (.region 0 [
    (none, .v 4 (.move (.k (.bool false))))])
  (.seq
  (.region 0 [
    (none, .v 13 (.move (.t 0))),
    (none, .callP (some 14) 10 [.t 13] 0 0 true),
    (none, .v 0 (.move (.t 14)))])
  (.seq
  (.region 0 [
    (none, .v 15 (.move (.t 1))),
    (none, .callP (some 16) 11 [.t 15] 0 0 true),
    (none, .v 1 (.move (.t 16)))])
  (.seq
  (.region 1 [
    (none, .v 18 (.move (.t 0))),
    (none, .v 19 (.move (.t 1))),
    (none, .callP (some 20) 20 [.t 18, .t 19] 0 1 true),
    (none, .v 17 (.move (.t 20))),
    (none, .v 21 (.ext (.t 17) 0)),
    (none, .v 22 (.ext (.t 17) 1)),
    (none, .v 5 (.move (.t 21))),
    (none, .v 6 (.move (.t 22)))])
  (.seq
  (.seq
  (.region 0 [
    (none, .v 23 (.move (.t 0))),
    (none, .v 24 (.move (.t 1))),
    (none, .callP (some 25) 15 [.t 23, .t 24] 0 0 true),
    (none, .v 26 (.cmp .ne (.t 25) (.k (.int .i64 (0)))))])
  (.cond (.t 26)
    (.seq
    (.region 0 [
      (none, .v 27 (.move (.t 6))),
      (none, .v 28 (.cmp .eq (.t 27) (.k (.int .i64 (160))))),
      (none, .v 29 (.move (.t 28))),
      (some (29, true), .v 30 (.move (.t 5))),
      (some (29, true), .v 31 (.len false (.t 30))),
      (some (29, true), .v 32 (.cmp .eq (.t 31) (.k (.int .i64 (0))))),
      (none, .v 33 (.pick (.t 29) (.t 32) (.k (.bool false)))),
      (none, .v 34 (.move (.t 33))),
      (some (34, true), .callP (some 35) 17 [] 0 0 true),
      (none, .v 36 (.pick (.t 34) (.t 35) (.k (.bool false)))),
      (none, .v 4 (.move (.t 36)))])
    .ret)
    .skip))
  (.seq
  (.seq
  (.region 0 [
    (none, .v 37 (.move (.t 6))),
    (none, .v 38 (.cmp .ne (.t 37) (.k (.int .i64 (0)))))])
  (.cond (.t 38)
    (.seq
    (.region 0 [
      (none, .v 4 (.move (.k (.bool false))))])
    .ret)
    .skip))
  (.seq
  (.region 1 [
    (none, .mk 7 0 T49 (.k (.sl T49 [] .full)))])
  (.seq
  (.seq
  (.region 0 [
    (none, .v 8 (.move (.k (.int .i64 (0)))))])
  (.block 0
    (.loop [0, 1, 5, 7, 8]
      (.seq
      (.seq
      (.region 0 [
        (none, .v 39 (.move (.t 8))),
        (none, .v 40 (.move (.t 5))),
        (none, .v 41 (.len false (.t 40))),
        (none, .v 42 (.cmp .lt (.t 39) (.t 41)))])
      (.cond (.t 42)
        .skip
        (.exit 0)))
      (.seq
      (.block 1
        (.seq
        (.seq
        (.draw 0 [[], [], [], [], [], [], [], [], [], [], [], [], [], [], [], [], [], [], [], [], [], [], [], [], [], [], []] [
          (none, .v 45 (.move (.t 5))),
          (none, .v 46 (.move (.t 8))),
          (none, .v 47 (.iadr none (.int .i64) (.t 45) (.t 46))),
          (none, .load 48 (.int .i64) (.t 47)),
          (none, .v 49 (.cmp .lt (.t 48) (.k (.int .i64 (0))))),
          (none, .v 50 (.move (.t 49))),
          (some (50, false), .v 51 (.move (.t 5))),
          (some (50, false), .v 52 (.move (.t 8))),
          (some (50, false), .v 53 (.iadr none (.int .i64) (.t 51) (.t 52))),
          (some (50, false), .load 54 (.int .i64) (.t 53)),
          (some (50, false), .v 55 (.move (.t 1))),
          (some (50, false), .v 56 (.len false (.t 55))),
          (some (50, false), .v 57 (.cmp .ge (.t 54) (.t 56))),
          (none, .v 58 (.pick (.t 50) (.k (.bool true)) (.t 57))),
          (none, .v 59 (.move (.t 58))),
          (some (59, false), .v 60 (.move (.t 8))),
          (some (59, false), .v 61 (.cmp .gt (.t 60) (.k (.int .i64 (0))))),
          (some (59, false), .v 62 (.move (.t 61))),
          (some (62, true), .v 63 (.move (.t 5))),
          (some (62, true), .v 64 (.move (.t 8))),
          (some (62, true), .v 65 (.iadr none (.int .i64) (.t 63) (.t 64))),
          (some (62, true), .load 66 (.int .i64) (.t 65)),
          (some (62, true), .v 67 (.move (.t 5))),
          (some (62, true), .v 68 (.move (.t 8))),
          (some (62, true), .v 69 (.sub (.t 68) (.k (.int .i64 (1))))),
          (some (62, true), .v 70 (.iadr none (.int .i64) (.t 67) (.t 69))),
          (some (62, true), .load 71 (.int .i64) (.t 70))] [
          (some (62, true), .v 72 (.cmp .le (.t 66) (.t 71))),
          (some (59, false), .v 73 (.pick (.t 62) (.t 72) (.k (.bool false)))),
          (none, .v 74 (.pick (.t 59) (.k (.bool true)) (.t 73)))])
        (.cond (.t 74)
          (.seq
          (.region 0 [
            (none, .v 4 (.move (.k (.bool false))))])
          .ret)
          .skip))
        (.region 2 [
          (none, .v 75 (.move (.t 7))),
          (none, .v 76 (.move (.t 1))),
          (none, .v 77 (.move (.t 5))),
          (none, .v 78 (.move (.t 8))),
          (none, .v 79 (.iadr none (.int .i64) (.t 77) (.t 78))),
          (none, .load 80 (.int .i64) (.t 79)),
          (none, .v 81 (.iadr none T49 (.t 76) (.t 80))),
          (none, .load 82 T49 (.t 81)),
          (none, .lit 83 0 T49 1 [(0, .t 82)] false),
          (none, .app 84 1 T49 40 (.t 75) (.t 83) false),
          (none, .v 7 (.move (.t 84)))])))
      (.region 0 [
        (none, .v 43 (.move (.t 8))),
        (none, .v 44 (.add (.t 43) (.k (.int .i64 (1))))),
        (none, .v 8 (.move (.t 44)))]))))))
  (.seq
  (.region 2 [
    (none, .v 85 (.move (.t 0))),
    (none, .v 86 (.len false (.t 85))),
    (none, .v 87 (.move (.t 1))),
    (none, .callP (some 88) 24 [.t 86, .t 87] 0 1 true),
    (none, .v 89 (.move (.t 0))),
    (none, .v 90 (.len false (.t 89))),
    (none, .v 91 (.move (.t 7))),
    (none, .callP (some 92) 24 [.t 90, .t 91] 1 1 true),
    (none, .v 9 (.move (.t 88))),
    (none, .v 10 (.move (.t 92)))])
  (.seq
  (.region 0 [
    (none, .v 11 (.move (.k (.int .i64 (0)))))])
  (.seq
  (.seq
  (.region 0 [
    (none, .v 12 (.move (.k (.int .i64 (0)))))])
  (.block 2
    (.loop [0, 7, 9, 10, 11, 12]
      (.seq
      (.seq
      (.region 0 [
        (none, .v 93 (.move (.t 12))),
        (none, .v 94 (.move (.t 9))),
        (none, .v 95 (.len false (.t 94))),
        (none, .v 96 (.cmp .lt (.t 93) (.t 95)))])
      (.cond (.t 96)
        .skip
        (.exit 2)))
      (.seq
      (.block 3
        (.seq
        (.region 0 [
          (none, .v 99 (.move (.t 9))),
          (none, .v 100 (.move (.t 12))),
          (none, .v 101 (.iadr none (.int .i64) (.t 99) (.t 100))),
          (none, .load 102 (.int .i64) (.t 101)),
          (none, .v 103 (.move (.t 12))),
          (none, .v 104 (.cmp .eq (.t 102) (.t 103)))])
        (.cond (.t 104)
          (.region 0 [
            (none, .v 105 (.move (.t 11))),
            (none, .v 106 (.add (.t 105) (.k (.int .i64 (1))))),
            (none, .v 11 (.move (.t 106)))])
          .skip)))
      (.region 0 [
        (none, .v 97 (.move (.t 12))),
        (none, .v 98 (.add (.t 97) (.k (.int .i64 (1))))),
        (none, .v 12 (.move (.t 98)))]))))))
  (.seq
  (.region 0 [
    (none, .v 107 (.move (.t 9))),
    (none, .v 108 (.move (.t 10))),
    (none, .callP (some 109) 23 [.t 107, .t 108] 0 0 true),
    (none, .v 110 (.move (.t 109))),
    (some (110, true), .v 111 (.move (.t 7))),
    (some (110, true), .v 112 (.len false (.t 111))),
    (some (110, true), .v 113 (.move (.t 11))),
    (some (110, true), .v 114 (.add (.t 112) (.t 113))),
    (some (110, true), .v 115 (.move (.t 0))),
    (some (110, true), .v 116 (.len false (.t 115))),
    (some (110, true), .v 117 (.cmp .eq (.t 114) (.t 116))),
    (none, .v 118 (.pick (.t 110) (.t 117) (.k (.bool false)))),
    (none, .v 119 (.move (.t 118))),
    (some (119, true), .callP (some 120) 17 [] 0 0 true),
    (none, .v 121 (.pick (.t 119) (.t 120) (.k (.bool false)))),
    (none, .v 4 (.move (.t 121)))])
  .ret))))))))))))
def nt_l16_SpanTree : Nat := 122
def rs_l16_SpanTree : List RV := [.tmp 4]
/-- pontage/pontagelaw16.SpanTurned -/
abbrev f_l16_SpanTurned : FuncId := 8
def ac_l16_SpanTurned : AC :=
  (.seq
  (.region 0 [
    (none, .v 6 (.move (.k (.bool false))))])
  (.seq
  (.region 0 [
    (none, .v 22 (.move (.t 0))),
    (none, .callP (some 23) 10 [.t 22] 0 0 true),
    (none, .v 0 (.move (.t 23)))])
  (.seq
  (.region 0 [
    (none, .v 24 (.move (.t 1))),
    (none, .callP (some 25) 11 [.t 24] 0 0 true),
    (none, .v 1 (.move (.t 25)))])
  (.seq
  (.region 1 [
    (none, .mk 7 0 T49 (.k (.sl T49 [] .full)))])
  (.seq
  (.seq
  (.region 0 [
    (none, .v 26 (.move (.t 1))),
    (none, .v 27 (.len false (.t 26))),
    (none, .v 28 (.sub (.t 27) (.k (.int .i64 (1))))),
    (none, .v 8 (.move (.t 28)))])
  (.block 0
    (.loop [0, 1, 2, 7, 8]
      (.seq
      (.seq
      (.region 0 [
        (none, .v 29 (.move (.t 8))),
        (none, .v 30 (.cmp .ge (.t 29) (.k (.int .i64 (0)))))])
      (.cond (.t 30)
        .skip
        (.exit 0)))
      (.seq
      (.block 1
        (.seq
        (.region 1 [
          (none, .v 33 (.move (.t 1))),
          (none, .v 34 (.move (.t 8))),
          (none, .v 35 (.iadr none T49 (.t 33) (.t 34))),
          (none, .load 36 T49 (.t 35)),
          (none, .alloc 9 0 T49),
          (none, .store T49 (.t 9) (.t 36))])
        (.seq
        (.seq
        (.region 0 [
          (none, .v 37 (.move (.t 2))),
          (none, .v 38 (.move (.t 8))),
          (none, .v 39 (.conv .u64 (.t 38))),
          (none, .v 40 (.shr (.t 37) (.t 39))),
          (none, .v 41 (.bit .and (.t 40) (.k (.int .u32 (1))))),
          (none, .v 42 (.cmp .eq (.t 41) (.k (.int .u32 (1)))))])
        (.cond (.t 42)
          (.region 0 [
            (none, .v 43 (.fadr T49 2 (.t 9))),
            (none, .load 44 (.int .i64) (.t 43)),
            (none, .v 45 (.fadr T49 3 (.t 9))),
            (none, .load 46 (.int .i64) (.t 45)),
            (none, .v 47 (.fadr T49 0 (.t 9))),
            (none, .load 48 (.int .i64) (.t 47)),
            (none, .v 49 (.fadr T49 1 (.t 9))),
            (none, .load 50 (.int .i64) (.t 49)),
            (none, .v 51 (.fadr T49 5 (.t 9))),
            (none, .load 52 (.int .u32) (.t 51)),
            (none, .v 53 (.fadr T49 4 (.t 9))),
            (none, .load 54 (.int .u32) (.t 53)),
            (none, .v 55 (.build T49 [(0, .t 44), (1, .t 46), (2, .t 48), (3, .t 50), (4, .t 52), (5, .t 54)])),
            (none, .store T49 (.t 9) (.t 55))])
          .skip))
        (.region 2 [
          (none, .v 56 (.move (.t 7))),
          (none, .load 57 T49 (.t 9)),
          (none, .lit 58 0 T49 1 [(0, .t 57)] false),
          (none, .app 59 1 T49 40 (.t 56) (.t 58) false),
          (none, .v 7 (.move (.t 59)))]))))
      (.region 0 [
        (none, .v 31 (.move (.t 8))),
        (none, .v 32 (.sub (.t 31) (.k (.int .i64 (1))))),
        (none, .v 8 (.move (.t 32)))]))))))
  (.seq
  (.region 1 [
    (none, .v 61 (.move (.t 0))),
    (none, .v 62 (.move (.t 1))),
    (none, .callP (some 63) 12 [.t 61, .t 62] 0 1 true),
    (none, .v 60 (.move (.t 63))),
    (none, .v 64 (.ext (.t 60) 0)),
    (none, .v 65 (.ext (.t 60) 1)),
    (none, .v 10 (.move (.t 64))),
    (none, .v 11 (.move (.t 65)))])
  (.seq
  (.region 1 [
    (none, .v 67 (.move (.t 0))),
    (none, .v 68 (.move (.t 7))),
    (none, .callP (some 69) 12 [.t 67, .t 68] 0 1 true),
    (none, .v 66 (.move (.t 69))),
    (none, .v 70 (.ext (.t 66) 0)),
    (none, .v 71 (.ext (.t 66) 1)),
    (none, .v 12 (.move (.t 70))),
    (none, .v 13 (.move (.t 71)))])
  (.seq
  (.region 1 [
    (none, .v 73 (.move (.t 0))),
    (none, .v 74 (.move (.t 1))),
    (none, .callP (some 75) 18 [.t 73, .t 74] 0 1 true),
    (none, .v 72 (.move (.t 75))),
    (none, .v 76 (.ext (.t 72) 0)),
    (none, .v 77 (.ext (.t 72) 1)),
    (none, .v 14 (.move (.t 76))),
    (none, .v 15 (.move (.t 77)))])
  (.seq
  (.region 1 [
    (none, .v 79 (.move (.t 0))),
    (none, .v 80 (.move (.t 7))),
    (none, .callP (some 81) 18 [.t 79, .t 80] 0 1 true),
    (none, .v 78 (.move (.t 81))),
    (none, .v 82 (.ext (.t 78) 0)),
    (none, .v 83 (.ext (.t 78) 1)),
    (none, .v 16 (.move (.t 82))),
    (none, .v 17 (.move (.t 83)))])
  (.seq
  (.seq
  (.region 0 [
    (none, .v 84 (.move (.t 11))),
    (none, .v 85 (.move (.t 13))),
    (none, .v 86 (.cmp .ne (.t 84) (.t 85))),
    (none, .v 87 (.move (.t 86))),
    (some (87, false), .v 88 (.move (.t 15))),
    (some (87, false), .v 89 (.move (.t 17))),
    (some (87, false), .v 90 (.cmp .ne (.t 88) (.t 89))),
    (none, .v 91 (.pick (.t 87) (.k (.bool true)) (.t 90))),
    (none, .v 92 (.move (.t 91))),
    (some (92, false), .v 93 (.move (.t 10))),
    (some (92, false), .v 94 (.len false (.t 93))),
    (some (92, false), .v 95 (.move (.t 12))),
    (some (92, false), .v 96 (.len false (.t 95))),
    (some (92, false), .v 97 (.cmp .ne (.t 94) (.t 96))),
    (none, .v 98 (.pick (.t 92) (.k (.bool true)) (.t 97))),
    (none, .v 99 (.move (.t 98))),
    (some (99, false), .v 100 (.move (.t 14))),
    (some (99, false), .v 101 (.len false (.t 100))),
    (some (99, false), .v 102 (.move (.t 16))),
    (some (99, false), .v 103 (.len false (.t 102))),
    (some (99, false), .v 104 (.cmp .ne (.t 101) (.t 103))),
    (none, .v 105 (.pick (.t 99) (.k (.bool true)) (.t 104)))])
  (.cond (.t 105)
    (.seq
    (.region 0 [
      (none, .v 6 (.move (.k (.bool false))))])
    .ret)
    .skip))
  (.seq
  (.seq
  (.region 0 [
    (none, .v 18 (.move (.k (.int .i64 (0)))))])
  (.block 2
    (.loop [10, 12, 14, 16, 18]
      (.seq
      (.seq
      (.region 0 [
        (none, .v 106 (.move (.t 18))),
        (none, .v 107 (.move (.t 10))),
        (none, .v 108 (.len false (.t 107))),
        (none, .v 109 (.cmp .lt (.t 106) (.t 108)))])
      (.cond (.t 109)
        .skip
        (.exit 2)))
      (.seq
      (.block 3
        (.seq
        (.draw 0 [[], [], [], [], [], [], [], []] [
          (none, .v 112 (.move (.t 10))),
          (none, .v 113 (.move (.t 18))),
          (none, .v 114 (.iadr none T59 (.t 112) (.t 113))),
          (none, .load 115 T59 (.t 114)),
          (none, .v 116 (.move (.t 12))),
          (none, .v 117 (.move (.t 18))),
          (none, .v 118 (.iadr none T59 (.t 116) (.t 117))),
          (none, .load 119 T59 (.t 118))] [
          (none, .v 120 (.eqT T59 true (.t 115) (.t 119)))])
        (.cond (.t 120)
          (.seq
          (.region 0 [
            (none, .v 6 (.move (.k (.bool false))))])
          .ret)
          .skip)))
      (.region 0 [
        (none, .v 110 (.move (.t 18))),
        (none, .v 111 (.add (.t 110) (.k (.int .i64 (1))))),
        (none, .v 18 (.move (.t 111)))]))))))
  (.seq
  (.seq
  (.region 0 [
    (none, .v 19 (.move (.k (.int .i64 (0)))))])
  (.block 4
    (.loop [14, 16, 19]
      (.seq
      (.seq
      (.region 0 [
        (none, .v 121 (.move (.t 19))),
        (none, .v 122 (.move (.t 14))),
        (none, .v 123 (.len false (.t 122))),
        (none, .v 124 (.cmp .lt (.t 121) (.t 123)))])
      (.cond (.t 124)
        .skip
        (.exit 4)))
      (.seq
      (.block 5
        (.seq
        (.region 0 [
          (none, .v 20 (.move (.k (.bool false))))])
        (.seq
        (.seq
        (.region 0 [
          (none, .v 21 (.move (.k (.int .i64 (0)))))])
        (.block 6
          (.loop [14, 16, 19, 20, 21]
            (.seq
            (.seq
            (.region 0 [
              (none, .v 127 (.move (.t 21))),
              (none, .v 128 (.move (.t 16))),
              (none, .v 129 (.len false (.t 128))),
              (none, .v 130 (.cmp .lt (.t 127) (.t 129)))])
            (.cond (.t 130)
              .skip
              (.exit 6)))
            (.seq
            (.block 7
              (.draw 0 [[], [], [], [], [], [], [], [], [], []] [
                (none, .v 133 (.move (.t 20))),
                (none, .v 134 (.move (.t 133))),
                (some (134, false), .v 135 (.move (.t 14))),
                (some (134, false), .v 136 (.move (.t 19))),
                (some (134, false), .v 137 (.iadr none T57 (.t 135) (.t 136))),
                (some (134, false), .load 138 T57 (.t 137)),
                (some (134, false), .v 139 (.move (.t 16))),
                (some (134, false), .v 140 (.move (.t 21))),
                (some (134, false), .v 141 (.iadr none T57 (.t 139) (.t 140))),
                (some (134, false), .load 142 T57 (.t 141))] [
                (some (134, false), .v 143 (.eqT T57 false (.t 138) (.t 142))),
                (none, .v 144 (.pick (.t 134) (.k (.bool true)) (.t 143))),
                (none, .v 20 (.move (.t 144)))]))
            (.region 0 [
              (none, .v 131 (.move (.t 21))),
              (none, .v 132 (.add (.t 131) (.k (.int .i64 (1))))),
              (none, .v 21 (.move (.t 132)))]))))))
        (.seq
        (.region 0 [
          (none, .v 145 (.move (.t 20))),
          (none, .v 146 (.not (.t 145)))])
        (.cond (.t 146)
          (.seq
          (.region 0 [
            (none, .v 6 (.move (.k (.bool false))))])
          .ret)
          .skip)))))
      (.region 0 [
        (none, .v 125 (.move (.t 19))),
        (none, .v 126 (.add (.t 125) (.k (.int .i64 (1))))),
        (none, .v 19 (.move (.t 126)))]))))))
  (.seq
  (.region 0 [
    (none, .callP (some 147) 17 [] 0 0 true),
    (none, .v 6 (.move (.t 147)))])
  .ret)))))))))))))
def nt_l16_SpanTurned : Nat := 148
def rs_l16_SpanTurned : List RV := [.tmp 6]
/-- pontage/pontagelaw16.short -/
abbrev f_l16_short : FuncId := 10
def ac_l16_short : AC :=
  (.seq
  (.region 0 [
    (none, .v 2 (.move (.k (.sl (.int .u64) [] .full))))])
  (.seq
  (.seq
  (.region 0 [
    (none, .v 3 (.move (.t 0))),
    (none, .v 4 (.len false (.t 3))),
    (none, .v 5 (.cmp .gt (.t 4) (.k (.int .i64 (9)))))])
  (.cond (.t 5)
    (.seq
    (.region 0 [
      (none, .v 6 (.move (.t 0))),
      (none, .v 7 (.slice (.int .u64) (.t 6) none (some (.k (.int .i64 (9)))) none)),
      (none, .v 2 (.move (.t 7)))])
    .ret)
    .skip))
  (.seq
  (.region 0 [
    (none, .v 8 (.move (.t 0))),
    (none, .v 2 (.move (.t 8)))])
  .ret)))
def nt_l16_short : Nat := 9
def rs_l16_short : List RV := [.tmp 2]
/-- pontage/pontagelaw16.few -/
abbrev f_l16_few : FuncId := 11
def ac_l16_few : AC :=
  (.seq
  (.region 0 [
    (none, .v 2 (.move (.k (.sl T49 [] .full))))])
  (.seq
  (.seq
  (.region 0 [
    (none, .v 3 (.move (.t 0))),
    (none, .v 4 (.len false (.t 3))),
    (none, .v 5 (.cmp .gt (.t 4) (.k (.int .i64 (26)))))])
  (.cond (.t 5)
    (.seq
    (.region 0 [
      (none, .v 6 (.move (.t 0))),
      (none, .v 7 (.slice T49 (.t 6) none (some (.k (.int .i64 (26)))) none)),
      (none, .v 2 (.move (.t 7)))])
    .ret)
    .skip))
  (.seq
  (.region 0 [
    (none, .v 8 (.move (.t 0))),
    (none, .v 2 (.move (.t 8)))])
  .ret)))
def nt_l16_few : Nat := 9
def rs_l16_few : List RV := [.tmp 2]
/-- pontage/span.Nodes -/
abbrev f_span_Nodes : FuncId := 12
def ac_span_Nodes : AC :=
  (.seq
  (.region 0 [
    (none, .v 4 (.move (.k (.sl T59 [] .full)))),
    (none, .v 5 (.move (.k (.int .i64 (0)))))])
  (.seq
  (.seq
  (.region 0 [
    (none, .v 17 (.move (.t 0))),
    (none, .v 18 (.move (.t 1))),
    (none, .callP (some 19) 14 [.t 17, .t 18] 0 0 true),
    (none, .v 6 (.move (.t 19)))])
  (.seq
  (.region 0 [
    (none, .v 20 (.move (.t 6))),
    (none, .v 21 (.cmp .ne (.t 20) (.k (.int .i64 (0)))))])
  (.cond (.t 21)
    (.seq
    (.region 0 [
      (none, .v 22 (.move (.t 6))),
      (none, .v 4 (.move (.k (.sl T59 [] .full)))),
      (none, .v 5 (.move (.t 22)))])
    .ret)
    .skip)))
  (.seq
  (.region 1 [
    (none, .mk 7 500 T59 (.k (.sl T59 [] .full)))])
  (.seq
  (.seq
  (.region 0 [
    (none, .v 23 (.move (.t 0))),
    (none, .v 24 (.len false (.t 23))),
    (none, .v 25 (.move (.k (.int .i64 (0)))))])
  (.block 0
    (.loop [0, 1, 7, 23, 24, 25]
      (.seq
      (.region 0 [
        (none, .v 26 (.cmp .lt (.t 25) (.t 24)))])
      (.seq
      (.cond (.t 26)
        .skip
        (.exit 0))
      (.seq
      (.block 1
        (.seq
        (.region 0 [
          (none, .v 27 (.iadr none (.int .u64) (.t 23) (.t 25))),
          (none, .load 28 (.int .u64) (.t 27)),
          (none, .v 9 (.move (.t 28)))])
        (.region 2 [
          (none, .v 29 (.move (.t 7))),
          (none, .v 30 (.move (.t 9))),
          (none, .v 31 (.build T59 [(0, .t 30), (2, .k (.int .i64 (-1)))])),
          (none, .lit 32 0 T59 1 [(0, .t 31)] false),
          (none, .app 33 1 T59 24 (.t 29) (.t 32) false),
          (none, .v 7 (.move (.t 33)))])))
      (.region 0 [
        (none, .v 34 (.add (.t 25) (.k (.int .i64 (1))))),
        (none, .v 25 (.move (.t 34)))])))))))
  (.seq
  (.tregion 7 0 [
    (none, .v 10 (.move (.k (.fn 28 []))))])
  (.seq
  .skip
  (.seq
  (.block 2
    (.loop [0, 1, 7, 10]
      (.block 3
        (.seq
        (.seq
        (.region 0 [
          (none, .v 35 (.move (.t 1))),
          (none, .v 36 (.len false (.t 35))),
          (none, .v 37 (.move (.k (.int .i64 (0)))))])
        (.block 4
          (.loop [0, 1, 7, 10, 35, 36, 37]
            (.seq
            (.region 0 [
              (none, .v 38 (.cmp .lt (.t 37) (.t 36)))])
            (.seq
            (.cond (.t 38)
              .skip
              (.exit 4))
            (.seq
            (.block 5
              (.seq
              (.region 1 [
                (none, .v 39 (.iadr none T49 (.t 35) (.t 37))),
                (none, .load 40 T49 (.t 39)),
                (none, .alloc 12 0 T49),
                (none, .store T49 (.t 12) (.t 40))])
              (.seq
              (.region 0 [
                (none, .load 41 T49 (.t 12)),
                (none, .callP (some 42) 29 [.t 41] 0 0 true),
                (none, .v 43 (.move (.k (.int .i64 (0)))))])
              (.block 6
                (.loop [0, 1, 7, 10, 35, 36, 37, 42, 43]
                  (.seq
                  (.region 0 [
                    (none, .v 44 (.cmp .lt (.t 43) (.k (.int .i64 (2)))))])
                  (.seq
                  (.cond (.t 44)
                    .skip
                    (.exit 6))
                  (.seq
                  (.block 7
                    (.seq
                    (.region 1 [
                      (none, .v 45 (.aidx 2 T72 (.t 42) (.t 43))),
                      (none, .alloc 14 0 T72),
                      (none, .store T72 (.t 14) (.t 45))])
                    (.seq
                    (.draw 1 [[], [], [], [], [], [], [], [], [], [], [], [], [], [], [], [], [], [], []] [
                      (none, .v 46 (.move (.t 7))),
                      (none, .v 47 (.fadr T72 2 (.t 14))),
                      (none, .v 48 (.fadr T70 0 (.t 47))),
                      (none, .load 49 (.int .i64) (.t 48)),
                      (none, .v 50 (.iadr none T59 (.t 46) (.t 49))),
                      (none, .v 51 (.fadr T59 0 (.t 50))),
                      (none, .load 52 (.int .u64) (.t 51)),
                      (none, .v 53 (.move (.t 7))),
                      (none, .v 54 (.fadr T72 2 (.t 14))),
                      (none, .v 55 (.fadr T70 0 (.t 54))),
                      (none, .load 56 (.int .i64) (.t 55)),
                      (none, .v 57 (.iadr none T59 (.t 53) (.t 56))),
                      (none, .v 58 (.fadr T59 1 (.t 57))),
                      (none, .load 59 (.int .u32) (.t 58)),
                      (none, .v 60 (.fadr T72 1 (.t 14))),
                      (none, .load 61 (.int .u32) (.t 60)),
                      (none, .v 62 (.add (.t 59) (.t 61))),
                      (none, .v 63 (.build T59 [(0, .t 52), (1, .t 62), (2, .k (.int .i64 (-1)))])),
                      (none, .alloc 15 0 T59)] [
                      (none, .store T59 (.t 15) (.t 63))])
                    (.seq
                    (.draw 0 [[], [], [], [], [], [], [], []] [
                      (none, .v 64 (.move (.t 10))),
                      (none, .load 65 T59 (.t 15)),
                      (none, .v 66 (.move (.t 7))),
                      (none, .v 67 (.fadr T72 0 (.t 14))),
                      (none, .v 68 (.fadr T70 0 (.t 67))),
                      (none, .load 69 (.int .i64) (.t 68)),
                      (none, .v 70 (.iadr none T59 (.t 66) (.t 69))),
                      (none, .load 71 T59 (.t 70))] [
                      (none, .callS (some 72) (.t 64) [.t 65, .t 71] [] [28])])
                    (.cond (.t 72)
                      (.seq
                      (.region 0 [
                        (none, .v 73 (.move (.t 7))),
                        (none, .v 74 (.fadr T72 0 (.t 14))),
                        (none, .v 75 (.fadr T70 0 (.t 74))),
                        (none, .load 76 (.int .i64) (.t 75)),
                        (none, .load 77 T59 (.t 15)),
                        (none, .v 78 (.iadr none T59 (.t 73) (.t 76))),
                        (none, .store T59 (.t 78) (.t 77))])
                      (.exit 3))
                      .skip)))))
                  (.region 0 [
                    (none, .v 79 (.add (.t 43) (.k (.int .i64 (1))))),
                    (none, .v 43 (.move (.t 79)))])))))))))
            (.region 0 [
              (none, .v 80 (.add (.t 37) (.k (.int .i64 (1))))),
              (none, .v 37 (.move (.t 80)))])))))))
        (.exit 2)))))
  (.seq
  (.seq
  (.region 0 [
    (none, .v 81 (.move (.t 7))),
    (none, .v 82 (.len false (.t 81))),
    (none, .v 83 (.move (.k (.int .i64 (0)))))])
  (.block 8
    (.loop [0, 1, 7, 82, 83]
      (.seq
      (.region 0 [
        (none, .v 84 (.cmp .lt (.t 83) (.t 82)))])
      (.seq
      (.cond (.t 84)
        .skip
        (.exit 8))
      (.seq
      (.block 9
        (.seq
        (.region 0 [
          (none, .v 85 (.move (.t 83))),
          (none, .v 16 (.move (.t 85)))])
        (.seq
        (.draw 0 [[], [], [], [], [], [], [], [], []] [
          (none, .v 86 (.move (.t 7))),
          (none, .v 87 (.move (.t 16))),
          (none, .v 88 (.iadr none T59 (.t 86) (.t 87))),
          (none, .v 89 (.fadr T59 0 (.t 88))),
          (none, .load 90 (.int .u64) (.t 89)),
          (none, .v 91 (.move (.t 0))),
          (none, .v 92 (.move (.t 16))),
          (none, .v 93 (.iadr none (.int .u64) (.t 91) (.t 92))),
          (none, .load 94 (.int .u64) (.t 93))] [
          (none, .v 95 (.cmp .ne (.t 90) (.t 94)))])
        (.cond (.t 95)
          (.region 0 [
            (none, .v 96 (.move (.t 7))),
            (none, .v 97 (.move (.t 16))),
            (none, .v 98 (.move (.t 0))),
            (none, .v 99 (.move (.t 1))),
            (none, .v 100 (.move (.t 7))),
            (none, .v 101 (.move (.t 16))),
            (none, .callP (some 102) 30 [.t 98, .t 99, .t 100, .t 101] 0 0 false),
            (none, .v 103 (.iadr none T59 (.t 96) (.t 97))),
            (none, .v 104 (.fadr T59 2 (.t 103))),
            (none, .store (.int .i64) (.t 104) (.t 102))])
          .skip))))
      (.region 0 [
        (none, .v 105 (.add (.t 83) (.k (.int .i64 (1))))),
        (none, .v 83 (.move (.t 105)))])))))))
  (.seq
  (.region 0 [
    (none, .close 106 (.t 7)),
    (none, .v 4 (.move (.t 106))),
    (none, .v 5 (.move (.k (.int .i64 (0)))))])
  .ret)))))))))
def nt_span_Nodes : Nat := 107
def rs_span_Nodes : List RV := [.tmp 4, .tmp 5]
/-- pontage/span.Check -/
abbrev f_span_Check : FuncId := 14
def ac_span_Check : AC :=
  (.seq
  (.region 0 [
    (none, .v 4 (.move (.k (.int .i64 (0)))))])
  (.seq
  (.seq
  (.region 0 [
    (none, .v 16 (.move (.t 0))),
    (none, .v 17 (.len false (.t 16))),
    (none, .callP (some 18) 34 [.t 17, .k (.int .i64 (1)), .k (.int .i64 (7))] 0 0 true),
    (none, .v 19 (.not (.t 18))),
    (none, .v 20 (.move (.t 19))),
    (some (20, false), .v 21 (.move (.t 1))),
    (some (20, false), .v 22 (.len false (.t 21))),
    (some (20, false), .v 23 (.cmp .gt (.t 22) (.k (.int .i64 (24))))),
    (none, .v 24 (.pick (.t 20) (.k (.bool true)) (.t 23)))])
  (.cond (.t 24)
    (.seq
    (.region 0 [
      (none, .v 4 (.move (.k (.int .i64 (160)))))])
    .ret)
    .skip))
  (.seq
  (.seq
  (.region 0 [
    (none, .v 25 (.move (.t 0))),
    (none, .v 26 (.len false (.t 25))),
    (none, .v 27 (.move (.k (.int .i64 (0)))))])
  (.block 0
    (.loop [0, 1, 25, 26, 27]
      (.seq
      (.region 0 [
        (none, .v 28 (.cmp .lt (.t 27) (.t 26)))])
      (.seq
      (.cond (.t 28)
        .skip
        (.exit 0))
      (.seq
      (.block 1
        (.seq
        (.region 0 [
          (none, .v 29 (.move (.t 27))),
          (none, .v 30 (.iadr none (.int .u64) (.t 25) (.t 27))),
          (none, .load 31 (.int .u64) (.t 30)),
          (none, .v 5 (.move (.t 29))),
          (none, .v 6 (.move (.t 31)))])
        (.seq
        (.region 0 [
          (none, .v 32 (.move (.t 0))),
          (none, .v 33 (.move (.t 5))),
          (none, .v 34 (.slice (.int .u64) (.t 32) none (some (.t 33)) none)),
          (none, .v 35 (.len false (.t 34))),
          (none, .v 36 (.move (.k (.int .i64 (0)))))])
        (.block 2
          (.loop [0, 1, 6, 25, 26, 27, 34, 35, 36]
            (.seq
            (.region 0 [
              (none, .v 37 (.cmp .lt (.t 36) (.t 35)))])
            (.seq
            (.cond (.t 37)
              .skip
              (.exit 2))
            (.seq
            (.block 3
              (.seq
              (.region 0 [
                (none, .v 38 (.iadr none (.int .u64) (.t 34) (.t 36))),
                (none, .load 39 (.int .u64) (.t 38)),
                (none, .v 8 (.move (.t 39)))])
              (.seq
              (.region 0 [
                (none, .v 40 (.move (.t 6))),
                (none, .callP (some 41) 35 [.t 40] 0 0 true),
                (none, .v 42 (.move (.t 8))),
                (none, .callP (some 43) 35 [.t 42] 0 0 true),
                (none, .v 44 (.eqT T83 false (.t 41) (.t 43)))])
              (.cond (.t 44)
                (.seq
                (.region 0 [
                  (none, .v 4 (.move (.k (.int .i64 (160)))))])
                .ret)
                .skip))))
            (.region 0 [
              (none, .v 45 (.add (.t 36) (.k (.int .i64 (1))))),
              (none, .v 36 (.move (.t 45)))])))))))))
      (.region 0 [
        (none, .v 46 (.add (.t 27) (.k (.int .i64 (1))))),
        (none, .v 27 (.move (.t 46)))])))))))
  (.seq
  (.region 1 [
    (none, .mk 9 0 T70 (.k (.sl T70 [] .full)))])
  (.seq
  (.seq
  (.region 0 [
    (none, .v 47 (.move (.t 1))),
    (none, .v 48 (.len false (.t 47))),
    (none, .v 49 (.move (.k (.int .i64 (0)))))])
  (.block 4
    (.loop [0, 9, 47, 48, 49]
      (.seq
      (.region 0 [
        (none, .v 50 (.cmp .lt (.t 49) (.t 48)))])
      (.seq
      (.cond (.t 50)
        .skip
        (.exit 4))
      (.seq
      (.block 5
        (.seq
        (.region 1 [
          (none, .v 51 (.iadr none T49 (.t 47) (.t 49))),
          (none, .load 52 T49 (.t 51)),
          (none, .alloc 11 0 T49),
          (none, .store T49 (.t 11) (.t 52))])
        (.seq
        (.seq
        (.region 0 [
          (none, .v 53 (.fadr T49 0 (.t 11))),
          (none, .load 54 (.int .i64) (.t 53)),
          (none, .v 55 (.fadr T49 2 (.t 11))),
          (none, .load 56 (.int .i64) (.t 55)),
          (none, .v 57 (.cmp .eq (.t 54) (.t 56)))])
        (.cond (.t 57)
          (.seq
          (.region 0 [
            (none, .v 4 (.move (.k (.int .i64 (160)))))])
          .ret)
          .skip))
        (.seq
        (.region 0 [
          (none, .load 58 T49 (.t 11)),
          (none, .callP (some 59) 29 [.t 58] 0 0 true),
          (none, .v 60 (.move (.k (.int .i64 (0)))))])
        (.block 6
          (.loop [0, 9, 47, 48, 49, 59, 60]
            (.seq
            (.region 0 [
              (none, .v 61 (.cmp .lt (.t 60) (.k (.int .i64 (2)))))])
            (.seq
            (.cond (.t 61)
              .skip
              (.exit 6))
            (.seq
            (.block 7
              (.seq
              (.region 1 [
                (none, .v 62 (.aidx 2 T72 (.t 59) (.t 60))),
                (none, .alloc 13 0 T72),
                (none, .store T72 (.t 13) (.t 62))])
              (.seq
              (.seq
              (.region 0 [
                (none, .v 63 (.fadr T72 0 (.t 13))),
                (none, .v 64 (.fadr T70 0 (.t 63))),
                (none, .load 65 (.int .i64) (.t 64)),
                (none, .v 66 (.move (.t 0))),
                (none, .v 67 (.len false (.t 66))),
                (none, .v 68 (.sub (.t 67) (.k (.int .i64 (1))))),
                (none, .callP (some 69) 34 [.t 65, .k (.int .i64 (0)), .t 68] 0 0 true),
                (none, .v 70 (.not (.t 69))),
                (none, .v 71 (.move (.t 70))),
                (some (71, false), .v 72 (.fadr T72 0 (.t 13))),
                (some (71, false), .v 73 (.fadr T70 1 (.t 72))),
                (some (71, false), .load 74 (.int .i64) (.t 73)),
                (some (71, false), .callP (some 75) 34 [.t 74, .k (.int .i64 (0)), .k (.int .i64 (7))] 0 0 true),
                (some (71, false), .v 76 (.not (.t 75))),
                (none, .v 77 (.pick (.t 71) (.k (.bool true)) (.t 76))),
                (none, .v 78 (.move (.t 77))),
                (some (78, false), .v 79 (.fadr T72 1 (.t 13))),
                (some (78, false), .load 80 (.int .u32) (.t 79)),
                (some (78, false), .v 81 (.cmp .lt (.t 80) (.k (.int .u32 (1))))),
                (none, .v 82 (.pick (.t 78) (.k (.bool true)) (.t 81))),
                (none, .v 83 (.move (.t 82))),
                (some (83, false), .v 84 (.fadr T72 1 (.t 13))),
                (some (83, false), .load 85 (.int .u32) (.t 84)),
                (some (83, false), .v 86 (.cmp .gt (.t 85) (.k (.int .u32 (200000000))))),
                (none, .v 87 (.pick (.t 83) (.k (.bool true)) (.t 86)))])
              (.cond (.t 87)
                (.seq
                (.region 0 [
                  (none, .v 4 (.move (.k (.int .i64 (160)))))])
                .ret)
                .skip))
              (.seq
              (.seq
              (.region 0 [
                (none, .v 88 (.move (.t 9))),
                (none, .v 89 (.len false (.t 88))),
                (none, .v 90 (.move (.k (.int .i64 (0)))))])
              (.block 8
                (.loop [0, 9, 13, 47, 48, 49, 59, 60, 88, 89, 90]
                  (.seq
                  (.region 0 [
                    (none, .v 91 (.cmp .lt (.t 90) (.t 89)))])
                  (.seq
                  (.cond (.t 91)
                    .skip
                    (.exit 8))
                  (.seq
                  (.block 9
                    (.seq
                    (.region 1 [
                      (none, .v 92 (.iadr none T70 (.t 88) (.t 90))),
                      (none, .load 93 T70 (.t 92)),
                      (none, .alloc 15 0 T70),
                      (none, .store T70 (.t 15) (.t 93))])
                    (.seq
                    (.region 0 [
                      (none, .load 94 T70 (.t 15)),
                      (none, .v 95 (.fadr T72 0 (.t 13))),
                      (none, .load 96 T70 (.t 95)),
                      (none, .v 97 (.eqT T70 false (.t 94) (.t 96)))])
                    (.cond (.t 97)
                      (.seq
                      (.region 0 [
                        (none, .v 4 (.move (.k (.int .i64 (160)))))])
                      .ret)
                      .skip))))
                  (.region 0 [
                    (none, .v 98 (.add (.t 90) (.k (.int .i64 (1))))),
                    (none, .v 90 (.move (.t 98)))])))))))
              (.region 2 [
                (none, .v 99 (.move (.t 9))),
                (none, .v 100 (.fadr T72 0 (.t 13))),
                (none, .load 101 T70 (.t 100)),
                (none, .lit 102 0 T70 1 [(0, .t 101)] false),
                (none, .app 103 1 T70 16 (.t 99) (.t 102) false),
                (none, .v 9 (.move (.t 103)))])))))
            (.region 0 [
              (none, .v 104 (.add (.t 60) (.k (.int .i64 (1))))),
              (none, .v 60 (.move (.t 104)))]))))))))))
      (.region 0 [
        (none, .v 105 (.add (.t 49) (.k (.int .i64 (1))))),
        (none, .v 49 (.move (.t 105)))])))))))
  (.seq
  (.region 0 [
    (none, .v 4 (.move (.k (.int .i64 (0)))))])
  .ret))))))
def nt_span_Check : Nat := 106
def rs_span_Check : List RV := [.tmp 4]
/-- pontage/pontageref16.Check -/
abbrev f_r16_Check : FuncId := 15
def ac_r16_Check : AC :=
  (.seq
  (.region 0 [
    (none, .v 4 (.move (.k (.int .i64 (0)))))])
  (.seq
  (.seq
  (.region 0 [
    (none, .v 11 (.move (.t 0))),
    (none, .v 12 (.len false (.t 11))),
    (none, .v 13 (.cmp .lt (.t 12) (.k (.int .i64 (1))))),
    (none, .v 14 (.move (.t 13))),
    (some (14, false), .v 15 (.move (.t 0))),
    (some (14, false), .v 16 (.len false (.t 15))),
    (some (14, false), .v 17 (.cmp .gt (.t 16) (.k (.int .i64 (7))))),
    (none, .v 18 (.pick (.t 14) (.k (.bool true)) (.t 17))),
    (none, .v 19 (.move (.t 18))),
    (some (19, false), .v 20 (.move (.t 1))),
    (some (19, false), .v 21 (.len false (.t 20))),
    (some (19, false), .v 22 (.cmp .gt (.t 21) (.k (.int .i64 (24))))),
    (none, .v 23 (.pick (.t 19) (.k (.bool true)) (.t 22)))])
  (.cond (.t 23)
    (.seq
    (.region 0 [
      (none, .v 4 (.move (.k (.int .i64 (160)))))])
    .ret)
    .skip))
  (.seq
  (.seq
  (.region 0 [
    (none, .v 5 (.move (.k (.int .i64 (0)))))])
  (.block 0
    (.loop [0, 1, 5]
      (.seq
      (.seq
      (.region 0 [
        (none, .v 24 (.move (.t 5))),
        (none, .v 25 (.move (.t 0))),
        (none, .v 26 (.len false (.t 25))),
        (none, .v 27 (.cmp .lt (.t 24) (.t 26)))])
      (.cond (.t 27)
        .skip
        (.exit 0)))
      (.seq
      (.block 1
        (.seq
        (.region 0 [
          (none, .v 6 (.move (.k (.int .i64 (0)))))])
        (.block 2
          (.loop [0, 1, 5, 6]
            (.seq
            (.seq
            (.region 0 [
              (none, .v 30 (.move (.t 6))),
              (none, .v 31 (.move (.t 5))),
              (none, .v 32 (.cmp .lt (.t 30) (.t 31)))])
            (.cond (.t 32)
              .skip
              (.exit 2)))
            (.seq
            (.block 3
              (.seq
              (.draw 0 [[], [], [], [], [], [], [], []] [
                (none, .v 35 (.move (.t 0))),
                (none, .v 36 (.move (.t 5))),
                (none, .v 37 (.iadr none (.int .u64) (.t 35) (.t 36))),
                (none, .load 38 (.int .u64) (.t 37)),
                (none, .v 39 (.move (.t 0))),
                (none, .v 40 (.move (.t 6))),
                (none, .v 41 (.iadr none (.int .u64) (.t 39) (.t 40))),
                (none, .load 42 (.int .u64) (.t 41))] [
                (none, .callP (some 43) 36 [.t 38, .t 42] 0 0 true)])
              (.cond (.t 43)
                (.seq
                (.region 0 [
                  (none, .v 4 (.move (.k (.int .i64 (160)))))])
                .ret)
                .skip)))
            (.region 0 [
              (none, .v 33 (.move (.t 6))),
              (none, .v 34 (.add (.t 33) (.k (.int .i64 (1))))),
              (none, .v 6 (.move (.t 34)))])))))))
      (.region 0 [
        (none, .v 28 (.move (.t 5))),
        (none, .v 29 (.add (.t 28) (.k (.int .i64 (1))))),
        (none, .v 5 (.move (.t 29)))]))))))
  (.seq
  (.region 1 [
    (none, .v 44 (.move (.t 1))),
    (none, .callP (some 45) 25 [.t 44] 0 1 true),
    (none, .v 7 (.move (.t 45)))])
  (.seq
  (.seq
  (.region 0 [
    (none, .v 8 (.move (.k (.int .i64 (0)))))])
  (.block 4
    (.loop [0, 7, 8]
      (.seq
      (.seq
      (.region 0 [
        (none, .v 46 (.move (.t 8))),
        (none, .v 47 (.move (.t 7))),
        (none, .v 48 (.len false (.t 47))),
        (none, .v 49 (.cmp .lt (.t 46) (.t 48)))])
      (.cond (.t 49)
        .skip
        (.exit 4)))
      (.seq
      (.block 5
        (.seq
        (.region 1 [
          (none, .v 52 (.move (.t 7))),
          (none, .v 53 (.move (.t 8))),
          (none, .v 54 (.iadr none T63 (.t 52) (.t 53))),
          (none, .load 55 T63 (.t 54)),
          (none, .alloc 9 0 T63),
          (none, .store T63 (.t 9) (.t 55))])
        (.seq
        (.seq
        (.region 0 [
          (none, .v 56 (.fadr T63 0 (.t 9))),
          (none, .load 57 (.int .i64) (.t 56)),
          (none, .v 58 (.cmp .lt (.t 57) (.k (.int .i64 (0))))),
          (none, .v 59 (.move (.t 58))),
          (some (59, false), .v 60 (.fadr T63 0 (.t 9))),
          (some (59, false), .load 61 (.int .i64) (.t 60)),
          (some (59, false), .v 62 (.move (.t 0))),
          (some (59, false), .v 63 (.len false (.t 62))),
          (some (59, false), .v 64 (.cmp .ge (.t 61) (.t 63))),
          (none, .v 65 (.pick (.t 59) (.k (.bool true)) (.t 64))),
          (none, .v 66 (.move (.t 65))),
          (some (66, false), .v 67 (.fadr T63 0 (.t 9))),
          (some (66, false), .load 68 (.int .i64) (.t 67)),
          (some (66, false), .v 69 (.fadr T63 3 (.t 9))),
          (some (66, false), .load 70 (.int .i64) (.t 69)),
          (some (66, false), .v 71 (.cmp .eq (.t 68) (.t 70))),
          (none, .v 72 (.pick (.t 66) (.k (.bool true)) (.t 71))),
          (none, .v 73 (.move (.t 72))),
          (some (73, false), .v 74 (.fadr T63 1 (.t 9))),
          (some (73, false), .load 75 (.int .i64) (.t 74)),
          (some (73, false), .v 76 (.cmp .lt (.t 75) (.k (.int .i64 (0))))),
          (none, .v 77 (.pick (.t 73) (.k (.bool true)) (.t 76))),
          (none, .v 78 (.move (.t 77))),
          (some (78, false), .v 79 (.fadr T63 1 (.t 9))),
          (some (78, false), .load 80 (.int .i64) (.t 79)),
          (some (78, false), .v 81 (.cmp .gt (.t 80) (.k (.int .i64 (7))))),
          (none, .v 82 (.pick (.t 78) (.k (.bool true)) (.t 81))),
          (none, .v 83 (.move (.t 82))),
          (some (83, false), .v 84 (.fadr T63 2 (.t 9))),
          (some (83, false), .load 85 (.int .u32) (.t 84)),
          (some (83, false), .v 86 (.cmp .lt (.t 85) (.k (.int .u32 (1))))),
          (none, .v 87 (.pick (.t 83) (.k (.bool true)) (.t 86))),
          (none, .v 88 (.move (.t 87))),
          (some (88, false), .v 89 (.fadr T63 2 (.t 9))),
          (some (88, false), .load 90 (.int .u32) (.t 89)),
          (some (88, false), .v 91 (.cmp .gt (.t 90) (.k (.int .u32 (200000000))))),
          (none, .v 92 (.pick (.t 88) (.k (.bool true)) (.t 91)))])
        (.cond (.t 92)
          (.seq
          (.region 0 [
            (none, .v 4 (.move (.k (.int .i64 (160)))))])
          .ret)
          .skip))
        (.seq
        (.region 0 [
          (none, .v 10 (.move (.k (.int .i64 (0)))))])
        (.block 6
          (.loop [0, 7, 8, 9, 10]
            (.seq
            (.seq
            (.region 0 [
              (none, .v 93 (.move (.t 10))),
              (none, .v 94 (.move (.t 8))),
              (none, .v 95 (.cmp .lt (.t 93) (.t 94)))])
            (.cond (.t 95)
              .skip
              (.exit 6)))
            (.seq
            (.block 7
              (.seq
              (.draw 0 [[], [], [], [], [], [], [], [], [], [], [], [], [], [], [], []] [
                (none, .v 98 (.move (.t 7))),
                (none, .v 99 (.move (.t 10))),
                (none, .v 100 (.iadr none T63 (.t 98) (.t 99))),
                (none, .v 101 (.fadr T63 0 (.t 100))),
                (none, .load 102 (.int .i64) (.t 101)),
                (none, .v 103 (.fadr T63 0 (.t 9))),
                (none, .load 104 (.int .i64) (.t 103)),
                (none, .v 105 (.cmp .eq (.t 102) (.t 104))),
                (none, .v 106 (.move (.t 105))),
                (some (106, true), .v 107 (.move (.t 7))),
                (some (106, true), .v 108 (.move (.t 10))),
                (some (106, true), .v 109 (.iadr none T63 (.t 107) (.t 108))),
                (some (106, true), .v 110 (.fadr T63 1 (.t 109))),
                (some (106, true), .load 111 (.int .i64) (.t 110)),
                (some (106, true), .v 112 (.fadr T63 1 (.t 9))),
                (some (106, true), .load 113 (.int .i64) (.t 112))] [
                (some (106, true), .v 114 (.cmp .eq (.t 111) (.t 113))),
                (none, .v 115 (.pick (.t 106) (.t 114) (.k (.bool false))))])
              (.cond (.t 115)
                (.seq
                (.region 0 [
                  (none, .v 4 (.move (.k (.int .i64 (160)))))])
                .ret)
                .skip)))
            (.region 0 [
              (none, .v 96 (.move (.t 10))),
              (none, .v 97 (.add (.t 96) (.k (.int .i64 (1))))),
              (none, .v 10 (.move (.t 97)))])))))))))
      (.region 0 [
        (none, .v 50 (.move (.t 8))),
        (none, .v 51 (.add (.t 50) (.k (.int .i64 (1))))),
        (none, .v 8 (.move (.t 51)))]))))))
  (.seq
  (.region 0 [
    (none, .v 4 (.move (.k (.int .i64 (0)))))])
  .ret))))))
def nt_r16_Check : Nat := 116
def rs_r16_Check : List RV := [.tmp 4]
/-- pontage/pontagelaw16.awake -/
abbrev f_l16_awake : FuncId := 17
def ac_l16_awake : AC :=
  (.seq
  (.region 0 [
    (none, .v 0 (.move (.k (.bool false))))])
  (.seq
  (.region 3 [
    (none, .lit 4 0 (.int .u64) 3 [(0, .k (.int .u64 (1))), (1, .k (.int .u64 (2))), (2, .k (.int .u64 (3)))] false),
    (none, .callP (some 5) 37 [.k (.int .i64 (0)), .k (.int .i64 (0)), .k (.int .i64 (1)), .k (.int .i64 (0))] 1 0 true),
    (none, .callP (some 6) 37 [.k (.int .i64 (1)), .k (.int .i64 (1)), .k (.int .i64 (2)), .k (.int .i64 (0))] 1 0 true),
    (none, .callP (some 7) 37 [.k (.int .i64 (2)), .k (.int .i64 (1)), .k (.int .i64 (0)), .k (.int .i64 (1))] 1 0 true),
    (none, .lit 8 1 T49 3 [(0, .t 5), (1, .t 6), (2, .t 7)] false),
    (none, .callP (some 9) 20 [.t 4, .t 8] 2 1 true),
    (none, .v 3 (.move (.t 9))),
    (none, .v 10 (.ext (.t 3) 0)),
    (none, .v 11 (.ext (.t 3) 1)),
    (none, .v 1 (.move (.t 10))),
    (none, .v 2 (.move (.t 11)))])
  (.seq
  (.region 0 [
    (none, .v 12 (.move (.t 2))),
    (none, .v 13 (.cmp .eq (.t 12) (.k (.int .i64 (0))))),
    (none, .v 14 (.move (.t 13))),
    (some (14, true), .v 15 (.move (.t 1))),
    (some (14, true), .v 16 (.len false (.t 15))),
    (some (14, true), .v 17 (.cmp .eq (.t 16) (.k (.int .i64 (2))))),
    (none, .v 18 (.pick (.t 14) (.t 17) (.k (.bool false)))),
    (none, .v 19 (.move (.t 18))),
    (some (19, true), .v 20 (.move (.t 1))),
    (some (19, true), .v 21 (.iadr none (.int .i64) (.t 20) (.k (.int .i64 (0))))),
    (some (19, true), .load 22 (.int .i64) (.t 21)),
    (some (19, true), .v 23 (.cmp .eq (.t 22) (.k (.int .i64 (0))))),
    (none, .v 24 (.pick (.t 19) (.t 23) (.k (.bool false)))),
    (none, .v 25 (.move (.t 24))),
    (some (25, true), .v 26 (.move (.t 1))),
    (some (25, true), .v 27 (.iadr none (.int .i64) (.t 26) (.k (.int .i64 (1))))),
    (some (25, true), .load 28 (.int .i64) (.t 27)),
    (some (25, true), .v 29 (.cmp .eq (.t 28) (.k (.int .i64 (2))))),
    (none, .v 30 (.pick (.t 25) (.t 29) (.k (.bool false)))),
    (none, .v 0 (.move (.t 30)))])
  .ret)))
def nt_l16_awake : Nat := 31
def rs_l16_awake : List RV := [.tmp 0]
/-- pontage/span.Ends -/
abbrev f_span_Ends : FuncId := 18
def ac_span_Ends : AC :=
  (.seq
  (.region 0 [
    (none, .v 4 (.move (.k (.sl T57 [] .full)))),
    (none, .v 5 (.move (.k (.int .i64 (0)))))])
  (.seq
  (.region 1 [
    (none, .v 17 (.move (.t 0))),
    (none, .v 18 (.move (.t 1))),
    (none, .callP (some 19) 12 [.t 17, .t 18] 0 1 true),
    (none, .v 16 (.move (.t 19))),
    (none, .v 20 (.ext (.t 16) 0)),
    (none, .v 21 (.ext (.t 16) 1)),
    (none, .v 6 (.move (.t 20))),
    (none, .v 7 (.move (.t 21)))])
  (.seq
  (.seq
  (.region 0 [
    (none, .v 22 (.move (.t 7))),
    (none, .v 23 (.cmp .ne (.t 22) (.k (.int .i64 (0)))))])
  (.cond (.t 23)
    (.seq
    (.region 0 [
      (none, .v 24 (.move (.t 7))),
      (none, .v 4 (.move (.k (.sl T57 [] .full)))),
      (none, .v 5 (.move (.t 24)))])
    .ret)
    .skip))
  (.seq
  (.region 1 [
    (none, .mk 8 0 T57 (.k (.sl T57 [] .full)))])
  (.seq
  (.seq
  (.region 0 [
    (none, .v 25 (.move (.t 1))),
    (none, .v 26 (.len false (.t 25))),
    (none, .v 27 (.move (.k (.int .i64 (0)))))])
  (.block 0
    (.loop [0, 6, 8, 25, 26, 27]
      (.seq
      (.region 0 [
        (none, .v 28 (.cmp .lt (.t 27) (.t 26)))])
      (.seq
      (.cond (.t 28)
        .skip
        (.exit 0))
      (.seq
      (.block 1
        (.seq
        (.region 1 [
          (none, .v 29 (.iadr none T49 (.t 25) (.t 27))),
          (none, .load 30 T49 (.t 29)),
          (none, .alloc 10 0 T49),
          (none, .store T49 (.t 10) (.t 30))])
        (.seq
        (.region 0 [
          (none, .load 31 T49 (.t 10)),
          (none, .callP (some 32) 29 [.t 31] 0 0 true),
          (none, .v 33 (.move (.k (.int .i64 (0)))))])
        (.block 2
          (.loop [0, 6, 8, 25, 26, 27, 32, 33]
            (.seq
            (.region 0 [
              (none, .v 34 (.cmp .lt (.t 33) (.k (.int .i64 (2)))))])
            (.seq
            (.cond (.t 34)
              .skip
              (.exit 2))
            (.seq
            (.block 3
              (.seq
              (.region 1 [
                (none, .v 35 (.aidx 2 T72 (.t 32) (.t 33))),
                (none, .alloc 12 0 T72),
                (none, .store T72 (.t 12) (.t 35))])
              (.seq
              (.draw 2 [[], [], [], [], [3], [], [], [], [], [3, 4, 8], [], []] [
                (none, .v 36 (.move (.t 0))),
                (none, .v 37 (.move (.t 6))),
                (none, .v 38 (.fadr T72 0 (.t 12))),
                (none, .load 39 T70 (.t 38)),
                (none, .callP (some 40) 38 [.t 36, .t 37, .t 39] 0 0 false),
                (none, .v 41 (.move (.t 0))),
                (none, .v 42 (.move (.t 6))),
                (none, .v 43 (.fadr T72 2 (.t 12))),
                (none, .load 44 T70 (.t 43)),
                (none, .callP (some 45) 38 [.t 41, .t 42, .t 44] 0 0 false),
                (none, .alloc 13 0 T55),
                (none, .alloc 14 1 T55)] [
                (none, .store T55 (.t 13) (.t 40)),
                (none, .store T55 (.t 14) (.t 45))])
              (.seq
              (.region 1 [
                (none, .v 46 (.fadr T72 0 (.t 12))),
                (none, .v 47 (.fadr T70 0 (.t 46))),
                (none, .load 48 (.int .i64) (.t 47)),
                (none, .v 49 (.fadr T72 0 (.t 12))),
                (none, .v 50 (.fadr T70 1 (.t 49))),
                (none, .load 51 (.int .i64) (.t 50)),
                (none, .load 52 T55 (.t 14)),
                (none, .v 53 (.build T57 [(0, .t 48), (1, .t 51), (2, .k (.int .i64 (1))), (3, .t 52)])),
                (none, .alloc 15 0 T57),
                (none, .store T57 (.t 15) (.t 53))])
              (.seq
              (.seq
              (.region 0 [
                (none, .load 54 T55 (.t 13)),
                (none, .load 55 T55 (.t 14)),
                (none, .callP (some 56) 39 [.t 54, .t 55] 0 0 true)])
              (.cond (.t 56)
                (.draw 0 [[], [], []] [
                  (none, .load 57 T55 (.t 13)),
                  (none, .v 58 (.fadr T57 2 (.t 15))),
                  (none, .store (.int .i64) (.t 58) (.k (.int .i64 (4))))] [
                  (none, .v 59 (.fadr T57 3 (.t 15))),
                  (none, .store T55 (.t 59) (.t 57))])
                .skip))
              (.seq
              (.seq
              (.draw 0 [[], [], [], [], [], [], [], [], [], []] [
                (none, .v 60 (.move (.t 6))),
                (none, .v 61 (.fadr T72 0 (.t 12))),
                (none, .v 62 (.fadr T70 0 (.t 61))),
                (none, .load 63 (.int .i64) (.t 62)),
                (none, .v 64 (.iadr none T59 (.t 60) (.t 63))),
                (none, .v 65 (.fadr T59 2 (.t 64))),
                (none, .load 66 (.int .i64) (.t 65)),
                (none, .v 67 (.fadr T72 0 (.t 12))),
                (none, .v 68 (.fadr T70 1 (.t 67))),
                (none, .load 69 (.int .i64) (.t 68))] [
                (none, .v 70 (.cmp .eq (.t 66) (.t 69)))])
              (.cond (.t 70)
                (.region 0 [
                  (none, .v 71 (.fadr T57 2 (.t 15))),
                  (none, .store (.int .i64) (.t 71) (.k (.int .i64 (3))))])
                .skip))
              (.region 2 [
                (none, .v 72 (.move (.t 8))),
                (none, .load 73 T57 (.t 15)),
                (none, .lit 74 0 T57 1 [(0, .t 73)] false),
                (none, .app 75 1 T57 56 (.t 72) (.t 74) false),
                (none, .v 8 (.move (.t 75)))])))))))
            (.region 0 [
              (none, .v 76 (.add (.t 33) (.k (.int .i64 (1))))),
              (none, .v 33 (.move (.t 76)))])))))))))
      (.region 0 [
        (none, .v 77 (.add (.t 27) (.k (.int .i64 (1))))),
        (none, .v 27 (.move (.t 77)))])))))))
  (.seq
  (.region 0 [
    (none, .v 78 (.move (.t 8))),
    (none, .v 4 (.move (.t 78))),
    (none, .v 5 (.move (.k (.int .i64 (0)))))])
  .ret))))))
def nt_span_Ends : Nat := 79
def rs_span_Ends : List RV := [.tmp 4, .tmp 5]
/-- pontage/span.Tree -/
abbrev f_span_Tree : FuncId := 20
def ac_span_Tree : AC :=
  (.seq
  (.region 0 [
    (none, .v 4 (.move (.k (.sl (.int .i64) [] .full)))),
    (none, .v 5 (.move (.k (.int .i64 (0)))))])
  (.seq
  (.region 1 [
    (none, .v 11 (.move (.t 0))),
    (none, .v 12 (.move (.t 1))),
    (none, .callP (some 13) 18 [.t 11, .t 12] 0 1 true),
    (none, .v 10 (.move (.t 13))),
    (none, .v 14 (.ext (.t 10) 0)),
    (none, .v 15 (.ext (.t 10) 1)),
    (none, .v 6 (.move (.t 14))),
    (none, .v 7 (.move (.t 15)))])
  (.seq
  (.seq
  (.region 0 [
    (none, .v 16 (.move (.t 7))),
    (none, .v 17 (.cmp .ne (.t 16) (.k (.int .i64 (0)))))])
  (.cond (.t 17)
    (.seq
    (.region 0 [
      (none, .v 18 (.move (.t 7))),
      (none, .v 4 (.move (.k (.sl (.int .i64) [] .full)))),
      (none, .v 5 (.move (.t 18)))])
    .ret)
    .skip))
  (.seq
  (.region 1 [
    (none, .mk 8 0 (.int .i64) (.k (.sl (.int .i64) [] .full)))])
  (.seq
  (.seq
  (.region 0 [
    (none, .v 19 (.move (.t 1))),
    (none, .v 20 (.len false (.t 19))),
    (none, .v 21 (.move (.k (.int .i64 (0)))))])
  (.block 0
    (.loop [6, 8, 20, 21]
      (.seq
      (.region 0 [
        (none, .v 22 (.cmp .lt (.t 21) (.t 20)))])
      (.seq
      (.cond (.t 22)
        .skip
        (.exit 0))
      (.seq
      (.block 1
        (.seq
        (.region 0 [
          (none, .v 23 (.move (.t 21))),
          (none, .v 9 (.move (.t 23)))])
        (.seq
        (.region 0 [
          (none, .v 24 (.move (.t 6))),
          (none, .v 25 (.move (.t 9))),
          (none, .v 26 (.mul (.k (.int .i64 (2))) (.t 25))),
          (none, .v 27 (.iadr none T57 (.t 24) (.t 26))),
          (none, .v 28 (.fadr T57 2 (.t 27))),
          (none, .load 29 (.int .i64) (.t 28)),
          (none, .v 30 (.cmp .ne (.t 29) (.k (.int .i64 (1))))),
          (none, .v 31 (.move (.t 30))),
          (some (31, true), .v 32 (.move (.t 6))),
          (some (31, true), .v 33 (.move (.t 9))),
          (some (31, true), .v 34 (.mul (.k (.int .i64 (2))) (.t 33))),
          (some (31, true), .v 35 (.add (.t 34) (.k (.int .i64 (1))))),
          (some (31, true), .v 36 (.iadr none T57 (.t 32) (.t 35))),
          (some (31, true), .v 37 (.fadr T57 2 (.t 36))),
          (some (31, true), .load 38 (.int .i64) (.t 37)),
          (some (31, true), .v 39 (.cmp .ne (.t 38) (.k (.int .i64 (1))))),
          (none, .v 40 (.pick (.t 31) (.t 39) (.k (.bool false))))])
        (.cond (.t 40)
          (.region 2 [
            (none, .v 41 (.move (.t 8))),
            (none, .v 42 (.move (.t 9))),
            (none, .lit 43 0 (.int .i64) 1 [(0, .t 42)] false),
            (none, .app 44 1 (.int .i64) 8 (.t 41) (.t 43) false),
            (none, .v 8 (.move (.t 44)))])
          .skip))))
      (.region 0 [
        (none, .v 45 (.add (.t 21) (.k (.int .i64 (1))))),
        (none, .v 21 (.move (.t 45)))])))))))
  (.seq
  (.region 0 [
    (none, .v 46 (.move (.t 8))),
    (none, .v 4 (.move (.t 46))),
    (none, .v 5 (.move (.k (.int .i64 (0)))))])
  .ret))))))
def nt_span_Tree : Nat := 47
def rs_span_Tree : List RV := [.tmp 4, .tmp 5]
/-- pontage/pontagelaw16.sameInts -/
abbrev f_l16_sameInts : FuncId := 23
def ac_l16_sameInts : AC :=
  (.seq
  (.region 0 [
    (none, .v 4 (.move (.k (.bool false))))])
  (.seq
  (.seq
  (.region 0 [
    (none, .v 6 (.move (.t 0))),
    (none, .v 7 (.len false (.t 6))),
    (none, .v 8 (.move (.t 1))),
    (none, .v 9 (.len false (.t 8))),
    (none, .v 10 (.cmp .ne (.t 7) (.t 9)))])
  (.cond (.t 10)
    (.seq
    (.region 0 [
      (none, .v 4 (.move (.k (.bool false))))])
    .ret)
    .skip))
  (.seq
  (.seq
  (.region 0 [
    (none, .v 5 (.move (.k (.int .i64 (0)))))])
  (.block 0
    (.loop [0, 1, 5]
      (.seq
      (.seq
      (.region 0 [
        (none, .v 11 (.move (.t 5))),
        (none, .v 12 (.move (.t 0))),
        (none, .v 13 (.len false (.t 12))),
        (none, .v 14 (.cmp .lt (.t 11) (.t 13)))])
      (.cond (.t 14)
        .skip
        (.exit 0)))
      (.seq
      (.block 1
        (.seq
        (.draw 0 [[], [], [], [], [], [], [], []] [
          (none, .v 17 (.move (.t 0))),
          (none, .v 18 (.move (.t 5))),
          (none, .v 19 (.iadr none (.int .i64) (.t 17) (.t 18))),
          (none, .load 20 (.int .i64) (.t 19)),
          (none, .v 21 (.move (.t 1))),
          (none, .v 22 (.move (.t 5))),
          (none, .v 23 (.iadr none (.int .i64) (.t 21) (.t 22))),
          (none, .load 24 (.int .i64) (.t 23))] [
          (none, .v 25 (.cmp .ne (.t 20) (.t 24)))])
        (.cond (.t 25)
          (.seq
          (.region 0 [
            (none, .v 4 (.move (.k (.bool false))))])
          .ret)
          .skip)))
      (.region 0 [
        (none, .v 15 (.move (.t 5))),
        (none, .v 16 (.add (.t 15) (.k (.int .i64 (1))))),
        (none, .v 5 (.move (.t 16)))]))))))
  (.seq
  (.region 0 [
    (none, .v 4 (.move (.k (.bool true))))])
  .ret))))
def nt_l16_sameInts : Nat := 26
def rs_l16_sameInts : List RV := [.tmp 4]
/-- pontage/pontagelaw16.joined -/
abbrev f_l16_joined : FuncId := 24
def ac_l16_joined : AC :=
  (.seq
  (.region 0 [
    (none, .v 4 (.move (.k (.sl (.int .i64) [] .full))))])
  (.seq
  (.region 1 [
    (none, .v 10 (.move (.t 0))),
    (none, .make 11 0 (.int .i64) 8 (.t 10)),
    (none, .v 5 (.move (.t 11)))])
  (.seq
  (.seq
  (.region 0 [
    (none, .v 6 (.move (.k (.int .i64 (0)))))])
  (.block 0
    (.loop [0, 1, 5, 6]
      (.seq
      (.seq
      (.region 0 [
        (none, .v 12 (.move (.t 6))),
        (none, .v 13 (.move (.t 0))),
        (none, .v 14 (.cmp .lt (.t 12) (.t 13)))])
      (.cond (.t 14)
        .skip
        (.exit 0)))
      (.seq
      (.block 1
        (.region 0 [
          (none, .v 17 (.move (.t 5))),
          (none, .v 18 (.move (.t 6))),
          (none, .v 19 (.move (.t 6))),
          (none, .v 20 (.iadr none (.int .i64) (.t 17) (.t 18))),
          (none, .store (.int .i64) (.t 20) (.t 19))]))
      (.region 0 [
        (none, .v 15 (.move (.t 6))),
        (none, .v 16 (.add (.t 15) (.k (.int .i64 (1))))),
        (none, .v 6 (.move (.t 16)))]))))))
  (.seq
  (.seq
  (.region 0 [
    (none, .v 7 (.move (.k (.int .i64 (0)))))])
  (.block 2
    (.loop [0, 1, 5, 7]
      (.seq
      (.seq
      (.region 0 [
        (none, .v 21 (.move (.t 7))),
        (none, .v 22 (.move (.t 0))),
        (none, .v 23 (.cmp .lt (.t 21) (.t 22)))])
      (.cond (.t 23)
        .skip
        (.exit 2)))
      (.seq
      (.block 3
        (.seq
        (.region 0 [
          (none, .v 8 (.move (.k (.int .i64 (0)))))])
        (.block 4
          (.loop [0, 1, 5, 7, 8]
            (.seq
            (.seq
            (.region 0 [
              (none, .v 26 (.move (.t 8))),
              (none, .v 27 (.move (.t 1))),
              (none, .v 28 (.len false (.t 27))),
              (none, .v 29 (.cmp .lt (.t 26) (.t 28)))])
            (.cond (.t 29)
              .skip
              (.exit 4)))
            (.seq
            (.block 5
              (.seq
              (.draw 0 [[], [], [], [], [], [], [], [], [], [], [], [], [], [], [], []] [
                (none, .v 32 (.move (.t 5))),
                (none, .v 33 (.move (.t 1))),
                (none, .v 34 (.move (.t 8))),
                (none, .v 35 (.iadr none T49 (.t 33) (.t 34))),
                (none, .v 36 (.fadr T49 0 (.t 35))),
                (none, .load 37 (.int .i64) (.t 36)),
                (none, .v 38 (.iadr none (.int .i64) (.t 32) (.t 37))),
                (none, .load 39 (.int .i64) (.t 38)),
                (none, .v 40 (.move (.t 5))),
                (none, .v 41 (.move (.t 1))),
                (none, .v 42 (.move (.t 8))),
                (none, .v 43 (.iadr none T49 (.t 41) (.t 42))),
                (none, .v 44 (.fadr T49 2 (.t 43))),
                (none, .load 45 (.int .i64) (.t 44)),
                (none, .v 46 (.iadr none (.int .i64) (.t 40) (.t 45))),
                (none, .load 47 (.int .i64) (.t 46))] [
                (none, .v 48 (.min (.t 39) (.t 47))),
                (none, .v 9 (.move (.t 48)))])
              (.seq
              (.region 0 [
                (none, .v 49 (.move (.t 5))),
                (none, .v 50 (.move (.t 1))),
                (none, .v 51 (.move (.t 8))),
                (none, .v 52 (.iadr none T49 (.t 50) (.t 51))),
                (none, .v 53 (.fadr T49 0 (.t 52))),
                (none, .load 54 (.int .i64) (.t 53)),
                (none, .v 55 (.move (.t 9))),
                (none, .v 56 (.iadr none (.int .i64) (.t 49) (.t 54))),
                (none, .store (.int .i64) (.t 56) (.t 55))])
              (.region 0 [
                (none, .v 57 (.move (.t 5))),
                (none, .v 58 (.move (.t 1))),
                (none, .v 59 (.move (.t 8))),
                (none, .v 60 (.iadr none T49 (.t 58) (.t 59))),
                (none, .v 61 (.fadr T49 2 (.t 60))),
                (none, .load 62 (.int .i64) (.t 61)),
                (none, .v 63 (.move (.t 9))),
                (none, .v 64 (.iadr none (.int .i64) (.t 57) (.t 62))),
                (none, .store (.int .i64) (.t 64) (.t 63))]))))
            (.region 0 [
              (none, .v 30 (.move (.t 8))),
              (none, .v 31 (.add (.t 30) (.k (.int .i64 (1))))),
              (none, .v 8 (.move (.t 31)))])))))))
      (.region 0 [
        (none, .v 24 (.move (.t 7))),
        (none, .v 25 (.add (.t 24) (.k (.int .i64 (1))))),
        (none, .v 7 (.move (.t 25)))]))))))
  (.seq
  (.region 0 [
    (none, .v 65 (.move (.t 5))),
    (none, .v 4 (.move (.t 65)))])
  .ret)))))
def nt_l16_joined : Nat := 66
def rs_l16_joined : List RV := [.tmp 4]
/-- pontage/pontageref16.Sides -/
abbrev f_r16_Sides : FuncId := 25
def ac_r16_Sides : AC :=
  (.seq
  (.region 0 [
    (none, .v 2 (.move (.k (.sl T63 [] .full))))])
  (.seq
  (.region 1 [
    (none, .mk 3 0 T63 (.k (.sl T63 [] .full)))])
  (.seq
  (.seq
  (.region 0 [
    (none, .v 4 (.move (.k (.int .i64 (0)))))])
  (.block 0
    (.loop [0, 3, 4]
      (.seq
      (.seq
      (.region 0 [
        (none, .v 6 (.move (.t 4))),
        (none, .v 7 (.move (.t 0))),
        (none, .v 8 (.len false (.t 7))),
        (none, .v 9 (.cmp .lt (.t 6) (.t 8)))])
      (.cond (.t 9)
        .skip
        (.exit 0)))
      (.seq
      (.block 1
        (.seq
        (.region 1 [
          (none, .v 12 (.move (.t 0))),
          (none, .v 13 (.move (.t 4))),
          (none, .v 14 (.iadr none T49 (.t 12) (.t 13))),
          (none, .load 15 T49 (.t 14)),
          (none, .alloc 5 0 T49),
          (none, .store T49 (.t 5) (.t 15))])
        (.region 2 [
          (none, .v 16 (.move (.t 3))),
          (none, .v 17 (.fadr T49 0 (.t 5))),
          (none, .load 18 (.int .i64) (.t 17)),
          (none, .v 19 (.fadr T49 1 (.t 5))),
          (none, .load 20 (.int .i64) (.t 19)),
          (none, .v 21 (.fadr T49 4 (.t 5))),
          (none, .load 22 (.int .u32) (.t 21)),
          (none, .v 23 (.fadr T49 2 (.t 5))),
          (none, .load 24 (.int .i64) (.t 23)),
          (none, .v 25 (.fadr T49 3 (.t 5))),
          (none, .load 26 (.int .i64) (.t 25)),
          (none, .v 27 (.build T63 [(0, .t 18), (1, .t 20), (2, .t 22), (3, .t 24), (4, .t 26)])),
          (none, .v 28 (.fadr T49 2 (.t 5))),
          (none, .load 29 (.int .i64) (.t 28)),
          (none, .v 30 (.fadr T49 3 (.t 5))),
          (none, .load 31 (.int .i64) (.t 30)),
          (none, .v 32 (.fadr T49 5 (.t 5))),
          (none, .load 33 (.int .u32) (.t 32)),
          (none, .v 34 (.fadr T49 0 (.t 5))),
          (none, .load 35 (.int .i64) (.t 34)),
          (none, .v 36 (.fadr T49 1 (.t 5))),
          (none, .load 37 (.int .i64) (.t 36)),
          (none, .v 38 (.build T63 [(0, .t 29), (1, .t 31), (2, .t 33), (3, .t 35), (4, .t 37)])),
          (none, .lit 39 0 T63 2 [(0, .t 27), (1, .t 38)] false),
          (none, .app 40 1 T63 40 (.t 16) (.t 39) false),
          (none, .v 3 (.move (.t 40)))])))
      (.region 0 [
        (none, .v 10 (.move (.t 4))),
        (none, .v 11 (.add (.t 10) (.k (.int .i64 (1))))),
        (none, .v 4 (.move (.t 11)))]))))))
  (.seq
  (.region 0 [
    (none, .v 41 (.move (.t 3))),
    (none, .v 2 (.move (.t 41)))])
  .ret))))
def nt_r16_Sides : Nat := 42
def rs_r16_Sides : List RV := [.tmp 2]
/-- pontage/span.Nodes$1 -/
abbrev f_span_Nodes_1 : FuncId := 28
def ac_span_Nodes_1 : AC :=
  (.seq
  (.region 0 [
    (none, .boxc 2 T59 (.t 0)),
    (none, .boxc 3 T59 (.t 1)),
    (none, .v 4 (.move (.k (.bool false))))])
  (.seq
  (.region 0 [
    (none, .v 5 (.fadr T59 0 (.t 2))),
    (none, .load 6 (.int .u64) (.t 5)),
    (none, .v 7 (.fadr T59 0 (.t 3))),
    (none, .load 8 (.int .u64) (.t 7)),
    (none, .v 9 (.cmp .lt (.t 6) (.t 8))),
    (none, .v 10 (.move (.t 9))),
    (some (10, false), .v 11 (.fadr T59 0 (.t 2))),
    (some (10, false), .load 12 (.int .u64) (.t 11)),
    (some (10, false), .v 13 (.fadr T59 0 (.t 3))),
    (some (10, false), .load 14 (.int .u64) (.t 13)),
    (some (10, false), .v 15 (.cmp .eq (.t 12) (.t 14))),
    (some (10, false), .v 16 (.move (.t 15))),
    (some (16, true), .v 17 (.fadr T59 1 (.t 2))),
    (some (16, true), .load 18 (.int .u32) (.t 17)),
    (some (16, true), .v 19 (.fadr T59 1 (.t 3))),
    (some (16, true), .load 20 (.int .u32) (.t 19)),
    (some (16, true), .v 21 (.cmp .lt (.t 18) (.t 20))),
    (some (10, false), .v 22 (.pick (.t 16) (.t 21) (.k (.bool false)))),
    (none, .v 23 (.pick (.t 10) (.k (.bool true)) (.t 22))),
    (none, .v 4 (.move (.t 23)))])
  .ret))
def nt_span_Nodes_1 : Nat := 24
def rs_span_Nodes_1 : List RV := [.tmp 4]
/-- pontage/span.sides -/
abbrev f_span_sides : FuncId := 29
def ac_span_sides : AC :=
  (.seq
  (.region 1 [
    (none, .boxc 1 T49 (.t 0)),
    (none, .alloc 2 0 T74)])
  (.seq
  (.draw 2 [[], [], [], [], [], [], [], [], [], [], [], [], [1, 3, 10, 11]] [
    (none, .v 5 (.fadr T49 0 (.t 1))),
    (none, .load 6 (.int .i64) (.t 5)),
    (none, .v 7 (.fadr T49 1 (.t 1))),
    (none, .load 8 (.int .i64) (.t 7)),
    (none, .v 9 (.build T70 [(0, .t 6), (1, .t 8)])),
    (none, .v 10 (.fadr T49 2 (.t 1))),
    (none, .load 11 (.int .i64) (.t 10)),
    (none, .v 12 (.fadr T49 3 (.t 1))),
    (none, .load 13 (.int .i64) (.t 12)),
    (none, .v 14 (.build T70 [(0, .t 11), (1, .t 13)])),
    (none, .alloc 3 0 T70),
    (none, .alloc 4 1 T70),
    (none, .store T70 (.t 3) (.t 9))] [
    (none, .store T70 (.t 4) (.t 14))])
  (.seq
  (.region 0 [
    (none, .load 15 T70 (.t 3)),
    (none, .v 16 (.fadr T49 4 (.t 1))),
    (none, .load 17 (.int .u32) (.t 16)),
    (none, .load 18 T70 (.t 4)),
    (none, .v 19 (.build T72 [(0, .t 15), (1, .t 17), (2, .t 18)])),
    (none, .load 20 T70 (.t 4)),
    (none, .v 21 (.fadr T49 5 (.t 1))),
    (none, .load 22 (.int .u32) (.t 21)),
    (none, .load 23 T70 (.t 3)),
    (none, .v 24 (.build T72 [(0, .t 20), (1, .t 22), (2, .t 23)])),
    (none, .v 25 (.build T74 [(0, .t 19), (1, .t 24)])),
    (none, .store T74 (.t 2) (.t 25))])
  .ret)))
def nt_span_sides : Nat := 26
def rs_span_sides : List RV := [.cell 2 T74]
/-- pontage/span.rootPort -/
abbrev f_span_rootPort : FuncId := 30
def ac_span_rootPort : AC :=
  (.seq
  (.region 0 [
    (none, .v 8 (.move (.k (.int .i64 (0)))))])
  (.seq
  (.region 0 [
    (none, .v 9 (.move (.k (.int .i64 (-1)))))])
  (.seq
  (.region 1 [
    (none, .alloc 10 0 T55)])
  (.seq
  (.seq
  (.region 0 [
    (none, .v 17 (.move (.t 1))),
    (none, .v 18 (.len false (.t 17))),
    (none, .v 19 (.move (.k (.int .i64 (0)))))])
  (.block 0
    (.loop [0, 2, 3, 9, 10, 17, 18, 19]
      (.seq
      (.region 0 [
        (none, .v 20 (.cmp .lt (.t 19) (.t 18)))])
      (.seq
      (.cond (.t 20)
        .skip
        (.exit 0))
      (.seq
      (.block 1
        (.seq
        (.region 1 [
          (none, .v 21 (.iadr none T49 (.t 17) (.t 19))),
          (none, .load 22 T49 (.t 21)),
          (none, .alloc 12 0 T49),
          (none, .store T49 (.t 12) (.t 22))])
        (.seq
        (.region 0 [
          (none, .load 23 T49 (.t 12)),
          (none, .callP (some 24) 29 [.t 23] 0 0 true),
          (none, .v 25 (.move (.k (.int .i64 (0)))))])
        (.block 2
          (.loop [0, 2, 3, 9, 10, 17, 18, 19, 24, 25]
            (.seq
            (.region 0 [
              (none, .v 26 (.cmp .lt (.t 25) (.k (.int .i64 (2)))))])
            (.seq
            (.cond (.t 26)
              .skip
              (.exit 2))
            (.seq
            (.block 3
              (.seq
              (.region 1 [
                (none, .v 27 (.aidx 2 T72 (.t 24) (.t 25))),
                (none, .alloc 14 0 T72),
                (none, .store T72 (.t 14) (.t 27))])
              (.seq
              (.seq
              (.region 0 [
                (none, .v 28 (.fadr T72 0 (.t 14))),
                (none, .v 29 (.fadr T70 0 (.t 28))),
                (none, .load 30 (.int .i64) (.t 29)),
                (none, .v 31 (.move (.t 3))),
                (none, .v 32 (.cmp .ne (.t 30) (.t 31)))])
              (.cond (.t 32)
                (.exit 3)
                .skip))
              (.seq
              (.draw 1 [[], [], [], [], [3], [], [], [3, 4, 6], []] [
                (none, .v 33 (.move (.t 0))),
                (none, .v 34 (.move (.t 2))),
                (none, .v 35 (.fadr T72 2 (.t 14))),
                (none, .load 36 T70 (.t 35)),
                (none, .callP (some 37) 38 [.t 33, .t 34, .t 36] 0 0 false),
                (none, .v 38 (.fadr T72 1 (.t 14))),
                (none, .load 39 (.int .u32) (.t 38)),
                (none, .callP (some 40) 40 [.t 37, .t 39] 0 0 false),
                (none, .alloc 15 0 T55)] [
                (none, .store T55 (.t 15) (.t 40))])
              (.seq
              (.region 0 [
                (none, .load 41 T55 (.t 15)),
                (none, .load 42 T55 (.t 10)),
                (none, .callP (some 43) 41 [.t 41, .t 42] 0 0 true),
                (none, .v 16 (.move (.t 43)))])
              (.seq
              (.region 0 [
                (none, .v 44 (.move (.t 9))),
                (none, .v 45 (.cmp .lt (.t 44) (.k (.int .i64 (0))))),
                (none, .v 46 (.move (.t 45))),
                (some (46, false), .v 47 (.move (.t 16))),
                (some (46, false), .v 48 (.cmp .lt (.t 47) (.k (.int .i64 (0))))),
                (none, .v 49 (.pick (.t 46) (.k (.bool true)) (.t 48))),
                (none, .v 50 (.move (.t 49))),
                (some (50, false), .v 51 (.move (.t 16))),
                (some (50, false), .v 52 (.cmp .eq (.t 51) (.k (.int .i64 (0))))),
                (some (50, false), .v 53 (.move (.t 52))),
                (some (53, true), .v 54 (.fadr T72 0 (.t 14))),
                (some (53, true), .v 55 (.fadr T70 1 (.t 54))),
                (some (53, true), .load 56 (.int .i64) (.t 55)),
                (some (53, true), .v 57 (.move (.t 9))),
                (some (53, true), .v 58 (.cmp .lt (.t 56) (.t 57))),
                (some (50, false), .v 59 (.pick (.t 53) (.t 58) (.k (.bool false)))),
                (none, .v 60 (.pick (.t 50) (.k (.bool true)) (.t 59)))])
              (.cond (.t 60)
                (.draw 0 [[], [], [], [], []] [
                  (none, .v 61 (.fadr T72 0 (.t 14))),
                  (none, .v 62 (.fadr T70 1 (.t 61))),
                  (none, .load 63 (.int .i64) (.t 62)),
                  (none, .load 64 T55 (.t 15)),
                  (none, .v 9 (.move (.t 63)))] [
                  (none, .store T55 (.t 10) (.t 64))])
                .skip)))))))
            (.region 0 [
              (none, .v 65 (.add (.t 25) (.k (.int .i64 (1))))),
              (none, .v 25 (.move (.t 65)))])))))))))
      (.region 0 [
        (none, .v 66 (.add (.t 19) (.k (.int .i64 (1))))),
        (none, .v 19 (.move (.t 66)))])))))))
  (.seq
  (.region 0 [
    (none, .v 67 (.move (.t 9))),
    (none, .v 8 (.move (.t 67)))])
  .ret)))))
def nt_span_rootPort : Nat := 68
def rs_span_rootPort : List RV := [.tmp 8]
/-- pontage/span.within -/
abbrev f_span_within : FuncId := 34
def ac_span_within : AC :=
  (.seq
  (.region 0 [
    (none, .v 6 (.move (.k (.bool false))))])
  (.seq
  (.region 0 [
    (none, .v 7 (.move (.t 0))),
    (none, .v 8 (.move (.t 1))),
    (none, .v 9 (.cmp .ge (.t 7) (.t 8))),
    (none, .v 10 (.move (.t 9))),
    (some (10, true), .v 11 (.move (.t 0))),
    (some (10, true), .v 12 (.move (.t 2))),
    (some (10, true), .v 13 (.cmp .le (.t 11) (.t 12))),
    (none, .v 14 (.pick (.t 10) (.t 13) (.k (.bool false)))),
    (none, .v 6 (.move (.t 14)))])
  .ret))
def nt_span_within : Nat := 15
def rs_span_within : List RV := [.tmp 6]
/-- pontage/vector.Address -/
abbrev f_vector_Address : FuncId := 35
def ac_vector_Address : AC :=
  (.seq
  (.region 1 [
    (none, .alloc 2 0 T83)])
  (.seq
  (.region 1 [
    (none, .alloc 3 0 T83)])
  (.seq
  (.seq
  (.region 0 [
    (none, .v 5 (.move (.k (.int .i64 (0)))))])
  (.block 0
    (.loop [0, 2, 3, 5]
      (.seq
      (.region 0 [
        (none, .v 6 (.cmp .lt (.t 5) (.k (.int .i64 (6)))))])
      (.seq
      (.cond (.t 6)
        .skip
        (.exit 0))
      (.seq
      (.block 1
        (.seq
        (.region 0 [
          (none, .v 7 (.move (.t 5))),
          (none, .v 4 (.move (.t 7)))])
        (.region 0 [
          (none, .v 8 (.move (.t 4))),
          (none, .v 9 (.sub (.k (.int .i64 (5))) (.t 8))),
          (none, .v 10 (.move (.t 0))),
          (none, .v 11 (.move (.t 4))),
          (none, .v 12 (.conv .u64 (.t 11))),
          (none, .v 13 (.mul (.k (.int .u64 (8))) (.t 12))),
          (none, .v 14 (.shr (.t 10) (.t 13))),
          (none, .v 15 (.conv .u8 (.t 14))),
          (none, .v 16 (.iadr (some 6) (.int .u8) (.t 3) (.t 9))),
          (none, .store (.int .u8) (.t 16) (.t 15))])))
      (.region 0 [
        (none, .v 17 (.add (.t 5) (.k (.int .i64 (1))))),
        (none, .v 5 (.move (.t 17)))])))))))
  (.seq
  (.region 0 [
    (none, .load 18 T83 (.t 3)),
    (none, .store T83 (.t 2) (.t 18))])
  .ret))))
def nt_vector_Address : Nat := 19
def rs_vector_Address : List RV := [.cell 2 T83]
/-- pontage/pontageref06.SameAddress -/
abbrev f_r06_SameAddress : FuncId := 36
def ac_r06_SameAddress : AC :=
  (.seq
  (.region 0 [
    (none, .v 4 (.move (.k (.bool false))))])
  (.seq
  (.region 0 [
    (none, .v 5 (.move (.t 0))),
    (none, .v 6 (.rem (.t 5) (.k (.int .u64 (281474976710656))))),
    (none, .v 7 (.move (.t 1))),
    (none, .v 8 (.rem (.t 7) (.k (.int .u64 (281474976710656))))),
    (none, .v 9 (.cmp .eq (.t 6) (.t 8))),
    (none, .v 4 (.move (.t 9)))])
  .ret))
def nt_r06_SameAddress : Nat := 10
def rs_r06_SameAddress : List RV := [.tmp 4]
/-- pontage/pontagelaw16.edge -/
abbrev f_l16_edge : FuncId := 37
def ac_l16_edge : AC :=
  (.seq
  (.region 1 [
    (none, .alloc 8 0 T49)])
  (.seq
  (.region 0 [
    (none, .v 9 (.move (.t 0))),
    (none, .v 10 (.move (.t 1))),
    (none, .v 11 (.move (.t 2))),
    (none, .v 12 (.move (.t 3))),
    (none, .v 13 (.build T49 [(0, .t 9), (1, .t 10), (2, .t 11), (3, .t 12), (4, .k (.int .u32 (10))), (5, .k (.int .u32 (10)))])),
    (none, .store T49 (.t 8) (.t 13))])
  .ret))
def nt_l16_edge : Nat := 14
def rs_l16_edge : List RV := [.cell 8 T49]
/-- pontage/span.told -/
abbrev f_span_told : FuncId := 38
def ac_span_told : AC :=
  (.seq
  (.region 1 [
    (none, .boxc 5 T70 (.t 2)),
    (none, .alloc 6 0 T55)])
  (.seq
  (.region 1 [
    (none, .v 8 (.move (.t 1))),
    (none, .v 9 (.fadr T70 0 (.t 5))),
    (none, .load 10 (.int .i64) (.t 9)),
    (none, .v 11 (.iadr none T59 (.t 8) (.t 10))),
    (none, .load 12 T59 (.t 11)),
    (none, .alloc 7 0 T59),
    (none, .store T59 (.t 7) (.t 12))])
  (.seq
  (.draw 0 [[], [], [], [], [], [], [], [], [], [], [], [], []] [
    (none, .v 13 (.fadr T59 0 (.t 7))),
    (none, .load 14 (.int .u64) (.t 13)),
    (none, .v 15 (.fadr T59 1 (.t 7))),
    (none, .load 16 (.int .u32) (.t 15)),
    (none, .v 17 (.move (.t 0))),
    (none, .v 18 (.fadr T70 0 (.t 5))),
    (none, .load 19 (.int .i64) (.t 18)),
    (none, .v 20 (.iadr none (.int .u64) (.t 17) (.t 19))),
    (none, .load 21 (.int .u64) (.t 20)),
    (none, .v 22 (.fadr T70 1 (.t 5))),
    (none, .load 23 (.int .i64) (.t 22)),
    (none, .v 24 (.add (.k (.int .i64 (32769))) (.t 23))),
    (none, .v 25 (.conv .u16 (.t 24)))] [
    (none, .v 26 (.build T55 [(0, .t 14), (1, .t 16), (2, .t 21), (3, .t 25)])),
    (none, .store T55 (.t 6) (.t 26))])
  .ret)))
def nt_span_told : Nat := 27
def rs_span_told : List RV := [.cell 6 T55]
/-- pontage/vector.Better -/
abbrev f_vector_Better : FuncId := 39
def ac_vector_Better : AC :=
  (.seq
  (.region 0 [
    (none, .boxc 2 T55 (.t 0)),
    (none, .boxc 3 T55 (.t 1)),
    (none, .v 4 (.move (.k (.bool false))))])
  (.seq
  (.region 0 [
    (none, .load 5 T55 (.t 2)),
    (none, .load 6 T55 (.t 3)),
    (none, .callP (some 7) 41 [.t 5, .t 6] 0 0 true),
    (none, .v 8 (.cmp .lt (.t 7) (.k (.int .i64 (0))))),
    (none, .v 4 (.move (.t 8)))])
  .ret))
def nt_vector_Better : Nat := 9
def rs_vector_Better : List RV := [.tmp 4]
/-- pontage/vector.Add -/
abbrev f_vector_Add : FuncId := 40
def ac_vector_Add : AC :=
  (.seq
  (.region 2 [
    (none, .box 2 0 T55 (.t 0)),
    (none, .alloc 4 1 T55)])
  (.seq
  (.region 0 [
    (none, .v 5 (.fadr T55 1 (.t 2))),
    (none, .load 6 (.int .u32) (.t 5)),
    (none, .v 7 (.move (.t 1))),
    (none, .v 8 (.add (.t 6) (.t 7))),
    (none, .v 9 (.fadr T55 1 (.t 2))),
    (none, .store (.int .u32) (.t 9) (.t 8))])
  (.seq
  (.region 0 [
    (none, .load 10 T55 (.t 2)),
    (none, .store T55 (.t 4) (.t 10))])
  .ret)))
def nt_vector_Add : Nat := 11
def rs_vector_Add : List RV := [.cell 4 T55]
/-- pontage/vector.Compare -/
abbrev f_vector_Compare : FuncId := 41
def ac_vector_Compare : AC :=
  (.seq
  (.region 0 [
    (none, .boxc 2 T55 (.t 0)),
    (none, .boxc 3 T55 (.t 1)),
    (none, .v 4 (.move (.k (.int .i64 (0)))))])
  (.seq
  (.region 0 [
    (none, .v 5 (.move (.k (.int .i64 (0)))))])
  (.seq
  .skip
  (.seq
  (.seq
  (.region 0 [
    (none, .v 8 (.fadr T55 0 (.t 2))),
    (none, .load 9 (.int .u64) (.t 8)),
    (none, .v 10 (.fadr T55 0 (.t 3))),
    (none, .load 11 (.int .u64) (.t 10)),
    (none, .v 12 (.build T92 [(0, .t 9), (1, .t 11)])),
    (none, .v 13 (.fadr T55 1 (.t 2))),
    (none, .load 14 (.int .u32) (.t 13)),
    (none, .v 15 (.conv .u64 (.t 14))),
    (none, .v 16 (.fadr T55 1 (.t 3))),
    (none, .load 17 (.int .u32) (.t 16)),
    (none, .v 18 (.conv .u64 (.t 17))),
    (none, .v 19 (.build T92 [(0, .t 15), (1, .t 18)])),
    (none, .v 20 (.fadr T55 2 (.t 2))),
    (none, .load 21 (.int .u64) (.t 20)),
    (none, .v 22 (.fadr T55 2 (.t 3))),
    (none, .load 23 (.int .u64) (.t 22)),
    (none, .v 24 (.build T92 [(0, .t 21), (1, .t 23)])),
    (none, .v 25 (.fadr T55 3 (.t 2))),
    (none, .load 26 (.int .u16) (.t 25)),
    (none, .v 27 (.conv .u64 (.t 26))),
    (none, .v 28 (.fadr T55 3 (.t 3))),
    (none, .load 29 (.int .u16) (.t 28)),
    (none, .v 30 (.conv .u64 (.t 29))),
    (none, .v 31 (.build T92 [(0, .t 27), (1, .t 30)])),
    (none, .v 32 (.build T93 [(0, .t 12), (1, .t 19), (2, .t 24), (3, .t 31)])),
    (none, .v 33 (.move (.k (.int .i64 (0)))))])
  (.block 0
    (.loop [5, 32, 33]
      (.seq
      (.region 0 [
        (none, .v 34 (.cmp .lt (.t 33) (.k (.int .i64 (4)))))])
      (.seq
      (.cond (.t 34)
        .skip
        (.exit 0))
      (.seq
      (.block 1
        (.seq
        (.region 1 [
          (none, .v 35 (.aidx 4 T92 (.t 32) (.t 33))),
          (none, .alloc 7 0 T92),
          (none, .store T92 (.t 7) (.t 35))])
        (.block 2
          (.seq
          (.region 0 [
            (none, .v 37 (.iadr (some 2) (.int .u64) (.t 7) (.k (.int .i64 (0))))),
            (none, .load 38 (.int .u64) (.t 37)),
            (none, .v 39 (.iadr (some 2) (.int .u64) (.t 7) (.k (.int .i64 (1))))),
            (none, .load 40 (.int .u64) (.t 39)),
            (none, .v 41 (.cmp .lt (.t 38) (.t 40))),
            (none, .v 36 (.move (.t 41)))])
          (.cond (.t 36)
            (.seq
            (.region 0 [
              (none, .v 5 (.move (.k (.int .i64 (-1)))))])
            (.exit 0))
            (.seq
            (.region 0 [
              (none, .v 43 (.iadr (some 2) (.int .u64) (.t 7) (.k (.int .i64 (0))))),
              (none, .load 44 (.int .u64) (.t 43)),
              (none, .v 45 (.iadr (some 2) (.int .u64) (.t 7) (.k (.int .i64 (1))))),
              (none, .load 46 (.int .u64) (.t 45)),
              (none, .v 47 (.cmp .gt (.t 44) (.t 46))),
              (none, .v 42 (.move (.t 47)))])
            (.cond (.t 42)
              (.seq
              (.region 0 [
                (none, .v 5 (.move (.k (.int .i64 (1)))))])
              (.exit 0))
              .skip)))))))
      (.region 0 [
        (none, .v 48 (.add (.t 33) (.k (.int .i64 (1))))),
        (none, .v 33 (.move (.t 48)))])))))))
  (.seq
  (.region 0 [
    (none, .v 49 (.move (.t 5))),
    (none, .v 4 (.move (.t 49)))])
  .ret)))))
def nt_vector_Compare : Nat := 50
def rs_vector_Compare : List RV := [.tmp 4]
theorem mixed : prog.follows .mixedOrders = true := by kernel_rfl
theorem ok_l16_SpanTree : funOK prog f_l16_SpanTree nt_l16_SpanTree rs_l16_SpanTree ac_l16_SpanTree = true := by kernel_rfl
theorem ok_l16_SpanTurned : funOK prog f_l16_SpanTurned nt_l16_SpanTurned rs_l16_SpanTurned ac_l16_SpanTurned = true := by kernel_rfl
theorem ok_l16_short : funOK prog f_l16_short nt_l16_short rs_l16_short ac_l16_short = true := by kernel_rfl
theorem ok_l16_few : funOK prog f_l16_few nt_l16_few rs_l16_few ac_l16_few = true := by kernel_rfl
theorem ok_span_Nodes : funOK prog f_span_Nodes nt_span_Nodes rs_span_Nodes ac_span_Nodes = true := by kernel_rfl
theorem ok_span_Check : funOK prog f_span_Check nt_span_Check rs_span_Check ac_span_Check = true := by kernel_rfl
theorem ok_r16_Check : funOK prog f_r16_Check nt_r16_Check rs_r16_Check ac_r16_Check = true := by kernel_rfl
theorem ok_l16_awake : funOK prog f_l16_awake nt_l16_awake rs_l16_awake ac_l16_awake = true := by kernel_rfl
theorem ok_span_Ends : funOK prog f_span_Ends nt_span_Ends rs_span_Ends ac_span_Ends = true := by kernel_rfl
theorem ok_span_Tree : funOK prog f_span_Tree nt_span_Tree rs_span_Tree ac_span_Tree = true := by kernel_rfl
theorem ok_l16_sameInts : funOK prog f_l16_sameInts nt_l16_sameInts rs_l16_sameInts ac_l16_sameInts = true := by kernel_rfl
theorem ok_l16_joined : funOK prog f_l16_joined nt_l16_joined rs_l16_joined ac_l16_joined = true := by kernel_rfl
theorem ok_r16_Sides : funOK prog f_r16_Sides nt_r16_Sides rs_r16_Sides ac_r16_Sides = true := by kernel_rfl
theorem ok_span_Nodes_1 : funOK prog f_span_Nodes_1 nt_span_Nodes_1 rs_span_Nodes_1 ac_span_Nodes_1 = true := by kernel_rfl
theorem ok_span_sides : funOK prog f_span_sides nt_span_sides rs_span_sides ac_span_sides = true := by kernel_rfl
theorem ok_span_rootPort : funOK prog f_span_rootPort nt_span_rootPort rs_span_rootPort ac_span_rootPort = true := by kernel_rfl
theorem ok_span_within : funOK prog f_span_within nt_span_within rs_span_within ac_span_within = true := by kernel_rfl
theorem ok_vector_Address : funOK prog f_vector_Address nt_vector_Address rs_vector_Address ac_vector_Address = true := by kernel_rfl
theorem ok_r06_SameAddress : funOK prog f_r06_SameAddress nt_r06_SameAddress rs_r06_SameAddress ac_r06_SameAddress = true := by kernel_rfl
theorem ok_l16_edge : funOK prog f_l16_edge nt_l16_edge rs_l16_edge ac_l16_edge = true := by kernel_rfl
theorem ok_span_told : funOK prog f_span_told nt_span_told rs_span_told ac_span_told = true := by kernel_rfl
theorem ok_vector_Better : funOK prog f_vector_Better nt_vector_Better rs_vector_Better ac_vector_Better = true := by kernel_rfl
theorem ok_vector_Add : funOK prog f_vector_Add nt_vector_Add rs_vector_Add ac_vector_Add = true := by kernel_rfl
theorem ok_vector_Compare : funOK prog f_vector_Compare nt_vector_Compare rs_vector_Compare ac_vector_Compare = true := by kernel_rfl
def orc : Orc where
  p := fun f args => match f with
    | 3 => pLSp args
    | 4 => pLSp args
    | 5 => pLSp args
    | 6 => pLSp args
    | 7 => pLSp args
    | 8 => pLSpT args
    | 9 => pLSp args
    | 10 => pShortI args
    | 11 => pFewE args
    | 12 => pNodes args
    | 13 => pNodes args
    | 14 => pSpCheck args
    | 15 => pSpCheck args
    | 16 => pSameNs args
    | 17 => pAwakeS args
    | 18 => pEnds args
    | 19 => pEnds args
    | 20 => pTree args
    | 21 => pTree args
    | 22 => pSameEs args
    | 23 => pSameIs args
    | 24 => pJoined args
    | 25 => pSidesD args
    | 26 => pPortID args
    | 27 => pBetter args
    | 29 => pSides2 args
    | 30 => pRootPort args
    | 31 => pRoots args
    | 32 => pAddV args
    | 33 => pTold2 args
    | 34 => pWithin args
    | 35 => pAddr args
    | 36 => pSameAddr args
    | 37 => pEdge args
    | 38 => pTold args
    | 39 => pBetter args
    | 40 => pAddV args
    | 41 => pCompare args
    | _ => .bad
  s := fun f args h => match f with
    | 28 => sLess args h
    | _ => .bad
  fu := fun f => match f with
    | _ => false
end Go.Vc.Seat
