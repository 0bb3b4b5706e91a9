/- The seat's code in abstract form, held against the program; what is known of its functions. -/
import Derived.Test.YtghpaogagolagaaProg
import Derived.KernelRfl
import Derived.Test.YtghpaogagolagaaSpTag
import Derived.Test.YtghpaogagolagaaEpSpTag2
import Derived.Test.YtghpaogagolagaaSpEth
import Derived.Test.YtghpaogagolagaaSpBcomp
import Derived.Test.YtghpaogagolagaaSpBcomp2
import Derived.Test.YtghpaogagolagaaSpBcomp3
set_option linter.unusedVariables false
set_option maxRecDepth 100000
namespace Go.Vc.Seat
open Go.Vc Go.Proofs.Try
abbrev T22 : Ty := .arr 6 (.int .u8)
abbrev T28 : Ty := .st [.arr 6 (.int .u8), .sl (.int .i64), .sl (.st [.int .i64, .int .i64, .int .i64]), .sl (.st [.int .i64, .int .i64]), .sl (.st [.int .i64, .sl (.int .i64)])]
abbrev T31 : Ty := .st [.int .i64, .bool, .int .i64]
abbrev T33 : Ty := .st [.int .i64, .bool, .bool, .int .i64, .arr 6 (.int .u8), .arr 6 (.int .u8)]
abbrev T36 : Ty := .st [.arr 6 (.int .u8), .arr 6 (.int .u8), .st [.int .i64, .bool, .int .i64], .st [.int .i64, .bool, .bool, .int .i64, .arr 6 (.int .u8), .arr 6 (.int .u8)], .sl (.int .u8)]
abbrev T46 : Ty := .st [.bool, .bool]
abbrev T53 : Ty := .st [.int .i64, .sl (.int .i64)]
abbrev T55 : Ty := .st [.int .i64, .int .i64]
abbrev T69 : Ty := .st [.int .u64, .st [.int .u8, .int .u8, .int .u8, .int .u8], .int .u8, .bool, .int .u16, .st [.int .u64, .int .u32, .int .u64, .int .u16], .st [.int .u8, .int .u8, .int .u8, .int .u8], .sl (.st [.int .u16, .int .u32, .bool, .bool, .bool, .bool, .bool, .bool, .bool, .bool, .bool, .bool, .bool, .bool, .bool, .bool, .bool, .bool, .bool, .bool, .bool, .bool, .bool, .bool, .bool, .bool, .bool, .bool, .bool, .int .i64, .int .i64, .int .i64, .st [.int .u64, .int .u32, .int .u64, .int .u16], .st [.int .u64, .int .u32, .int .u64, .int .u16], .st [.int .u8, .int .u8, .int .u8, .int .u8], .st [.int .u8, .int .u8, .int .u8, .int .u8], .st [.int .i64, .bool, .bool, .bool, .bool, .bool, .bool, .int .i64, .st [.int .u64, .int .u32, .int .u64, .int .u16], .st [.int .u8, .int .u8, .int .u8, .int .u8]], .int .u8, .int .u8, .int .u8, .int .u8, .int .u8, .int .u8, .int .u8, .int .u8, .int .i64, .int .i64, .int .i64, .int .i64, .int .i64])]
abbrev T92 : Ty := .st [.int .u16, .int .u32, .bool, .bool, .bool, .bool, .bool, .bool, .bool, .bool, .bool, .bool, .bool, .bool, .bool, .bool, .bool, .bool, .bool, .bool, .bool, .bool, .bool, .bool, .bool, .bool, .bool, .bool, .bool, .int .i64, .int .i64, .int .i64, .st [.int .u64, .int .u32, .int .u64, .int .u16], .st [.int .u64, .int .u32, .int .u64, .int .u16], .st [.int .u8, .int .u8, .int .u8, .int .u8], .st [.int .u8, .int .u8, .int .u8, .int .u8], .st [.int .i64, .bool, .bool, .bool, .bool, .bool, .bool, .int .i64, .st [.int .u64, .int .u32, .int .u64, .int .u16], .st [.int .u8, .int .u8, .int .u8, .int .u8]], .int .u8, .int .u8, .int .u8, .int .u8, .int .u8, .int .u8, .int .u8, .int .u8, .int .i64, .int .i64, .int .i64, .int .i64, .int .i64]
abbrev T101 : Ty := .st [.int .i64, .int .i64, .int .i64]
abbrev T105 : Ty := .arr 5 (.int .u8)
abbrev T106 : Ty := .arr 3 (.int .u8)
/-- pontage/pontagelaw19.BcompMembers -/
abbrev f_l19_BcompMembers : FuncId := 3
def ac_l19_BcompMembers : AC :=
  (.seq
  (.region 1 [
    (none, .box 6 0 T28 (.t 0)),
    (none, .boxc 9 T36 (.t 3)),
    (none, .v 12 (.move (.k (.bool false))))])
  (.seq
  (.region 1 [
    (none, .load 29 T28 (.t 6)),
    (none, .callP (some 30) 6 [.t 29] 0 1 true),
    (none, .store T28 (.t 6) (.t 30))])
  (.seq
  (.region 1 [
    (none, .v 32 (.move (.t 1))),
    (none, .callP (some 33) 7 [.t 32] 0 1 true),
    (none, .v 31 (.move (.t 33))),
    (none, .v 34 (.ext (.t 31) 0)),
    (none, .v 35 (.ext (.t 31) 1)),
    (none, .v 13 (.move (.t 34))),
    (none, .v 14 (.move (.t 35)))])
  (.seq
  (.region 1 [
    (none, .load 37 T28 (.t 6)),
    (none, .v 38 (.move (.t 13))),
    (none, .v 39 (.move (.t 2))),
    (none, .load 40 T36 (.t 9)),
    (none, .v 41 (.move (.t 4))),
    (none, .v 42 (.move (.t 5))),
    (none, .callP (some 43) 8 [.t 37, .t 38, .t 39, .t 40, .t 41, .t 42] 0 1 true),
    (none, .v 36 (.move (.t 43))),
    (none, .v 44 (.ext (.t 36) 0)),
    (none, .v 45 (.ext (.t 36) 1)),
    (none, .v 15 (.move (.t 44))),
    (none, .v 16 (.move (.t 45)))])
  (.seq
  (.region 0 [
    (none, .load 47 T28 (.t 6)),
    (none, .v 48 (.fadr T36 2 (.t 9))),
    (none, .v 49 (.fadr T31 2 (.t 48))),
    (none, .load 50 (.int .i64) (.t 49)),
    (none, .callP (some 51) 9 [.t 47, .t 50] 0 0 true),
    (none, .v 46 (.move (.t 51))),
    (none, .v 52 (.ext (.t 46) 0)),
    (none, .v 53 (.ext (.t 46) 1)),
    (none, .v 17 (.move (.t 52))),
    (none, .v 18 (.move (.t 53)))])
  (.seq
  (.seq
  (.region 0 [
    (none, .v 19 (.move (.k (.int .i64 (0)))))])
  (.block 0
    (.loop [2, 4, 5, 6, 9, 13, 15, 17, 19]
      (.seq
      (.seq
      (.region 0 [
        (none, .v 54 (.move (.t 19))),
        (none, .v 55 (.move (.t 15))),
        (none, .v 56 (.len false (.t 55))),
        (none, .v 57 (.cmp .lt (.t 54) (.t 56)))])
      (.cond (.t 57)
        .skip
        (.exit 0)))
      (.seq
      (.block 1
        (.seq
        (.region 0 [
          (none, .v 20 (.move (.k (.int .i64 (0)))))])
        (.seq
        (.seq
        (.region 0 [
          (none, .v 21 (.move (.k (.int .i64 (0)))))])
        (.block 2
          (.loop [2, 4, 5, 6, 9, 13, 15, 17, 19, 20, 21]
            (.seq
            (.seq
            (.region 0 [
              (none, .v 60 (.move (.t 21))),
              (none, .v 61 (.move (.t 17))),
              (none, .v 62 (.len false (.t 61))),
              (none, .v 63 (.cmp .lt (.t 60) (.t 62)))])
            (.cond (.t 63)
              .skip
              (.exit 2)))
            (.seq
            (.block 3
              (.seq
              (.draw 0 [[], [], [], [], [], [], [], []] [
                (none, .v 66 (.move (.t 17))),
                (none, .v 67 (.move (.t 21))),
                (none, .v 68 (.iadr none (.int .i64) (.t 66) (.t 67))),
                (none, .load 69 (.int .i64) (.t 68)),
                (none, .v 70 (.move (.t 15))),
                (none, .v 71 (.move (.t 19))),
                (none, .v 72 (.iadr none (.int .i64) (.t 70) (.t 71))),
                (none, .load 73 (.int .i64) (.t 72))] [
                (none, .v 74 (.cmp .eq (.t 69) (.t 73)))])
              (.cond (.t 74)
                (.region 0 [
                  (none, .v 75 (.move (.t 20))),
                  (none, .v 76 (.add (.t 75) (.k (.int .i64 (1))))),
                  (none, .v 20 (.move (.t 76)))])
                .skip)))
            (.region 0 [
              (none, .v 64 (.move (.t 21))),
              (none, .v 65 (.add (.t 64) (.k (.int .i64 (1))))),
              (none, .v 21 (.move (.t 65)))]))))))
        (.seq
        (.seq
        (.region 0 [
          (none, .v 77 (.move (.t 20))),
          (none, .v 78 (.cmp .eq (.t 77) (.k (.int .i64 (0))))),
          (none, .v 79 (.move (.t 78))),
          (some (79, false), .v 80 (.move (.t 15))),
          (some (79, false), .v 81 (.move (.t 19))),
          (some (79, false), .v 82 (.iadr none (.int .i64) (.t 80) (.t 81))),
          (some (79, false), .load 83 (.int .i64) (.t 82)),
          (some (79, false), .v 84 (.move (.t 2))),
          (some (79, false), .v 85 (.cmp .eq (.t 83) (.t 84))),
          (none, .v 86 (.pick (.t 79) (.k (.bool true)) (.t 85))),
          (none, .v 87 (.move (.t 86))),
          (some (87, false), .v 88 (.move (.t 15))),
          (some (87, false), .v 89 (.move (.t 19))),
          (some (87, false), .v 90 (.iadr none (.int .i64) (.t 88) (.t 89))),
          (some (87, false), .load 91 (.int .i64) (.t 90)),
          (some (87, false), .v 92 (.cmp .lt (.t 91) (.k (.int .i64 (0))))),
          (none, .v 93 (.pick (.t 87) (.k (.bool true)) (.t 92))),
          (none, .v 94 (.move (.t 93))),
          (some (94, false), .v 95 (.move (.t 15))),
          (some (94, false), .v 96 (.move (.t 19))),
          (some (94, false), .v 97 (.iadr none (.int .i64) (.t 95) (.t 96))),
          (some (94, false), .load 98 (.int .i64) (.t 97)),
          (some (94, false), .v 99 (.move (.t 13))),
          (some (94, false), .v 100 (.len false (.t 99))),
          (some (94, false), .v 101 (.cmp .ge (.t 98) (.t 100))),
          (none, .v 102 (.pick (.t 94) (.k (.bool true)) (.t 101))),
          (none, .v 103 (.move (.t 102))),
          (some (103, false), .v 104 (.move (.t 13))),
          (some (103, false), .v 105 (.move (.t 15))),
          (some (103, false), .v 106 (.move (.t 19))),
          (some (103, false), .v 107 (.iadr none (.int .i64) (.t 105) (.t 106))),
          (some (103, false), .load 108 (.int .i64) (.t 107)),
          (some (103, false), .v 109 (.iadr none T46 (.t 104) (.t 108))),
          (some (103, false), .v 110 (.fadr T46 1 (.t 109))),
          (some (103, false), .load 111 .bool (.t 110)),
          (some (103, false), .v 112 (.not (.t 111))),
          (none, .v 113 (.pick (.t 103) (.k (.bool true)) (.t 112)))])
        (.cond (.t 113)
          (.seq
          (.region 0 [
            (none, .v 12 (.move (.k (.bool false))))])
          .ret)
          .skip))
        (.seq
        (.region 0 [
          (none, .v 22 (.move (.k (.int .i64 (0)))))])
        (.block 4
          (.loop [2, 4, 5, 6, 9, 13, 15, 17, 19, 22]
            (.seq
            (.seq
            (.region 0 [
              (none, .v 114 (.move (.t 22))),
              (none, .v 115 (.move (.t 19))),
              (none, .v 116 (.cmp .lt (.t 114) (.t 115))),
              (none, .v 117 (.move (.t 116))),
              (some (117, true), .load 118 T28 (.t 6)),
              (some (117, true), .callP (some 119) 10 [.t 118] 0 0 true),
              (some (117, true), .v 120 (.cmp .eq (.t 119) (.k (.int .i64 (0))))),
              (none, .v 121 (.pick (.t 117) (.t 120) (.k (.bool false))))])
            (.cond (.t 121)
              .skip
              (.exit 4)))
            (.seq
            (.block 5
              (.seq
              (.draw 0 [[], [], [], [], [], [], [], []] [
                (none, .v 124 (.move (.t 15))),
                (none, .v 125 (.move (.t 22))),
                (none, .v 126 (.iadr none (.int .i64) (.t 124) (.t 125))),
                (none, .load 127 (.int .i64) (.t 126)),
                (none, .v 128 (.move (.t 15))),
                (none, .v 129 (.move (.t 19))),
                (none, .v 130 (.iadr none (.int .i64) (.t 128) (.t 129))),
                (none, .load 131 (.int .i64) (.t 130))] [
                (none, .v 132 (.cmp .ge (.t 127) (.t 131)))])
              (.cond (.t 132)
                (.seq
                (.region 0 [
                  (none, .v 12 (.move (.k (.bool false))))])
                .ret)
                .skip)))
            (.region 0 [
              (none, .v 122 (.move (.t 22))),
              (none, .v 123 (.add (.t 122) (.k (.int .i64 (1))))),
              (none, .v 22 (.move (.t 123)))]))))))))))
      (.region 0 [
        (none, .v 58 (.move (.t 19))),
        (none, .v 59 (.add (.t 58) (.k (.int .i64 (1))))),
        (none, .v 19 (.move (.t 59)))]))))))
  (.seq
  (.region 1 [
    (none, .load 133 T36 (.t 9)),
    (none, .alloc 23 0 T36),
    (none, .store T36 (.t 23) (.t 133))])
  (.seq
  (.region 0 [
    (none, .v 134 (.build T22 [(0, .k (.int .u8 (1))), (1, .k (.int .u8 (2))), (2, .k (.int .u8 (3))), (3, .k (.int .u8 (4))), (4, .k (.int .u8 (5))), (5, .k (.int .u8 (6)))])),
    (none, .v 135 (.fadr T36 0 (.t 23))),
    (none, .store T22 (.t 135) (.t 134))])
  (.seq
  (.region 1 [
    (none, .load 137 T28 (.t 6)),
    (none, .v 138 (.move (.t 13))),
    (none, .v 139 (.move (.t 2))),
    (none, .load 140 T36 (.t 23)),
    (none, .v 141 (.move (.t 4))),
    (none, .v 142 (.move (.t 5))),
    (none, .callP (some 143) 8 [.t 137, .t 138, .t 139, .t 140, .t 141, .t 142] 0 1 true),
    (none, .v 136 (.move (.t 143))),
    (none, .v 144 (.ext (.t 136) 0)),
    (none, .v 145 (.ext (.t 136) 1)),
    (none, .v 24 (.move (.t 144))),
    (none, .v 25 (.move (.t 145)))])
  (.seq
  (.region 1 [
    (none, .load 146 T36 (.t 9)),
    (none, .alloc 26 0 T36),
    (none, .store T36 (.t 26) (.t 146))])
  (.seq
  (.region 0 [
    (none, .v 147 (.build T22 [(0, .k (.int .u8 (2))), (1, .k (.int .u8 (2))), (2, .k (.int .u8 (3))), (3, .k (.int .u8 (4))), (4, .k (.int .u8 (5))), (5, .k (.int .u8 (6)))])),
    (none, .v 148 (.fadr T36 0 (.t 26))),
    (none, .store T22 (.t 148) (.t 147))])
  (.seq
  (.seq
  (.region 0 [
    (none, .v 149 (.fadr T36 0 (.t 26))),
    (none, .load 150 T22 (.t 149)),
    (none, .v 151 (.fadr T28 0 (.t 6))),
    (none, .load 152 T22 (.t 151)),
    (none, .v 153 (.eqT T22 false (.t 150) (.t 152)))])
  (.cond (.t 153)
    (.region 0 [
      (none, .v 154 (.fadr T36 0 (.t 26))),
      (none, .v 155 (.iadr (some 6) (.int .u8) (.t 154) (.k (.int .i64 (5))))),
      (none, .load 156 (.int .u8) (.t 155)),
      (none, .v 157 (.add (.t 156) (.k (.int .u8 (1))))),
      (none, .v 158 (.fadr T36 0 (.t 26))),
      (none, .v 159 (.iadr (some 6) (.int .u8) (.t 158) (.k (.int .i64 (5))))),
      (none, .store (.int .u8) (.t 159) (.t 157))])
    .skip))
  (.seq
  (.region 1 [
    (none, .load 161 T28 (.t 6)),
    (none, .v 162 (.move (.t 13))),
    (none, .v 163 (.move (.t 2))),
    (none, .load 164 T36 (.t 26)),
    (none, .v 165 (.move (.t 4))),
    (none, .callP (some 166) 8 [.t 161, .t 162, .t 163, .t 164, .t 165, .k (.bool false)] 0 1 true),
    (none, .v 160 (.move (.t 166))),
    (none, .v 167 (.ext (.t 160) 0)),
    (none, .v 168 (.ext (.t 160) 1)),
    (none, .v 27 (.move (.t 167))),
    (none, .v 28 (.move (.t 168)))])
  (.seq
  (.region 0 [
    (none, .v 169 (.fadr T28 0 (.t 6))),
    (none, .load 170 T22 (.t 169)),
    (none, .v 171 (.fadr T36 0 (.t 23))),
    (none, .load 172 T22 (.t 171)),
    (none, .v 173 (.eqT T22 false (.t 170) (.t 172))),
    (none, .v 174 (.move (.t 173))),
    (some (174, false), .v 175 (.move (.t 24))),
    (some (174, false), .v 176 (.move (.t 27))),
    (some (174, false), .callP (some 177) 11 [.t 175, .t 176] 0 0 true),
    (none, .v 178 (.pick (.t 174) (.k (.bool true)) (.t 177))),
    (none, .v 179 (.move (.t 178))),
    (some (179, true), .v 180 (.move (.t 28))),
    (some (179, true), .v 181 (.not (.t 180))),
    (none, .v 182 (.pick (.t 179) (.t 181) (.k (.bool false)))),
    (none, .v 183 (.move (.t 182))),
    (some (183, true), .callP (some 184) 12 [] 0 0 true),
    (none, .v 185 (.pick (.t 183) (.t 184) (.k (.bool false)))),
    (none, .v 12 (.move (.t 185)))])
  .ret))))))))))))))
def nt_l19_BcompMembers : Nat := 186
def rs_l19_BcompMembers : List RV := [.tmp 12]
/-- pontage/pontagelaw19.Few -/
abbrev f_l19_Few : FuncId := 6
def ac_l19_Few : AC :=
  (.seq
  (.region 2 [
    (none, .box 1 0 T28 (.t 0)),
    (none, .alloc 2 1 T28)])
  (.seq
  (.region 0 [
    (none, .v 5 (.fadr T28 1 (.t 1))),
    (none, .load 6 (.sl (.int .i64)) (.t 5)),
    (none, .v 7 (.fadr T28 1 (.t 1))),
    (none, .load 8 (.sl (.int .i64)) (.t 7)),
    (none, .v 9 (.len false (.t 8))),
    (none, .v 10 (.min (.t 9) (.k (.int .i64 (10))))),
    (none, .v 11 (.slice (.int .i64) (.t 6) none (some (.t 10)) none)),
    (none, .v 12 (.fadr T28 1 (.t 1))),
    (none, .store (.sl (.int .i64)) (.t 12) (.t 11))])
  (.seq
  (.region 0 [
    (none, .v 13 (.fadr T28 2 (.t 1))),
    (none, .load 14 (.sl (.st [.int .i64, .int .i64, .int .i64])) (.t 13)),
    (none, .v 15 (.fadr T28 2 (.t 1))),
    (none, .load 16 (.sl (.st [.int .i64, .int .i64, .int .i64])) (.t 15)),
    (none, .v 17 (.len false (.t 16))),
    (none, .v 18 (.min (.t 17) (.k (.int .i64 (12))))),
    (none, .v 19 (.slice T101 (.t 14) none (some (.t 18)) none)),
    (none, .v 20 (.fadr T28 2 (.t 1))),
    (none, .store (.sl (.st [.int .i64, .int .i64, .int .i64])) (.t 20) (.t 19))])
  (.seq
  (.region 0 [
    (none, .v 21 (.fadr T28 3 (.t 1))),
    (none, .load 22 (.sl (.st [.int .i64, .int .i64])) (.t 21)),
    (none, .v 23 (.fadr T28 3 (.t 1))),
    (none, .load 24 (.sl (.st [.int .i64, .int .i64])) (.t 23)),
    (none, .v 25 (.len false (.t 24))),
    (none, .v 26 (.min (.t 25) (.k (.int .i64 (12))))),
    (none, .v 27 (.slice T55 (.t 22) none (some (.t 26)) none)),
    (none, .v 28 (.fadr T28 3 (.t 1))),
    (none, .store (.sl (.st [.int .i64, .int .i64])) (.t 28) (.t 27))])
  (.seq
  (.region 1 [
    (none, .mk 3 0 T53 (.k (.sl T53 [] .full)))])
  (.seq
  (.seq
  (.region 0 [
    (none, .v 4 (.move (.k (.int .i64 (0)))))])
  (.block 0
    (.loop [1, 2, 3, 4]
      (.seq
      (.seq
      (.region 0 [
        (none, .v 29 (.move (.t 4))),
        (none, .v 30 (.fadr T28 4 (.t 1))),
        (none, .load 31 (.sl (.st [.int .i64, .sl (.int .i64)])) (.t 30)),
        (none, .v 32 (.len false (.t 31))),
        (none, .v 33 (.cmp .lt (.t 29) (.t 32))),
        (none, .v 34 (.move (.t 33))),
        (some (34, true), .v 35 (.move (.t 4))),
        (some (34, true), .v 36 (.cmp .lt (.t 35) (.k (.int .i64 (12))))),
        (none, .v 37 (.pick (.t 34) (.t 36) (.k (.bool false))))])
      (.cond (.t 37)
        .skip
        (.exit 0)))
      (.seq
      (.block 1
        (.draw 2 [[], [], [], [], [], [], [], [], [], [], [], [], [], [], [], [], [], [], [], [], [], [], [], [2, 6, 8, 12, 14, 18]] [
          (none, .v 40 (.move (.t 3))),
          (none, .v 41 (.fadr T28 4 (.t 1))),
          (none, .load 42 (.sl (.st [.int .i64, .sl (.int .i64)])) (.t 41)),
          (none, .v 43 (.move (.t 4))),
          (none, .v 44 (.iadr none T53 (.t 42) (.t 43))),
          (none, .v 45 (.fadr T53 0 (.t 44))),
          (none, .load 46 (.int .i64) (.t 45)),
          (none, .v 47 (.fadr T28 4 (.t 1))),
          (none, .load 48 (.sl (.st [.int .i64, .sl (.int .i64)])) (.t 47)),
          (none, .v 49 (.move (.t 4))),
          (none, .v 50 (.iadr none T53 (.t 48) (.t 49))),
          (none, .v 51 (.fadr T53 1 (.t 50))),
          (none, .load 52 (.sl (.int .i64)) (.t 51)),
          (none, .v 53 (.fadr T28 4 (.t 1))),
          (none, .load 54 (.sl (.st [.int .i64, .sl (.int .i64)])) (.t 53)),
          (none, .v 55 (.move (.t 4))),
          (none, .v 56 (.iadr none T53 (.t 54) (.t 55))),
          (none, .v 57 (.fadr T53 1 (.t 56))),
          (none, .load 58 (.sl (.int .i64)) (.t 57)),
          (none, .v 59 (.len false (.t 58))),
          (none, .v 60 (.min (.t 59) (.k (.int .i64 (10))))),
          (none, .v 61 (.slice (.int .i64) (.t 52) none (some (.t 60)) none)),
          (none, .v 62 (.build T53 [(0, .t 46), (1, .t 61)])),
          (none, .lit 63 0 T53 1 [(0, .t 62)] false)] [
          (none, .app 64 1 T53 32 (.t 40) (.t 63) false),
          (none, .v 3 (.move (.t 64)))]))
      (.region 0 [
        (none, .v 38 (.move (.t 4))),
        (none, .v 39 (.add (.t 38) (.k (.int .i64 (1))))),
        (none, .v 4 (.move (.t 39)))]))))))
  (.seq
  (.region 0 [
    (none, .v 65 (.move (.t 3))),
    (none, .v 66 (.fadr T28 4 (.t 1))),
    (none, .store (.sl (.st [.int .i64, .sl (.int .i64)])) (.t 66) (.t 65))])
  (.seq
  (.region 0 [
    (none, .load 67 T28 (.t 1)),
    (none, .store T28 (.t 2) (.t 67))])
  .ret))))))))
def nt_l19_Few : Nat := 68
def rs_l19_Few : List RV := [.cell 2 T28]
/-- pontage/pontagelaw19.cut -/
abbrev f_l19_cut : FuncId := 7
def ac_l19_cut : AC :=
  (.seq
  (.region 0 [
    (none, .v 2 (.move (.k (.sl T46 [] .full)))),
    (none, .v 3 (.move (.k (.sl T46 [] .full))))])
  (.seq
  (.region 0 [
    (none, .v 6 (.move (.t 0))),
    (none, .v 7 (.move (.t 0))),
    (none, .v 8 (.len false (.t 7))),
    (none, .v 9 (.min (.t 8) (.k (.int .i64 (10))))),
    (none, .v 10 (.slice T46 (.t 6) none (some (.t 9)) none)),
    (none, .v 0 (.move (.t 10)))])
  (.seq
  (.region 1 [
    (none, .mk 4 0 T46 (.k (.sl T46 [] .full)))])
  (.seq
  (.seq
  (.region 0 [
    (none, .v 5 (.move (.k (.int .i64 (0)))))])
  (.block 0
    (.loop [0, 4, 5]
      (.seq
      (.seq
      (.region 0 [
        (none, .v 11 (.move (.t 5))),
        (none, .v 12 (.move (.t 0))),
        (none, .v 13 (.len false (.t 12))),
        (none, .v 14 (.cmp .lt (.t 11) (.t 13)))])
      (.cond (.t 14)
        .skip
        (.exit 0)))
      (.seq
      (.block 1
        (.draw 2 [[], [], [], [], [], [], [], [], [], [], [], [], [5, 10]] [
          (none, .v 17 (.move (.t 4))),
          (none, .v 18 (.move (.t 0))),
          (none, .v 19 (.move (.t 5))),
          (none, .v 20 (.iadr none T46 (.t 18) (.t 19))),
          (none, .v 21 (.fadr T46 0 (.t 20))),
          (none, .load 22 .bool (.t 21)),
          (none, .v 23 (.move (.t 0))),
          (none, .v 24 (.move (.t 5))),
          (none, .v 25 (.iadr none T46 (.t 23) (.t 24))),
          (none, .v 26 (.fadr T46 1 (.t 25))),
          (none, .load 27 .bool (.t 26)),
          (none, .v 28 (.build T46 [(0, .t 22), (1, .t 27)])),
          (none, .lit 29 0 T46 1 [(0, .t 28)] false)] [
          (none, .app 30 1 T46 2 (.t 17) (.t 29) false),
          (none, .v 4 (.move (.t 30)))]))
      (.region 0 [
        (none, .v 15 (.move (.t 5))),
        (none, .v 16 (.add (.t 15) (.k (.int .i64 (1))))),
        (none, .v 5 (.move (.t 16)))]))))))
  (.seq
  (.region 0 [
    (none, .v 31 (.move (.t 0))),
    (none, .v 32 (.move (.t 4))),
    (none, .v 2 (.move (.t 31))),
    (none, .v 3 (.move (.t 32)))])
  .ret)))))
def nt_l19_cut : Nat := 33
def rs_l19_cut : List RV := [.tmp 2, .tmp 3]
/-- pontage/bcomp.Out -/
abbrev f_bcomp_Out : FuncId := 8
def ac_bcomp_Out : AC :=
  (.seq
  (.region 2 [
    (none, .boxc 6 T28 (.t 0)),
    (none, .boxc 9 T36 (.t 3)),
    (none, .box 10 0 (.int .i64) (.t 4)),
    (none, .box 11 1 .bool (.t 5)),
    (none, .v 12 (.move (.k (.sl (.int .i64) [] .full)))),
    (none, .v 13 (.move (.k (.bool false))))])
  (.seq
  (.draw 2 [[], [], [], [], [], [], [], [6], [], []] [
    (none, .v 23 (.fadr T36 0 (.t 9))),
    (none, .load 24 T22 (.t 23)),
    (none, .v 25 (.fadr T28 0 (.t 6))),
    (none, .load 26 T22 (.t 25)),
    (none, .v 27 (.eqT T22 false (.t 24) (.t 26))),
    (none, .v 28 (.fadr T36 0 (.t 9))),
    (none, .load 29 T22 (.t 28)),
    (none, .callP (some 30) 17 [.t 29] 0 0 false),
    (none, .alloc 14 0 .bool),
    (none, .alloc 15 1 .bool)] [
    (none, .store .bool (.t 14) (.t 27)),
    (none, .store .bool (.t 15) (.t 30))])
  (.seq
  (.region 0 [
    (none, .v 31 (.move (.t 2))),
    (none, .v 32 (.cmp .ge (.t 31) (.k (.int .i64 (0))))),
    (none, .v 33 (.move (.t 32))),
    (some (33, true), .load 34 .bool (.t 14)),
    (some (33, true), .v 35 (.move (.t 34))),
    (some (35, false), .load 36 .bool (.t 15)),
    (some (33, true), .v 37 (.pick (.t 35) (.k (.bool true)) (.t 36))),
    (none, .v 38 (.pick (.t 33) (.t 37) (.k (.bool false)))),
    (none, .v 16 (.move (.t 38)))])
  (.seq
  (.region 0 [
    (none, .v 39 (.mkfn 18 [.t 14, .t 15, .t 11, .t 10])),
    (none, .v 17 (.move (.t 39)))])
  (.seq
  (.region 1 [
    (none, .load 41 T28 (.t 6)),
    (none, .v 42 (.fadr T36 2 (.t 9))),
    (none, .v 43 (.fadr T31 2 (.t 42))),
    (none, .load 44 (.int .i64) (.t 43)),
    (none, .callP (some 45) 19 [.t 41, .t 44] 0 1 true),
    (none, .v 40 (.move (.t 45))),
    (none, .v 46 (.ext (.t 40) 0)),
    (none, .v 47 (.ext (.t 40) 1)),
    (none, .v 18 (.move (.t 46))),
    (none, .v 19 (.move (.t 47)))])
  (.seq
  (.region 1 [
    (none, .mk 20 0 (.int .i64) (.k (.sl (.int .i64) [] .full)))])
  (.seq
  .skip
  (.seq
  (.seq
  (.region 0 [
    (none, .v 48 (.move (.t 18))),
    (none, .v 49 (.len false (.t 48))),
    (none, .v 50 (.move (.k (.int .i64 (0)))))])
  (.block 0
    (.loop [1, 2, 16, 17, 20, 48, 49, 50]
      (.seq
      (.region 0 [
        (none, .v 51 (.cmp .lt (.t 50) (.t 49)))])
      (.seq
      (.cond (.t 51)
        .skip
        (.exit 0))
      (.seq
      (.block 1
        (.seq
        (.region 0 [
          (none, .v 52 (.iadr none (.int .i64) (.t 48) (.t 50))),
          (none, .load 53 (.int .i64) (.t 52)),
          (none, .v 22 (.move (.t 53)))])
        (.seq
        (.seq
        (.region 0 [
          (none, .v 54 (.move (.t 22))),
          (none, .v 55 (.move (.t 2))),
          (none, .v 56 (.cmp .eq (.t 54) (.t 55))),
          (none, .v 57 (.move (.t 56))),
          (some (57, false), .v 58 (.move (.t 1))),
          (some (57, false), .v 59 (.move (.t 22))),
          (some (57, false), .callP (some 60) 20 [.t 58, .t 59] 0 0 true),
          (some (57, false), .v 61 (.fieldv T46 1 (.t 60))),
          (some (57, false), .v 62 (.not (.t 61))),
          (none, .v 63 (.pick (.t 57) (.k (.bool true)) (.t 62))),
          (none, .v 64 (.move (.t 63))),
          (some (64, false), .v 65 (.move (.t 17))),
          (some (64, false), .v 66 (.move (.t 22))),
          (some (64, false), .callS (some 67) (.t 65) [.t 66] [] [18, 30, 41]),
          (some (64, false), .v 68 (.not (.t 67))),
          (none, .v 69 (.pick (.t 64) (.k (.bool true)) (.t 68)))])
        (.cond (.t 69)
          (.exit 1)
          .skip))
        (.region 2 [
          (none, .v 70 (.move (.t 20))),
          (none, .v 71 (.move (.t 22))),
          (none, .lit 72 0 (.int .i64) 1 [(0, .t 71)] false),
          (none, .app 73 1 (.int .i64) 8 (.t 70) (.t 72) false),
          (none, .v 20 (.move (.t 73)))]))))
      (.region 0 [
        (none, .v 74 (.add (.t 50) (.k (.int .i64 (1))))),
        (none, .v 50 (.move (.t 74)))])))))))
  (.seq
  (.region 0 [
    (none, .v 75 (.move (.t 20))),
    (none, .v 76 (.move (.t 16))),
    (none, .v 12 (.move (.t 75))),
    (none, .v 13 (.move (.t 76)))])
  .ret)))))))))
def nt_bcomp_Out : Nat := 77
def rs_bcomp_Out : List RV := [.tmp 12, .tmp 13]
/-- pontage/pontageref18.Ports -/
abbrev f_r18_Ports : FuncId := 9
def ac_r18_Ports : AC :=
  (.seq
  (.region 0 [
    (none, .boxc 2 T28 (.t 0)),
    (none, .v 4 (.move (.k (.sl (.int .i64) [] .full)))),
    (none, .v 5 (.move (.k (.bool false))))])
  (.seq
  (.seq
  (.region 0 [
    (none, .v 6 (.move (.k (.int .i64 (0)))))])
  (.block 0
    (.loop [1, 2, 6]
      (.seq
      (.seq
      (.region 0 [
        (none, .v 7 (.move (.t 6))),
        (none, .v 8 (.fadr T28 4 (.t 2))),
        (none, .load 9 (.sl (.st [.int .i64, .sl (.int .i64)])) (.t 8)),
        (none, .v 10 (.len false (.t 9))),
        (none, .v 11 (.cmp .lt (.t 7) (.t 10)))])
      (.cond (.t 11)
        .skip
        (.exit 0)))
      (.seq
      (.block 1
        (.seq
        (.region 0 [
          (none, .v 14 (.fadr T28 4 (.t 2))),
          (none, .load 15 (.sl (.st [.int .i64, .sl (.int .i64)])) (.t 14)),
          (none, .v 16 (.move (.t 6))),
          (none, .v 17 (.iadr none T53 (.t 15) (.t 16))),
          (none, .v 18 (.fadr T53 0 (.t 17))),
          (none, .load 19 (.int .i64) (.t 18)),
          (none, .v 20 (.move (.t 1))),
          (none, .v 21 (.cmp .eq (.t 19) (.t 20)))])
        (.cond (.t 21)
          (.seq
          (.region 0 [
            (none, .v 22 (.fadr T28 4 (.t 2))),
            (none, .load 23 (.sl (.st [.int .i64, .sl (.int .i64)])) (.t 22)),
            (none, .v 24 (.move (.t 6))),
            (none, .v 25 (.iadr none T53 (.t 23) (.t 24))),
            (none, .v 26 (.fadr T53 1 (.t 25))),
            (none, .load 27 (.sl (.int .i64)) (.t 26)),
            (none, .v 4 (.move (.t 27))),
            (none, .v 5 (.move (.k (.bool true))))])
          .ret)
          .skip)))
      (.region 0 [
        (none, .v 12 (.move (.t 6))),
        (none, .v 13 (.add (.t 12) (.k (.int .i64 (1))))),
        (none, .v 6 (.move (.t 13)))]))))))
  (.seq
  (.region 0 [
    (none, .v 4 (.move (.k (.sl (.int .i64) [] .full)))),
    (none, .v 5 (.move (.k (.bool false))))])
  .ret)))
def nt_r18_Ports : Nat := 28
def rs_r18_Ports : List RV := [.tmp 4, .tmp 5]
/-- pontage/pontageref18.Check -/
abbrev f_r18_Check : FuncId := 10
def ac_r18_Check : AC :=
  (.seq
  (.region 0 [
    (none, .boxc 1 T28 (.t 0)),
    (none, .v 2 (.move (.k (.int .i64 (0)))))])
  (.seq
  (.seq
  (.region 0 [
    (none, .v 4 (.fadr T28 0 (.t 1))),
    (none, .load 5 T22 (.t 4)),
    (none, .callP (some 6) 21 [.t 5] 0 0 true),
    (none, .v 7 (.cmp .ne (.t 6) (.k (.int .i64 (1))))),
    (none, .v 8 (.move (.t 7))),
    (some (8, false), .v 9 (.fadr T28 1 (.t 1))),
    (some (8, false), .load 10 (.sl (.int .i64)) (.t 9)),
    (some (8, false), .v 11 (.len false (.t 10))),
    (some (8, false), .v 12 (.cmp .lt (.t 11) (.k (.int .i64 (1))))),
    (none, .v 13 (.pick (.t 8) (.k (.bool true)) (.t 12))),
    (none, .v 14 (.move (.t 13))),
    (some (14, false), .v 15 (.fadr T28 1 (.t 1))),
    (some (14, false), .load 16 (.sl (.int .i64)) (.t 15)),
    (some (14, false), .v 17 (.len false (.t 16))),
    (some (14, false), .v 18 (.cmp .gt (.t 17) (.k (.int .i64 (8))))),
    (none, .v 19 (.pick (.t 14) (.k (.bool true)) (.t 18)))])
  (.cond (.t 19)
    (.seq
    (.region 0 [
      (none, .v 2 (.move (.k (.int .i64 (180)))))])
    .ret)
    .skip))
  (.seq
  (.seq
  (.region 0 [
    (none, .v 3 (.move (.k (.int .i64 (0)))))])
  (.block 0
    (.loop [1, 3]
      (.seq
      (.seq
      (.region 0 [
        (none, .v 20 (.move (.t 3))),
        (none, .v 21 (.fadr T28 1 (.t 1))),
        (none, .load 22 (.sl (.int .i64)) (.t 21)),
        (none, .v 23 (.len false (.t 22))),
        (none, .v 24 (.cmp .lt (.t 20) (.t 23)))])
      (.cond (.t 24)
        .skip
        (.exit 0)))
      (.seq
      (.block 1
        (.seq
        (.region 0 [
          (none, .v 27 (.fadr T28 1 (.t 1))),
          (none, .load 28 (.sl (.int .i64)) (.t 27)),
          (none, .v 29 (.move (.t 3))),
          (none, .v 30 (.iadr none (.int .i64) (.t 28) (.t 29))),
          (none, .load 31 (.int .i64) (.t 30)),
          (none, .v 32 (.cmp .ne (.t 31) (.k (.int .i64 (1))))),
          (none, .v 33 (.move (.t 32))),
          (some (33, true), .v 34 (.fadr T28 1 (.t 1))),
          (some (33, true), .load 35 (.sl (.int .i64)) (.t 34)),
          (some (33, true), .v 36 (.move (.t 3))),
          (some (33, true), .v 37 (.iadr none (.int .i64) (.t 35) (.t 36))),
          (some (33, true), .load 38 (.int .i64) (.t 37)),
          (some (33, true), .v 39 (.cmp .ne (.t 38) (.k (.int .i64 (2))))),
          (none, .v 40 (.pick (.t 33) (.t 39) (.k (.bool false))))])
        (.cond (.t 40)
          (.seq
          (.region 0 [
            (none, .v 2 (.move (.k (.int .i64 (180)))))])
          .ret)
          .skip)))
      (.region 0 [
        (none, .v 25 (.move (.t 3))),
        (none, .v 26 (.add (.t 25) (.k (.int .i64 (1))))),
        (none, .v 3 (.move (.t 26)))]))))))
  (.seq
  (.seq
  (.region 0 [
    (none, .v 41 (.fadr T28 4 (.t 1))),
    (none, .load 42 (.sl (.st [.int .i64, .sl (.int .i64)])) (.t 41)),
    (none, .v 43 (.len false (.t 42))),
    (none, .v 44 (.cmp .gt (.t 43) (.k (.int .i64 (64))))),
    (none, .v 45 (.move (.t 44))),
    (some (45, false), .v 46 (.fadr T28 3 (.t 1))),
    (some (45, false), .load 47 (.sl (.st [.int .i64, .int .i64])) (.t 46)),
    (some (45, false), .v 48 (.len false (.t 47))),
    (some (45, false), .v 49 (.cmp .gt (.t 48) (.k (.int .i64 (64))))),
    (none, .v 50 (.pick (.t 45) (.k (.bool true)) (.t 49))),
    (none, .v 51 (.move (.t 50))),
    (some (51, false), .v 52 (.fadr T28 2 (.t 1))),
    (some (51, false), .load 53 (.sl (.st [.int .i64, .int .i64, .int .i64])) (.t 52)),
    (some (51, false), .v 54 (.len false (.t 53))),
    (some (51, false), .v 55 (.cmp .gt (.t 54) (.k (.int .i64 (64))))),
    (none, .v 56 (.pick (.t 51) (.k (.bool true)) (.t 55))),
    (none, .v 57 (.move (.t 56))),
    (some (57, false), .load 58 T28 (.t 1)),
    (some (57, false), .callP (some 59) 22 [.t 58] 0 0 true),
    (some (57, false), .v 60 (.not (.t 59))),
    (none, .v 61 (.pick (.t 57) (.k (.bool true)) (.t 60))),
    (none, .v 62 (.move (.t 61))),
    (some (62, false), .load 63 T28 (.t 1)),
    (some (62, false), .callP (some 64) 23 [.t 63] 0 0 true),
    (some (62, false), .v 65 (.not (.t 64))),
    (none, .v 66 (.pick (.t 62) (.k (.bool true)) (.t 65))),
    (none, .v 67 (.move (.t 66))),
    (some (67, false), .load 68 T28 (.t 1)),
    (some (67, false), .callP (some 69) 24 [.t 68] 0 0 true),
    (some (67, false), .v 70 (.not (.t 69))),
    (none, .v 71 (.pick (.t 67) (.k (.bool true)) (.t 70)))])
  (.cond (.t 71)
    (.seq
    (.region 0 [
      (none, .v 2 (.move (.k (.int .i64 (180)))))])
    .ret)
    .skip))
  (.seq
  (.region 0 [
    (none, .v 2 (.move (.k (.int .i64 (0)))))])
  .ret)))))
def nt_r18_Check : Nat := 72
def rs_r18_Check : List RV := [.tmp 2]
/-- pontage/pontageref18.SameInts -/
abbrev f_r18_SameInts : FuncId := 11
def ac_r18_SameInts : AC :=
  (.seq
  (.region 0 [
    (none, .v 4 (.move (.k (.bool false))))])
  (.seq
  (.seq
  (.region 0 [
    (none, .v 6 (.move (.t 0))),
    (none, .v 7 (.len false (.t 6))),
    (none, .v 8 (.move (.t 1))),
    (none, .v 9 (.len false (.t 8))),
    (none, .v 10 (.cmp .ne (.t 7) (.t 9)))])
  (.cond (.t 10)
    (.seq
    (.region 0 [
      (none, .v 4 (.move (.k (.bool false))))])
    .ret)
    .skip))
  (.seq
  (.seq
  (.region 0 [
    (none, .v 5 (.move (.k (.int .i64 (0)))))])
  (.block 0
    (.loop [0, 1, 5]
      (.seq
      (.seq
      (.region 0 [
        (none, .v 11 (.move (.t 5))),
        (none, .v 12 (.move (.t 0))),
        (none, .v 13 (.len false (.t 12))),
        (none, .v 14 (.cmp .lt (.t 11) (.t 13)))])
      (.cond (.t 14)
        .skip
        (.exit 0)))
      (.seq
      (.block 1
        (.seq
        (.draw 0 [[], [], [], [], [], [], [], []] [
          (none, .v 17 (.move (.t 0))),
          (none, .v 18 (.move (.t 5))),
          (none, .v 19 (.iadr none (.int .i64) (.t 17) (.t 18))),
          (none, .load 20 (.int .i64) (.t 19)),
          (none, .v 21 (.move (.t 1))),
          (none, .v 22 (.move (.t 5))),
          (none, .v 23 (.iadr none (.int .i64) (.t 21) (.t 22))),
          (none, .load 24 (.int .i64) (.t 23))] [
          (none, .v 25 (.cmp .ne (.t 20) (.t 24)))])
        (.cond (.t 25)
          (.seq
          (.region 0 [
            (none, .v 4 (.move (.k (.bool false))))])
          .ret)
          .skip)))
      (.region 0 [
        (none, .v 15 (.move (.t 5))),
        (none, .v 16 (.add (.t 15) (.k (.int .i64 (1))))),
        (none, .v 5 (.move (.t 16)))]))))))
  (.seq
  (.region 0 [
    (none, .v 4 (.move (.k (.bool true))))])
  .ret))))
def nt_r18_SameInts : Nat := 26
def rs_r18_SameInts : List RV := [.tmp 4]
/-- pontage/pontagelaw19.awake -/
abbrev f_l19_awake : FuncId := 12
def ac_l19_awake : AC :=
  (.seq
  (.region 0 [
    (none, .v 0 (.move (.k (.bool false))))])
  (.seq
  (.region 4 [
    (none, .v 7 (.build T22 [(0, .k (.int .u8 (2)))])),
    (none, .lit 8 0 (.int .i64) 3 [(0, .k (.int .i64 (1))), (1, .k (.int .i64 (2))), (2, .k (.int .i64 (3)))] false),
    (none, .v 9 (.build T53 [(0, .k (.int .i64 (10))), (1, .t 8)])),
    (none, .lit 10 1 T53 1 [(0, .t 9)] false),
    (none, .v 11 (.build T55 [(0, .k (.int .i64 (5))), (1, .k (.int .i64 (10)))])),
    (none, .lit 12 2 T55 1 [(0, .t 11)] false),
    (none, .v 13 (.build T28 [(0, .t 7), (4, .t 10), (3, .t 12)])),
    (none, .alloc 1 3 T28),
    (none, .store T28 (.t 1) (.t 13))])
  (.seq
  (.region 1 [
    (none, .v 14 (.build T46 [(0, .k (.bool true)), (1, .k (.bool true))])),
    (none, .alloc 2 0 T46),
    (none, .store T46 (.t 2) (.t 14))])
  (.seq
  (.region 1 [
    (none, .v 15 (.build T46 [])),
    (none, .load 16 T46 (.t 2)),
    (none, .load 17 T46 (.t 2)),
    (none, .load 18 T46 (.t 2)),
    (none, .lit 19 0 T46 4 [(0, .t 15), (1, .t 16), (2, .t 17), (3, .t 18)] false),
    (none, .v 3 (.move (.t 19)))])
  (.seq
  (.region 1 [
    (none, .v 20 (.build T22 [(0, .k (.int .u8 (4)))])),
    (none, .v 21 (.build T22 [(0, .k (.int .u8 (6)))])),
    (none, .v 22 (.build T31 [(2, .k (.int .i64 (10)))])),
    (none, .v 23 (.build T33 [(3, .k (.int .i64 (5)))])),
    (none, .v 24 (.build T36 [(0, .t 20), (1, .t 21), (2, .t 22), (3, .t 23)])),
    (none, .alloc 4 0 T36),
    (none, .store T36 (.t 4) (.t 24))])
  (.seq
  (.region 1 [
    (none, .load 26 T28 (.t 1)),
    (none, .v 27 (.move (.t 3))),
    (none, .load 28 T36 (.t 4)),
    (none, .callP (some 29) 8 [.t 26, .t 27, .k (.int .i64 (2)), .t 28, .k (.int .i64 (0)), .k (.bool false)] 0 1 true),
    (none, .v 25 (.move (.t 29))),
    (none, .v 30 (.ext (.t 25) 0)),
    (none, .v 31 (.ext (.t 25) 1)),
    (none, .v 5 (.move (.t 30))),
    (none, .v 6 (.move (.t 31)))])
  (.seq
  (.region 1 [
    (none, .v 32 (.move (.t 5))),
    (none, .lit 33 0 (.int .i64) 2 [(0, .k (.int .i64 (1))), (1, .k (.int .i64 (3)))] false),
    (none, .callP (some 34) 11 [.t 32, .t 33] 1 0 true),
    (none, .v 35 (.move (.t 34))),
    (some (35, true), .v 36 (.move (.t 6))),
    (some (35, true), .v 37 (.not (.t 36))),
    (none, .v 38 (.pick (.t 35) (.t 37) (.k (.bool false)))),
    (none, .v 39 (.move (.t 38))),
    (some (39, true), .load 40 T28 (.t 1)),
    (some (39, true), .v 41 (.move (.t 3))),
    (some (39, true), .load 42 T36 (.t 4)),
    (some (39, true), .callP (some 43) 13 [.t 40, .t 41, .k (.int .i64 (2)), .t 42] 1 0 true),
    (some (39, true), .v 44 (.cmp .eq (.t 43) (.k (.int .i64 (0))))),
    (none, .v 45 (.pick (.t 39) (.t 44) (.k (.bool false)))),
    (none, .v 46 (.move (.t 45))),
    (some (46, true), .load 47 T28 (.t 1)),
    (some (46, true), .v 48 (.move (.t 3))),
    (some (46, true), .load 49 T36 (.t 4)),
    (some (46, true), .callP (some 50) 13 [.t 47, .t 48, .k (.int .i64 (0)), .t 49] 1 0 true),
    (some (46, true), .v 51 (.cmp .eq (.t 50) (.k (.int .i64 (8))))),
    (none, .v 52 (.pick (.t 46) (.t 51) (.k (.bool false)))),
    (none, .v 53 (.move (.t 52))),
    (some (53, true), .load 54 T28 (.t 1)),
    (some (53, true), .v 55 (.move (.t 3))),
    (some (53, true), .load 56 T36 (.t 4)),
    (some (53, true), .callP (some 57) 25 [.t 54, .t 55, .k (.int .i64 (2)), .t 56] 1 0 true),
    (none, .v 58 (.pick (.t 53) (.t 57) (.k (.bool false)))),
    (none, .v 59 (.move (.t 58))),
    (some (59, true), .load 60 T28 (.t 1)),
    (some (59, true), .load 61 T36 (.t 4)),
    (some (59, true), .callP (some 62) 14 [.t 60, .t 61] 1 0 true),
    (some (59, true), .v 63 (.cmp .eq (.t 62) (.k (.int .i64 (0))))),
    (none, .v 64 (.pick (.t 59) (.t 63) (.k (.bool false)))),
    (none, .v 65 (.move (.t 64))),
    (some (65, true), .load 66 T28 (.t 1)),
    (some (65, true), .v 67 (.build T36 [])),
    (some (65, true), .callP (some 68) 14 [.t 66, .t 67] 1 0 true),
    (some (65, true), .v 69 (.cmp .eq (.t 68) (.k (.int .i64 (7))))),
    (none, .v 70 (.pick (.t 65) (.t 69) (.k (.bool false)))),
    (none, .v 0 (.move (.t 70)))])
  .ret)))))))
def nt_l19_awake : Nat := 71
def rs_l19_awake : List RV := [.tmp 0]
/-- pontage/bcomp.In -/
abbrev f_bcomp_In : FuncId := 13
def ac_bcomp_In : AC :=
  (.seq
  (.region 0 [
    (none, .boxc 4 T28 (.t 0)),
    (none, .boxc 7 T36 (.t 3)),
    (none, .v 8 (.move (.k (.int .i64 (0)))))])
  (.block 0
    (.seq
    (.region 0 [
      (none, .load 10 T28 (.t 4)),
      (none, .v 11 (.move (.t 2))),
      (none, .load 12 T36 (.t 7)),
      (none, .callP (some 13) 26 [.t 10, .t 11, .t 12] 0 0 true),
      (none, .v 14 (.not (.t 13))),
      (none, .v 9 (.move (.t 14)))])
    (.cond (.t 9)
      (.seq
      (.region 0 [
        (none, .v 8 (.move (.k (.int .i64 (8)))))])
      .ret)
      (.seq
      (.region 0 [
        (none, .v 16 (.fadr T36 1 (.t 7))),
        (none, .load 17 T22 (.t 16)),
        (none, .v 18 (.fadr T28 0 (.t 4))),
        (none, .load 19 T22 (.t 18)),
        (none, .v 20 (.eqT T22 false (.t 17) (.t 19))),
        (none, .v 15 (.move (.t 20)))])
      (.cond (.t 15)
        (.seq
        (.region 0 [
          (none, .v 8 (.move (.k (.int .i64 (11)))))])
        .ret)
        (.seq
        (.region 0 [
          (none, .v 22 (.fadr T36 0 (.t 7))),
          (none, .load 23 T22 (.t 22)),
          (none, .callP (some 24) 27 [.t 23] 0 0 true),
          (none, .v 25 (.cmp .eq (.t 24) (.k (.int .i64 (4))))),
          (none, .v 21 (.move (.t 25)))])
        (.cond (.t 21)
          (.seq
          (.region 0 [
            (none, .v 8 (.move (.k (.int .i64 (10)))))])
          .ret)
          (.seq
          (.region 0 [
            (none, .v 27 (.move (.t 1))),
            (none, .v 28 (.move (.t 2))),
            (none, .callP (some 29) 20 [.t 27, .t 28] 0 0 true),
            (none, .v 30 (.fieldv T46 1 (.t 29))),
            (none, .v 31 (.not (.t 30))),
            (none, .v 26 (.move (.t 31)))])
          (.cond (.t 26)
            (.seq
            (.region 0 [
              (none, .v 8 (.move (.k (.int .i64 (9)))))])
            .ret)
            (.seq
            (.region 0 [
              (none, .v 8 (.move (.k (.int .i64 (0)))))])
            .ret)))))))))))
def nt_bcomp_In : Nat := 32
def rs_bcomp_In : List RV := [.tmp 8]
/-- pontage/bcomp.Accept -/
abbrev f_bcomp_Accept : FuncId := 14
def ac_bcomp_Accept : AC :=
  (.seq
  (.region 0 [
    (none, .boxc 2 T28 (.t 0)),
    (none, .boxc 3 T36 (.t 1)),
    (none, .v 4 (.move (.k (.int .i64 (0)))))])
  (.seq
  (.seq
  (.region 0 [
    (none, .load 8 T28 (.t 2)),
    (none, .v 9 (.fadr T36 3 (.t 3))),
    (none, .v 10 (.fadr T33 3 (.t 9))),
    (none, .load 11 (.int .i64) (.t 10)),
    (none, .callP (some 12) 28 [.t 8, .t 11] 0 0 true),
    (none, .v 7 (.move (.t 12))),
    (none, .v 13 (.ext (.t 7) 0)),
    (none, .v 14 (.ext (.t 7) 1)),
    (none, .v 5 (.move (.t 13))),
    (none, .v 6 (.move (.t 14)))])
  (.seq
  (.region 0 [
    (none, .v 15 (.move (.t 6))),
    (none, .v 16 (.not (.t 15))),
    (none, .v 17 (.move (.t 16))),
    (some (17, false), .v 18 (.move (.t 5))),
    (some (17, false), .v 19 (.fadr T36 2 (.t 3))),
    (some (17, false), .v 20 (.fadr T31 2 (.t 19))),
    (some (17, false), .load 21 (.int .i64) (.t 20)),
    (some (17, false), .v 22 (.cmp .ne (.t 18) (.t 21))),
    (none, .v 23 (.pick (.t 17) (.k (.bool true)) (.t 22)))])
  (.cond (.t 23)
    (.seq
    (.region 0 [
      (none, .v 4 (.move (.k (.int .i64 (7)))))])
    .ret)
    .skip)))
  (.seq
  (.region 0 [
    (none, .v 4 (.move (.k (.int .i64 (0)))))])
  .ret)))
def nt_bcomp_Accept : Nat := 24
def rs_bcomp_Accept : List RV := [.tmp 4]
/-- pontage/mac.Many -/
abbrev f_mac_Many : FuncId := 17
def ac_mac_Many : AC :=
  (.seq
  (.region 0 [
    (none, .boxc 1 T22 (.t 0)),
    (none, .v 2 (.move (.k (.bool false))))])
  (.seq
  (.region 0 [
    (none, .v 3 (.iadr (some 6) (.int .u8) (.t 1) (.k (.int .i64 (0))))),
    (none, .load 4 (.int .u8) (.t 3)),
    (none, .v 5 (.bit .and (.t 4) (.k (.int .u8 (1))))),
    (none, .v 6 (.cmp .eq (.t 5) (.k (.int .u8 (1))))),
    (none, .v 2 (.move (.t 6)))])
  .ret))
def nt_mac_Many : Nat := 7
def rs_mac_Many : List RV := [.tmp 2]
/-- pontage/bcomp.Out$1 -/
abbrev f_bcomp_Out_1 : FuncId := 18
def ac_bcomp_Out_1 : AC :=
  (.seq
  (.region 0 [
    (none, .v 6 (.move (.k (.bool false))))])
  (.seq
  (.region 0 [
    (none, .load 7 .bool (.t 1)),
    (none, .v 8 (.not (.t 7))),
    (none, .v 9 (.move (.t 8))),
    (some (9, true), .load 10 .bool (.t 2)),
    (some (9, true), .v 11 (.move (.t 10))),
    (some (11, false), .load 12 .bool (.t 3)),
    (some (11, false), .v 13 (.not (.t 12))),
    (some (9, true), .v 14 (.pick (.t 11) (.k (.bool true)) (.t 13))),
    (some (9, true), .v 15 (.move (.t 14))),
    (some (15, false), .v 16 (.move (.t 0))),
    (some (15, false), .load 17 (.int .i64) (.t 4)),
    (some (15, false), .v 18 (.cmp .eq (.t 16) (.t 17))),
    (some (9, true), .v 19 (.pick (.t 15) (.k (.bool true)) (.t 18))),
    (none, .v 20 (.pick (.t 9) (.t 19) (.k (.bool false)))),
    (none, .v 6 (.move (.t 20)))])
  .ret))
def nt_bcomp_Out_1 : Nat := 21
def rs_bcomp_Out_1 : List RV := [.tmp 6]
/-- pontage/prov.Ports -/
abbrev f_prov_Ports : FuncId := 19
def ac_prov_Ports : AC :=
  (.seq
  (.region 1 [
    (none, .boxc 2 T28 (.t 0)),
    (none, .box 3 0 (.int .i64) (.t 1)),
    (none, .v 4 (.move (.k (.sl (.int .i64) [] .full)))),
    (none, .v 5 (.move (.k (.bool false))))])
  (.seq
  (.region 1 [
    (none, .v 9 (.fadr T28 4 (.t 2))),
    (none, .load 10 (.sl (.st [.int .i64, .sl (.int .i64)])) (.t 9)),
    (none, .v 11 (.mkfn 30 [.t 3])),
    (none, .callS (some 12) (.k (.fn 29 [])) [.t 10, .t 11] [] [29]),
    (none, .v 8 (.move (.t 12))),
    (none, .v 13 (.ext (.t 8) 0)),
    (none, .v 14 (.ext (.t 8) 1)),
    (none, .alloc 6 0 T53),
    (none, .store T53 (.t 6) (.t 13)),
    (none, .v 7 (.move (.t 14)))])
  (.seq
  (.region 1 [
    (none, .v 15 (.fadr T53 1 (.t 6))),
    (none, .load 16 (.sl (.int .i64)) (.t 15)),
    (none, .callP (some 17) 31 [.t 16] 0 1 true),
    (none, .v 18 (.move (.t 7))),
    (none, .v 4 (.move (.t 17))),
    (none, .v 5 (.move (.t 18)))])
  .ret)))
def nt_prov_Ports : Nat := 19
def rs_prov_Ports : List RV := [.tmp 4, .tmp 5]
/-- pontage/bcomp.gate -/
abbrev f_bcomp_gate : FuncId := 20
def ac_bcomp_gate : AC :=
  (.seq
  (.region 1 [
    (none, .alloc 4 0 T46)])
  (.seq
  (.seq
  (.region 0 [
    (none, .v 5 (.move (.t 1))),
    (none, .v 6 (.cmp .lt (.t 5) (.k (.int .i64 (0))))),
    (none, .v 7 (.move (.t 6))),
    (some (7, false), .v 8 (.move (.t 1))),
    (some (7, false), .v 9 (.move (.t 0))),
    (some (7, false), .v 10 (.len false (.t 9))),
    (some (7, false), .v 11 (.cmp .ge (.t 8) (.t 10))),
    (none, .v 12 (.pick (.t 7) (.k (.bool true)) (.t 11)))])
  (.cond (.t 12)
    (.seq
    (.region 0 [
      (none, .v 13 (.build T46 [])),
      (none, .store T46 (.t 4) (.t 13))])
    .ret)
    .skip))
  (.seq
  (.region 0 [
    (none, .v 14 (.move (.t 0))),
    (none, .v 15 (.move (.t 1))),
    (none, .v 16 (.iadr none T46 (.t 14) (.t 15))),
    (none, .load 17 T46 (.t 16)),
    (none, .store T46 (.t 4) (.t 17))])
  .ret)))
def nt_bcomp_gate : Nat := 18
def rs_bcomp_gate : List RV := [.cell 4 T46]
/-- pontage/pontageref01.Kind -/
abbrev f_r01_Kind : FuncId := 21
def ac_r01_Kind : AC :=
  (.seq
  (.region 0 [
    (none, .boxc 1 T22 (.t 0)),
    (none, .v 2 (.move (.k (.int .i64 (0)))))])
  (.seq
  (.block 0
    (.seq
    (.region 0 [
      (none, .load 4 T22 (.t 1)),
      (none, .callP (some 5) 32 [.t 4, .k (.int .u8 (0))] 0 0 true),
      (none, .v 3 (.move (.t 5)))])
    (.cond (.t 3)
      (.seq
      (.region 0 [
        (none, .v 2 (.move (.k (.int .i64 (6)))))])
      .ret)
      (.seq
      (.region 0 [
        (none, .load 7 T22 (.t 1)),
        (none, .callP (some 8) 32 [.t 7, .k (.int .u8 (255))] 0 0 true),
        (none, .v 6 (.move (.t 8)))])
      (.cond (.t 6)
        (.seq
        (.region 0 [
          (none, .v 2 (.move (.k (.int .i64 (3)))))])
        .ret)
        (.seq
        (.region 0 [
          (none, .v 10 (.iadr (some 6) (.int .u8) (.t 1) (.k (.int .i64 (0))))),
          (none, .load 11 (.int .u8) (.t 10)),
          (none, .v 12 (.cmp .eq (.t 11) (.k (.int .u8 (1))))),
          (none, .v 13 (.move (.t 12))),
          (some (13, true), .v 14 (.iadr (some 6) (.int .u8) (.t 1) (.k (.int .i64 (1))))),
          (some (13, true), .load 15 (.int .u8) (.t 14)),
          (some (13, true), .v 16 (.cmp .eq (.t 15) (.k (.int .u8 (128))))),
          (none, .v 17 (.pick (.t 13) (.t 16) (.k (.bool false)))),
          (none, .v 18 (.move (.t 17))),
          (some (18, true), .v 19 (.iadr (some 6) (.int .u8) (.t 1) (.k (.int .i64 (2))))),
          (some (18, true), .load 20 (.int .u8) (.t 19)),
          (some (18, true), .v 21 (.cmp .eq (.t 20) (.k (.int .u8 (194))))),
          (none, .v 22 (.pick (.t 18) (.t 21) (.k (.bool false)))),
          (none, .v 23 (.move (.t 22))),
          (some (23, true), .v 24 (.iadr (some 6) (.int .u8) (.t 1) (.k (.int .i64 (3))))),
          (some (23, true), .load 25 (.int .u8) (.t 24)),
          (some (23, true), .v 26 (.cmp .eq (.t 25) (.k (.int .u8 (0))))),
          (none, .v 27 (.pick (.t 23) (.t 26) (.k (.bool false)))),
          (none, .v 28 (.move (.t 27))),
          (some (28, true), .v 29 (.iadr (some 6) (.int .u8) (.t 1) (.k (.int .i64 (4))))),
          (some (28, true), .load 30 (.int .u8) (.t 29)),
          (some (28, true), .v 31 (.cmp .eq (.t 30) (.k (.int .u8 (0))))),
          (none, .v 32 (.pick (.t 28) (.t 31) (.k (.bool false)))),
          (none, .v 33 (.move (.t 32))),
          (some (33, true), .v 34 (.iadr (some 6) (.int .u8) (.t 1) (.k (.int .i64 (5))))),
          (some (33, true), .load 35 (.int .u8) (.t 34)),
          (some (33, true), .v 36 (.cmp .lt (.t 35) (.k (.int .u8 (16))))),
          (none, .v 37 (.pick (.t 33) (.t 36) (.k (.bool false)))),
          (none, .v 9 (.move (.t 37)))])
        (.cond (.t 9)
          (.seq
          (.region 0 [
            (none, .v 2 (.move (.k (.int .i64 (4)))))])
          .ret)
          (.seq
          (.region 0 [
            (none, .v 39 (.iadr (some 6) (.int .u8) (.t 1) (.k (.int .i64 (0))))),
            (none, .load 40 (.int .u8) (.t 39)),
            (none, .v 41 (.cmp .eq (.t 40) (.k (.int .u8 (1))))),
            (none, .v 42 (.move (.t 41))),
            (some (42, true), .v 43 (.iadr (some 6) (.int .u8) (.t 1) (.k (.int .i64 (1))))),
            (some (42, true), .load 44 (.int .u8) (.t 43)),
            (some (42, true), .v 45 (.cmp .eq (.t 44) (.k (.int .u8 (30))))),
            (none, .v 46 (.pick (.t 42) (.t 45) (.k (.bool false)))),
            (none, .v 47 (.move (.t 46))),
            (some (47, true), .v 48 (.iadr (some 6) (.int .u8) (.t 1) (.k (.int .i64 (2))))),
            (some (47, true), .load 49 (.int .u8) (.t 48)),
            (some (47, true), .v 50 (.cmp .eq (.t 49) (.k (.int .u8 (131))))),
            (none, .v 51 (.pick (.t 47) (.t 50) (.k (.bool false)))),
            (none, .v 38 (.move (.t 51)))])
          (.cond (.t 38)
            (.seq
            (.region 0 [
              (none, .v 2 (.move (.k (.int .i64 (5)))))])
            .ret)
            (.seq
            (.region 0 [
              (none, .v 53 (.iadr (some 6) (.int .u8) (.t 1) (.k (.int .i64 (0))))),
              (none, .load 54 (.int .u8) (.t 53)),
              (none, .v 55 (.rem (.t 54) (.k (.int .u8 (2))))),
              (none, .v 56 (.cmp .eq (.t 55) (.k (.int .u8 (1))))),
              (none, .v 52 (.move (.t 56)))])
            (.cond (.t 52)
              (.seq
              (.region 0 [
                (none, .v 2 (.move (.k (.int .i64 (2)))))])
              .ret)
              .skip)))))))))))
  (.seq
  (.region 0 [
    (none, .v 2 (.move (.k (.int .i64 (1)))))])
  .ret)))
def nt_r01_Kind : Nat := 57
def rs_r01_Kind : List RV := [.tmp 2]
/-- pontage/pontageref18.members -/
abbrev f_r18_members : FuncId := 22
def ac_r18_members : AC :=
  (.seq
  (.region 0 [
    (none, .boxc 1 T28 (.t 0)),
    (none, .v 2 (.move (.k (.bool false))))])
  (.seq
  (.region 1 [
    (none, .mk 3 0 (.int .i64) (.k (.sl (.int .i64) [] .full)))])
  (.seq
  (.seq
  (.region 0 [
    (none, .v 4 (.move (.k (.int .i64 (0)))))])
  (.block 0
    (.loop [1, 3, 4]
      (.seq
      (.seq
      (.region 0 [
        (none, .v 6 (.move (.t 4))),
        (none, .v 7 (.fadr T28 4 (.t 1))),
        (none, .load 8 (.sl (.st [.int .i64, .sl (.int .i64)])) (.t 7)),
        (none, .v 9 (.len false (.t 8))),
        (none, .v 10 (.cmp .lt (.t 6) (.t 9)))])
      (.cond (.t 10)
        .skip
        (.exit 0)))
      (.seq
      (.block 1
        (.seq
        (.region 1 [
          (none, .v 13 (.fadr T28 4 (.t 1))),
          (none, .load 14 (.sl (.st [.int .i64, .sl (.int .i64)])) (.t 13)),
          (none, .v 15 (.move (.t 4))),
          (none, .v 16 (.iadr none T53 (.t 14) (.t 15))),
          (none, .load 17 T53 (.t 16)),
          (none, .alloc 5 0 T53),
          (none, .store T53 (.t 5) (.t 17))])
        (.seq
        (.seq
        (.region 0 [
          (none, .v 18 (.fadr T53 0 (.t 5))),
          (none, .load 19 (.int .i64) (.t 18)),
          (none, .callP (some 20) 33 [.t 19] 0 0 true),
          (none, .v 21 (.not (.t 20))),
          (none, .v 22 (.move (.t 21))),
          (some (22, false), .v 23 (.fadr T53 1 (.t 5))),
          (some (22, false), .load 24 (.sl (.int .i64)) (.t 23)),
          (some (22, false), .callP (some 25) 34 [.t 24] 0 0 true),
          (some (22, false), .v 26 (.not (.t 25))),
          (none, .v 27 (.pick (.t 22) (.k (.bool true)) (.t 26))),
          (none, .v 28 (.move (.t 27))),
          (some (28, false), .load 29 T28 (.t 1)),
          (some (28, false), .v 30 (.fadr T53 1 (.t 5))),
          (some (28, false), .load 31 (.sl (.int .i64)) (.t 30)),
          (some (28, false), .callP (some 32) 35 [.t 29, .t 31, .k (.int .i64 (2))] 0 0 true),
          (some (28, false), .v 33 (.not (.t 32))),
          (none, .v 34 (.pick (.t 28) (.k (.bool true)) (.t 33)))])
        (.cond (.t 34)
          (.seq
          (.region 0 [
            (none, .v 2 (.move (.k (.bool false))))])
          .ret)
          .skip))
        (.region 2 [
          (none, .v 35 (.move (.t 3))),
          (none, .v 36 (.fadr T53 0 (.t 5))),
          (none, .load 37 (.int .i64) (.t 36)),
          (none, .lit 38 0 (.int .i64) 1 [(0, .t 37)] false),
          (none, .app 39 1 (.int .i64) 8 (.t 35) (.t 38) false),
          (none, .v 3 (.move (.t 39)))]))))
      (.region 0 [
        (none, .v 11 (.move (.t 4))),
        (none, .v 12 (.add (.t 11) (.k (.int .i64 (1))))),
        (none, .v 4 (.move (.t 12)))]))))))
  (.seq
  (.region 0 [
    (none, .v 40 (.move (.t 3))),
    (none, .callP (some 41) 34 [.t 40] 0 0 true),
    (none, .v 42 (.move (.t 41))),
    (some (42, true), .v 43 (.move (.t 3))),
    (some (42, true), .v 44 (.len false (.t 43))),
    (some (42, true), .v 45 (.cmp .le (.t 44) (.k (.int .i64 (64))))),
    (none, .v 46 (.pick (.t 42) (.t 45) (.k (.bool false)))),
    (none, .v 2 (.move (.t 46)))])
  .ret))))
def nt_r18_members : Nat := 47
def rs_r18_members : List RV := [.tmp 2]
/-- pontage/pontageref18.carries -/
abbrev f_r18_carries : FuncId := 23
def ac_r18_carries : AC :=
  (.seq
  (.region 0 [
    (none, .boxc 1 T28 (.t 0)),
    (none, .v 2 (.move (.k (.bool false))))])
  (.seq
  (.region 1 [
    (none, .mk 3 0 (.int .i64) (.k (.sl (.int .i64) [] .full)))])
  (.seq
  (.seq
  (.region 0 [
    (none, .v 4 (.move (.k (.int .i64 (0)))))])
  (.block 0
    (.loop [1, 3, 4]
      (.seq
      (.seq
      (.region 0 [
        (none, .v 8 (.move (.t 4))),
        (none, .v 9 (.fadr T28 3 (.t 1))),
        (none, .load 10 (.sl (.st [.int .i64, .int .i64])) (.t 9)),
        (none, .v 11 (.len false (.t 10))),
        (none, .v 12 (.cmp .lt (.t 8) (.t 11)))])
      (.cond (.t 12)
        .skip
        (.exit 0)))
      (.seq
      (.block 1
        (.seq
        (.region 1 [
          (none, .v 15 (.fadr T28 3 (.t 1))),
          (none, .load 16 (.sl (.st [.int .i64, .int .i64])) (.t 15)),
          (none, .v 17 (.move (.t 4))),
          (none, .v 18 (.iadr none T55 (.t 16) (.t 17))),
          (none, .load 19 T55 (.t 18)),
          (none, .alloc 5 0 T55),
          (none, .store T55 (.t 5) (.t 19))])
        (.seq
        (.region 0 [
          (none, .load 21 T28 (.t 1)),
          (none, .v 22 (.fadr T55 1 (.t 5))),
          (none, .load 23 (.int .i64) (.t 22)),
          (none, .callP (some 24) 9 [.t 21, .t 23] 0 0 true),
          (none, .v 20 (.move (.t 24))),
          (none, .v 25 (.ext (.t 20) 0)),
          (none, .v 26 (.ext (.t 20) 1)),
          (none, .v 6 (.move (.t 25))),
          (none, .v 7 (.move (.t 26)))])
        (.seq
        (.seq
        (.region 0 [
          (none, .v 27 (.fadr T55 0 (.t 5))),
          (none, .load 28 (.int .i64) (.t 27)),
          (none, .callP (some 29) 36 [.t 28] 0 0 true),
          (none, .v 30 (.not (.t 29))),
          (none, .v 31 (.move (.t 30))),
          (some (31, false), .v 32 (.move (.t 7))),
          (some (31, false), .v 33 (.not (.t 32))),
          (none, .v 34 (.pick (.t 31) (.k (.bool true)) (.t 33)))])
        (.cond (.t 34)
          (.seq
          (.region 0 [
            (none, .v 2 (.move (.k (.bool false))))])
          .ret)
          .skip))
        (.region 2 [
          (none, .v 35 (.move (.t 3))),
          (none, .v 36 (.fadr T55 0 (.t 5))),
          (none, .load 37 (.int .i64) (.t 36)),
          (none, .lit 38 0 (.int .i64) 1 [(0, .t 37)] false),
          (none, .app 39 1 (.int .i64) 8 (.t 35) (.t 38) false),
          (none, .v 3 (.move (.t 39)))])))))
      (.region 0 [
        (none, .v 13 (.move (.t 4))),
        (none, .v 14 (.add (.t 13) (.k (.int .i64 (1))))),
        (none, .v 4 (.move (.t 14)))]))))))
  (.seq
  (.region 0 [
    (none, .v 40 (.move (.t 3))),
    (none, .callP (some 41) 34 [.t 40] 0 0 true),
    (none, .v 42 (.move (.t 41))),
    (some (42, true), .v 43 (.move (.t 3))),
    (some (42, true), .v 44 (.len false (.t 43))),
    (some (42, true), .v 45 (.cmp .le (.t 44) (.k (.int .i64 (64))))),
    (none, .v 46 (.pick (.t 42) (.t 45) (.k (.bool false)))),
    (none, .v 2 (.move (.t 46)))])
  .ret))))
def nt_r18_carries : Nat := 47
def rs_r18_carries : List RV := [.tmp 2]
/-- pontage/pontageref18.maps -/
abbrev f_r18_maps : FuncId := 24
def ac_r18_maps : AC :=
  (.seq
  (.region 0 [
    (none, .boxc 1 T28 (.t 0)),
    (none, .v 2 (.move (.k (.bool false))))])
  (.seq
  (.seq
  (.region 0 [
    (none, .v 3 (.move (.k (.int .i64 (0)))))])
  (.block 0
    (.loop [1, 3]
      (.seq
      (.seq
      (.region 0 [
        (none, .v 8 (.move (.t 3))),
        (none, .v 9 (.fadr T28 2 (.t 1))),
        (none, .load 10 (.sl (.st [.int .i64, .int .i64, .int .i64])) (.t 9)),
        (none, .v 11 (.len false (.t 10))),
        (none, .v 12 (.cmp .lt (.t 8) (.t 11)))])
      (.cond (.t 12)
        .skip
        (.exit 0)))
      (.seq
      (.block 1
        (.seq
        (.region 1 [
          (none, .v 15 (.fadr T28 2 (.t 1))),
          (none, .load 16 (.sl (.st [.int .i64, .int .i64, .int .i64])) (.t 15)),
          (none, .v 17 (.move (.t 3))),
          (none, .v 18 (.iadr none T101 (.t 16) (.t 17))),
          (none, .load 19 T101 (.t 18)),
          (none, .alloc 4 0 T101),
          (none, .store T101 (.t 4) (.t 19))])
        (.seq
        (.region 0 [
          (none, .load 21 T28 (.t 1)),
          (none, .v 22 (.fadr T101 2 (.t 4))),
          (none, .load 23 (.int .i64) (.t 22)),
          (none, .callP (some 24) 37 [.t 21, .t 23] 0 0 true),
          (none, .v 20 (.move (.t 24))),
          (none, .v 25 (.ext (.t 20) 0)),
          (none, .v 26 (.ext (.t 20) 1)),
          (none, .v 5 (.move (.t 25))),
          (none, .v 6 (.move (.t 26)))])
        (.seq
        (.seq
        (.region 1 [
          (none, .v 27 (.fadr T101 1 (.t 4))),
          (none, .load 28 (.int .i64) (.t 27)),
          (none, .callP (some 29) 33 [.t 28] 0 0 true),
          (none, .v 30 (.not (.t 29))),
          (none, .v 31 (.move (.t 30))),
          (some (31, false), .v 32 (.move (.t 6))),
          (some (31, false), .v 33 (.not (.t 32))),
          (none, .v 34 (.pick (.t 31) (.k (.bool true)) (.t 33))),
          (none, .v 35 (.move (.t 34))),
          (some (35, false), .load 36 T28 (.t 1)),
          (some (35, false), .v 37 (.fadr T101 0 (.t 4))),
          (some (35, false), .load 38 (.int .i64) (.t 37)),
          (some (35, false), .lit 39 0 (.int .i64) 1 [(0, .t 38)] false),
          (some (35, false), .callP (some 40) 35 [.t 36, .t 39, .k (.int .i64 (1))] 1 0 true),
          (some (35, false), .v 41 (.not (.t 40))),
          (none, .v 42 (.pick (.t 35) (.k (.bool true)) (.t 41)))])
        (.cond (.t 42)
          (.seq
          (.region 0 [
            (none, .v 2 (.move (.k (.bool false))))])
          .ret)
          .skip))
        (.seq
        (.seq
        (.region 0 [
          (none, .v 7 (.move (.k (.int .i64 (0)))))])
        (.block 2
          (.loop [1, 3, 4, 7]
            (.seq
            (.seq
            (.region 0 [
              (none, .v 43 (.move (.t 7))),
              (none, .v 44 (.move (.t 3))),
              (none, .v 45 (.cmp .lt (.t 43) (.t 44)))])
            (.cond (.t 45)
              .skip
              (.exit 2)))
            (.seq
            (.block 3
              (.seq
              (.draw 0 [[], [], [], [], [], [], [], [], [], [], [], [], [], [], [], [], [], []] [
                (none, .v 48 (.fadr T28 2 (.t 1))),
                (none, .load 49 (.sl (.st [.int .i64, .int .i64, .int .i64])) (.t 48)),
                (none, .v 50 (.move (.t 7))),
                (none, .v 51 (.iadr none T101 (.t 49) (.t 50))),
                (none, .v 52 (.fadr T101 0 (.t 51))),
                (none, .load 53 (.int .i64) (.t 52)),
                (none, .v 54 (.fadr T101 0 (.t 4))),
                (none, .load 55 (.int .i64) (.t 54)),
                (none, .v 56 (.cmp .eq (.t 53) (.t 55))),
                (none, .v 57 (.move (.t 56))),
                (some (57, true), .v 58 (.fadr T28 2 (.t 1))),
                (some (57, true), .load 59 (.sl (.st [.int .i64, .int .i64, .int .i64])) (.t 58)),
                (some (57, true), .v 60 (.move (.t 7))),
                (some (57, true), .v 61 (.iadr none T101 (.t 59) (.t 60))),
                (some (57, true), .v 62 (.fadr T101 2 (.t 61))),
                (some (57, true), .load 63 (.int .i64) (.t 62)),
                (some (57, true), .v 64 (.fadr T101 2 (.t 4))),
                (some (57, true), .load 65 (.int .i64) (.t 64))] [
                (some (57, true), .v 66 (.cmp .eq (.t 63) (.t 65))),
                (none, .v 67 (.pick (.t 57) (.t 66) (.k (.bool false))))])
              (.cond (.t 67)
                (.seq
                (.region 0 [
                  (none, .v 2 (.move (.k (.bool false))))])
                .ret)
                .skip)))
            (.region 0 [
              (none, .v 46 (.move (.t 7))),
              (none, .v 47 (.add (.t 46) (.k (.int .i64 (1))))),
              (none, .v 7 (.move (.t 47)))]))))))
        (.seq
        (.draw 0 [[], [], [], [], [], [], [], [], [], []] [
          (none, .v 68 (.move (.t 3))),
          (none, .v 69 (.cmp .gt (.t 68) (.k (.int .i64 (0))))),
          (none, .v 70 (.move (.t 69))),
          (some (70, true), .v 71 (.fadr T28 2 (.t 1))),
          (some (70, true), .load 72 (.sl (.st [.int .i64, .int .i64, .int .i64])) (.t 71)),
          (some (70, true), .v 73 (.move (.t 3))),
          (some (70, true), .v 74 (.sub (.t 73) (.k (.int .i64 (1))))),
          (some (70, true), .v 75 (.iadr none T101 (.t 72) (.t 74))),
          (some (70, true), .load 76 T101 (.t 75)),
          (some (70, true), .load 77 T101 (.t 4))] [
          (some (70, true), .callP (some 78) 38 [.t 76, .t 77] 0 0 true),
          (some (70, true), .v 79 (.not (.t 78))),
          (none, .v 80 (.pick (.t 70) (.t 79) (.k (.bool false))))])
        (.cond (.t 80)
          (.seq
          (.region 0 [
            (none, .v 2 (.move (.k (.bool false))))])
          .ret)
          .skip)))))))
      (.region 0 [
        (none, .v 13 (.move (.t 3))),
        (none, .v 14 (.add (.t 13) (.k (.int .i64 (1))))),
        (none, .v 3 (.move (.t 14)))]))))))
  (.seq
  (.region 0 [
    (none, .v 81 (.fadr T28 2 (.t 1))),
    (none, .load 82 (.sl (.st [.int .i64, .int .i64, .int .i64])) (.t 81)),
    (none, .v 83 (.len false (.t 82))),
    (none, .v 84 (.cmp .le (.t 83) (.k (.int .i64 (64))))),
    (none, .v 2 (.move (.t 84)))])
  .ret)))
def nt_r18_maps : Nat := 85
def rs_r18_maps : List RV := [.tmp 2]
/-- pontage/bcomp.Learns -/
abbrev f_bcomp_Learns : FuncId := 25
def ac_bcomp_Learns : AC :=
  (.seq
  (.region 0 [
    (none, .boxc 4 T28 (.t 0)),
    (none, .boxc 7 T36 (.t 3)),
    (none, .v 8 (.move (.k (.bool false))))])
  (.seq
  (.region 0 [
    (none, .load 9 T28 (.t 4)),
    (none, .v 10 (.move (.t 2))),
    (none, .load 11 T36 (.t 7)),
    (none, .callP (some 12) 26 [.t 9, .t 10, .t 11] 0 0 true),
    (none, .v 13 (.move (.t 12))),
    (some (13, true), .v 14 (.move (.t 1))),
    (some (13, true), .v 15 (.move (.t 2))),
    (some (13, true), .callP (some 16) 20 [.t 14, .t 15] 0 0 true),
    (some (13, true), .v 17 (.fieldv T46 0 (.t 16))),
    (none, .v 18 (.pick (.t 13) (.t 17) (.k (.bool false)))),
    (none, .v 19 (.move (.t 18))),
    (some (19, true), .v 20 (.fadr T36 1 (.t 7))),
    (some (19, true), .load 21 T22 (.t 20)),
    (some (19, true), .v 22 (.fadr T28 0 (.t 4))),
    (some (19, true), .load 23 T22 (.t 22)),
    (some (19, true), .v 24 (.eqT T22 true (.t 21) (.t 23))),
    (none, .v 25 (.pick (.t 19) (.t 24) (.k (.bool false)))),
    (none, .v 26 (.move (.t 25))),
    (some (26, true), .v 27 (.fadr T36 1 (.t 7))),
    (some (26, true), .load 28 T22 (.t 27)),
    (some (26, true), .callP (some 29) 27 [.t 28] 0 0 true),
    (some (26, true), .v 30 (.cmp .eq (.t 29) (.k (.int .i64 (1))))),
    (none, .v 31 (.pick (.t 26) (.t 30) (.k (.bool false)))),
    (none, .v 8 (.move (.t 31)))])
  .ret))
def nt_bcomp_Learns : Nat := 32
def rs_bcomp_Learns : List RV := [.tmp 8]
/-- pontage/bcomp.member -/
abbrev f_bcomp_member : FuncId := 26
def ac_bcomp_member : AC :=
  (.seq
  (.region 0 [
    (none, .boxc 3 T28 (.t 0)),
    (none, .boxc 5 T36 (.t 2)),
    (none, .v 6 (.move (.k (.bool false))))])
  (.seq
  (.region 1 [
    (none, .load 10 T28 (.t 3)),
    (none, .v 11 (.fadr T36 2 (.t 5))),
    (none, .v 12 (.fadr T31 2 (.t 11))),
    (none, .load 13 (.int .i64) (.t 12)),
    (none, .callP (some 14) 19 [.t 10, .t 13] 0 1 true),
    (none, .v 9 (.move (.t 14))),
    (none, .v 15 (.ext (.t 9) 0)),
    (none, .v 16 (.ext (.t 9) 1)),
    (none, .v 7 (.move (.t 15))),
    (none, .v 8 (.move (.t 16)))])
  (.seq
  (.region 0 [
    (none, .v 17 (.move (.t 7))),
    (none, .v 18 (.move (.t 1))),
    (none, .callP (some 19) 39 [.t 17, .t 18] 0 0 true),
    (none, .v 6 (.move (.t 19)))])
  .ret)))
def nt_bcomp_member : Nat := 20
def rs_bcomp_member : List RV := [.tmp 6]
/-- pontage/mac.Kind -/
abbrev f_mac_Kind : FuncId := 27
def ac_mac_Kind : AC :=
  (.seq
  (.region 0 [
    (none, .boxc 1 T22 (.t 0)),
    (none, .v 2 (.move (.k (.int .i64 (0)))))])
  (.block 0
    (.seq
    (.region 0 [
      (none, .load 4 T22 (.t 1)),
      (none, .v 5 (.build T22 [])),
      (none, .v 6 (.eqT T22 false (.t 4) (.t 5))),
      (none, .v 3 (.move (.t 6)))])
    (.cond (.t 3)
      (.seq
      (.region 0 [
        (none, .v 2 (.move (.k (.int .i64 (6)))))])
      .ret)
      (.seq
      (.region 0 [
        (none, .load 8 T22 (.t 1)),
        (none, .v 9 (.build T22 [(0, .k (.int .u8 (255))), (1, .k (.int .u8 (255))), (2, .k (.int .u8 (255))), (3, .k (.int .u8 (255))), (4, .k (.int .u8 (255))), (5, .k (.int .u8 (255)))])),
        (none, .v 10 (.eqT T22 false (.t 8) (.t 9))),
        (none, .v 7 (.move (.t 10)))])
      (.cond (.t 7)
        (.seq
        (.region 0 [
          (none, .v 2 (.move (.k (.int .i64 (3)))))])
        .ret)
        (.seq
        (.region 0 [
          (none, .v 12 (.sliceA 6 (.int .u8) (.t 1) none (some (.k (.int .i64 (5)))))),
          (none, .v 13 (.sarr 5 (.int .u8) (.t 12))),
          (none, .load 14 T105 (.t 13)),
          (none, .v 15 (.build T105 [(0, .k (.int .u8 (1))), (1, .k (.int .u8 (128))), (2, .k (.int .u8 (194))), (3, .k (.int .u8 (0))), (4, .k (.int .u8 (0)))])),
          (none, .v 16 (.eqT T105 false (.t 14) (.t 15))),
          (none, .v 17 (.move (.t 16))),
          (some (17, true), .v 18 (.iadr (some 6) (.int .u8) (.t 1) (.k (.int .i64 (5))))),
          (some (17, true), .load 19 (.int .u8) (.t 18)),
          (some (17, true), .v 20 (.cmp .lt (.t 19) (.k (.int .u8 (16))))),
          (none, .v 21 (.pick (.t 17) (.t 20) (.k (.bool false)))),
          (none, .v 11 (.move (.t 21)))])
        (.cond (.t 11)
          (.seq
          (.region 0 [
            (none, .v 2 (.move (.k (.int .i64 (4)))))])
          .ret)
          (.seq
          (.region 0 [
            (none, .v 23 (.sliceA 6 (.int .u8) (.t 1) none (some (.k (.int .i64 (3)))))),
            (none, .v 24 (.sarr 3 (.int .u8) (.t 23))),
            (none, .load 25 T106 (.t 24)),
            (none, .v 26 (.build T106 [(0, .k (.int .u8 (1))), (1, .k (.int .u8 (30))), (2, .k (.int .u8 (131)))])),
            (none, .v 27 (.eqT T106 false (.t 25) (.t 26))),
            (none, .v 22 (.move (.t 27)))])
          (.cond (.t 22)
            (.seq
            (.region 0 [
              (none, .v 2 (.move (.k (.int .i64 (5)))))])
            .ret)
            (.seq
            (.region 0 [
              (none, .load 29 T22 (.t 1)),
              (none, .callP (some 30) 17 [.t 29] 0 0 true),
              (none, .v 28 (.move (.t 30)))])
            (.cond (.t 28)
              (.seq
              (.region 0 [
                (none, .v 2 (.move (.k (.int .i64 (2)))))])
              .ret)
              (.seq
              (.region 0 [
                (none, .v 2 (.move (.k (.int .i64 (1)))))])
              .ret)))))))))))))
def nt_mac_Kind : Nat := 31
def rs_mac_Kind : List RV := [.tmp 2]
/-- pontage/prov.Carrier -/
abbrev f_prov_Carrier : FuncId := 28
def ac_prov_Carrier : AC :=
  (.seq
  (.region 1 [
    (none, .boxc 2 T28 (.t 0)),
    (none, .box 3 0 (.int .i64) (.t 1)),
    (none, .v 4 (.move (.k (.int .i64 (0))))),
    (none, .v 5 (.move (.k (.bool false))))])
  (.seq
  (.region 1 [
    (none, .v 9 (.fadr T28 3 (.t 2))),
    (none, .load 10 (.sl (.st [.int .i64, .int .i64])) (.t 9)),
    (none, .v 11 (.mkfn 41 [.t 3])),
    (none, .callS (some 12) (.k (.fn 40 [])) [.t 10, .t 11] [] [40]),
    (none, .v 8 (.move (.t 12))),
    (none, .v 13 (.ext (.t 8) 0)),
    (none, .v 14 (.ext (.t 8) 1)),
    (none, .alloc 6 0 T55),
    (none, .store T55 (.t 6) (.t 13)),
    (none, .v 7 (.move (.t 14)))])
  (.seq
  (.region 0 [
    (none, .v 15 (.fadr T55 1 (.t 6))),
    (none, .load 16 (.int .i64) (.t 15)),
    (none, .v 17 (.move (.t 7))),
    (none, .v 4 (.move (.t 16))),
    (none, .v 5 (.move (.t 17)))])
  .ret)))
def nt_prov_Carrier : Nat := 18
def rs_prov_Carrier : List RV := [.tmp 4, .tmp 5]
/-- pontage/prov.first[pontage/api.Member] -/
abbrev f_prov_first_api_Member : FuncId := 29
def ac_prov_first_api_Member : AC :=
  (.seq
  (.region 1 [
    (none, .alloc 4 0 T53),
    (none, .v 5 (.move (.k (.bool false))))])
  (.seq
  (.region 0 [
    (none, .v 8 (.move (.t 0))),
    (none, .v 9 (.move (.t 1))),
    (none, .callS (some 10) (.k (.fn 42 [])) [.t 8, .t 9] [] [42]),
    (none, .v 6 (.move (.t 10)))])
  (.seq
  (.seq
  (.region 0 [
    (none, .v 11 (.move (.t 6))),
    (none, .v 12 (.cmp .lt (.t 11) (.k (.int .i64 (0)))))])
  (.cond (.t 12)
    (.seq
    (.region 1 [
      (none, .alloc 7 0 T53)])
    (.seq
    (.region 0 [
      (none, .load 13 T53 (.t 7)),
      (none, .store T53 (.t 4) (.t 13)),
      (none, .v 5 (.move (.k (.bool false))))])
    .ret))
    .skip))
  (.seq
  (.region 0 [
    (none, .v 14 (.move (.t 0))),
    (none, .v 15 (.move (.t 6))),
    (none, .v 16 (.iadr none T53 (.t 14) (.t 15))),
    (none, .load 17 T53 (.t 16)),
    (none, .store T53 (.t 4) (.t 17)),
    (none, .v 5 (.move (.k (.bool true))))])
  .ret))))
def nt_prov_first_api_Member : Nat := 18
def rs_prov_first_api_Member : List RV := [.cell 4 T53, .tmp 5]
/-- pontage/prov.Ports$1 -/
abbrev f_prov_Ports_1 : FuncId := 30
def ac_prov_Ports_1 : AC :=
  (.seq
  (.region 0 [
    (none, .boxc 2 T53 (.t 0)),
    (none, .v 3 (.move (.k (.bool false))))])
  (.seq
  (.region 0 [
    (none, .v 4 (.fadr T53 0 (.t 2))),
    (none, .load 5 (.int .i64) (.t 4)),
    (none, .load 6 (.int .i64) (.t 1)),
    (none, .v 7 (.cmp .eq (.t 5) (.t 6))),
    (none, .v 3 (.move (.t 7)))])
  .ret))
def nt_prov_Ports_1 : Nat := 8
def rs_prov_Ports_1 : List RV := [.tmp 3]
/-- slices.Clone[[]int,int] -/
abbrev f_slices_Clone_int_int : FuncId := 31
def ac_slices_Clone_int_int : AC :=
  (.seq
  (.region 0 [
    (none, .v 2 (.move (.k (.sl (.int .i64) [] .full))))])
  (.seq
  (.seq
  (.region 0 [
    (none, .v 3 (.move (.t 0))),
    (none, .eqnil 4 false (.t 3))])
  (.cond (.t 4)
    (.seq
    (.region 1 [
      (none, .mk 2 0 (.int .i64) (.k (.sl (.int .i64) [] .full)))])
    .ret)
    .skip))
  (.seq
  (.region 2 [
    (none, .lit 5 0 (.int .i64) 0 [] true),
    (none, .v 6 (.move (.t 0))),
    (none, .app 7 1 (.int .i64) 8 (.t 5) (.t 6) false),
    (none, .v 2 (.move (.t 7)))])
  .ret)))
def nt_slices_Clone_int_int : Nat := 8
def rs_slices_Clone_int_int : List RV := [.tmp 2]
/-- pontage/pontageref01.same -/
abbrev f_r01_same : FuncId := 32
def ac_r01_same : AC :=
  (.seq
  (.region 0 [
    (none, .boxc 2 T22 (.t 0)),
    (none, .v 4 (.move (.k (.bool false))))])
  (.seq
  (.seq
  (.region 0 [
    (none, .v 5 (.move (.k (.int .i64 (0)))))])
  (.block 0
    (.loop [1, 2, 5]
      (.seq
      (.seq
      (.region 0 [
        (none, .v 6 (.move (.t 5))),
        (none, .v 7 (.cmp .lt (.t 6) (.k (.int .i64 (6)))))])
      (.cond (.t 7)
        .skip
        (.exit 0)))
      (.seq
      (.block 1
        (.seq
        (.region 0 [
          (none, .v 10 (.move (.t 5))),
          (none, .v 11 (.iadr (some 6) (.int .u8) (.t 2) (.t 10))),
          (none, .load 12 (.int .u8) (.t 11)),
          (none, .v 13 (.move (.t 1))),
          (none, .v 14 (.cmp .ne (.t 12) (.t 13)))])
        (.cond (.t 14)
          (.seq
          (.region 0 [
            (none, .v 4 (.move (.k (.bool false))))])
          .ret)
          .skip)))
      (.region 0 [
        (none, .v 8 (.move (.t 5))),
        (none, .v 9 (.add (.t 8) (.k (.int .i64 (1))))),
        (none, .v 5 (.move (.t 9)))]))))))
  (.seq
  (.region 0 [
    (none, .v 4 (.move (.k (.bool true))))])
  .ret)))
def nt_r01_same : Nat := 15
def rs_r01_same : List RV := [.tmp 4]
/-- pontage/pontageref18.vid -/
abbrev f_r18_vid : FuncId := 33
def ac_r18_vid : AC :=
  (.seq
  (.region 0 [
    (none, .v 2 (.move (.k (.bool false))))])
  (.seq
  (.region 0 [
    (none, .v 3 (.move (.t 0))),
    (none, .v 4 (.cmp .ge (.t 3) (.k (.int .i64 (1))))),
    (none, .v 5 (.move (.t 4))),
    (some (5, true), .v 6 (.move (.t 0))),
    (some (5, true), .v 7 (.cmp .le (.t 6) (.k (.int .i64 (4094))))),
    (none, .v 8 (.pick (.t 5) (.t 7) (.k (.bool false)))),
    (none, .v 2 (.move (.t 8)))])
  .ret))
def nt_r18_vid : Nat := 9
def rs_r18_vid : List RV := [.tmp 2]
/-- pontage/pontageref18.rise -/
abbrev f_r18_rise : FuncId := 34
def ac_r18_rise : AC :=
  (.seq
  (.region 0 [
    (none, .v 2 (.move (.k (.bool false))))])
  (.seq
  (.seq
  (.region 0 [
    (none, .v 3 (.move (.k (.int .i64 (1)))))])
  (.block 0
    (.loop [0, 3]
      (.seq
      (.seq
      (.region 0 [
        (none, .v 4 (.move (.t 3))),
        (none, .v 5 (.move (.t 0))),
        (none, .v 6 (.len false (.t 5))),
        (none, .v 7 (.cmp .lt (.t 4) (.t 6)))])
      (.cond (.t 7)
        .skip
        (.exit 0)))
      (.seq
      (.block 1
        (.seq
        (.draw 0 [[], [], [], [], [], [], [], [], []] [
          (none, .v 10 (.move (.t 0))),
          (none, .v 11 (.move (.t 3))),
          (none, .v 12 (.iadr none (.int .i64) (.t 10) (.t 11))),
          (none, .load 13 (.int .i64) (.t 12)),
          (none, .v 14 (.move (.t 0))),
          (none, .v 15 (.move (.t 3))),
          (none, .v 16 (.sub (.t 15) (.k (.int .i64 (1))))),
          (none, .v 17 (.iadr none (.int .i64) (.t 14) (.t 16))),
          (none, .load 18 (.int .i64) (.t 17))] [
          (none, .v 19 (.cmp .le (.t 13) (.t 18)))])
        (.cond (.t 19)
          (.seq
          (.region 0 [
            (none, .v 2 (.move (.k (.bool false))))])
          .ret)
          .skip)))
      (.region 0 [
        (none, .v 8 (.move (.t 3))),
        (none, .v 9 (.add (.t 8) (.k (.int .i64 (1))))),
        (none, .v 3 (.move (.t 9)))]))))))
  (.seq
  (.region 0 [
    (none, .v 2 (.move (.k (.bool true))))])
  .ret)))
def nt_r18_rise : Nat := 20
def rs_r18_rise : List RV := [.tmp 2]
/-- pontage/pontageref18.are -/
abbrev f_r18_are : FuncId := 35
def ac_r18_are : AC :=
  (.seq
  (.region 0 [
    (none, .boxc 3 T28 (.t 0)),
    (none, .v 6 (.move (.k (.bool false))))])
  (.seq
  (.seq
  (.region 0 [
    (none, .v 7 (.move (.k (.int .i64 (0)))))])
  (.block 0
    (.loop [1, 2, 3, 7]
      (.seq
      (.seq
      (.region 0 [
        (none, .v 8 (.move (.t 7))),
        (none, .v 9 (.move (.t 1))),
        (none, .v 10 (.len false (.t 9))),
        (none, .v 11 (.cmp .lt (.t 8) (.t 10)))])
      (.cond (.t 11)
        .skip
        (.exit 0)))
      (.seq
      (.block 1
        (.seq
        (.draw 0 [[], [], [], [], [], [], [], [], [], [], [], [], [], [], [], [], [], [], [], [], [], [], [], [], []] [
          (none, .v 14 (.move (.t 1))),
          (none, .v 15 (.move (.t 7))),
          (none, .v 16 (.iadr none (.int .i64) (.t 14) (.t 15))),
          (none, .load 17 (.int .i64) (.t 16)),
          (none, .v 18 (.cmp .lt (.t 17) (.k (.int .i64 (0))))),
          (none, .v 19 (.move (.t 18))),
          (some (19, false), .v 20 (.move (.t 1))),
          (some (19, false), .v 21 (.move (.t 7))),
          (some (19, false), .v 22 (.iadr none (.int .i64) (.t 20) (.t 21))),
          (some (19, false), .load 23 (.int .i64) (.t 22)),
          (some (19, false), .v 24 (.fadr T28 1 (.t 3))),
          (some (19, false), .load 25 (.sl (.int .i64)) (.t 24)),
          (some (19, false), .v 26 (.len false (.t 25))),
          (some (19, false), .v 27 (.cmp .ge (.t 23) (.t 26))),
          (none, .v 28 (.pick (.t 19) (.k (.bool true)) (.t 27))),
          (none, .v 29 (.move (.t 28))),
          (some (29, false), .v 30 (.fadr T28 1 (.t 3))),
          (some (29, false), .load 31 (.sl (.int .i64)) (.t 30)),
          (some (29, false), .v 32 (.move (.t 1))),
          (some (29, false), .v 33 (.move (.t 7))),
          (some (29, false), .v 34 (.iadr none (.int .i64) (.t 32) (.t 33))),
          (some (29, false), .load 35 (.int .i64) (.t 34)),
          (some (29, false), .v 36 (.iadr none (.int .i64) (.t 31) (.t 35))),
          (some (29, false), .load 37 (.int .i64) (.t 36)),
          (some (29, false), .v 38 (.move (.t 2)))] [
          (some (29, false), .v 39 (.cmp .ne (.t 37) (.t 38))),
          (none, .v 40 (.pick (.t 29) (.k (.bool true)) (.t 39)))])
        (.cond (.t 40)
          (.seq
          (.region 0 [
            (none, .v 6 (.move (.k (.bool false))))])
          .ret)
          .skip)))
      (.region 0 [
        (none, .v 12 (.move (.t 7))),
        (none, .v 13 (.add (.t 12) (.k (.int .i64 (1))))),
        (none, .v 7 (.move (.t 13)))]))))))
  (.seq
  (.region 0 [
    (none, .v 6 (.move (.k (.bool true))))])
  .ret)))
def nt_r18_are : Nat := 41
def rs_r18_are : List RV := [.tmp 6]
/-- pontage/pontageref18.isid -/
abbrev f_r18_isid : FuncId := 36
def ac_r18_isid : AC :=
  (.seq
  (.region 0 [
    (none, .v 2 (.move (.k (.bool false))))])
  (.seq
  (.region 0 [
    (none, .v 3 (.move (.t 0))),
    (none, .v 4 (.cmp .ge (.t 3) (.k (.int .i64 (1))))),
    (none, .v 5 (.move (.t 4))),
    (some (5, true), .v 6 (.move (.t 0))),
    (some (5, true), .v 7 (.cmp .le (.t 6) (.k (.int .i64 (16777215))))),
    (none, .v 8 (.pick (.t 5) (.t 7) (.k (.bool false)))),
    (none, .v 2 (.move (.t 8)))])
  .ret))
def nt_r18_isid : Nat := 9
def rs_r18_isid : List RV := [.tmp 2]
/-- pontage/pontageref18.Carrier -/
abbrev f_r18_Carrier : FuncId := 37
def ac_r18_Carrier : AC :=
  (.seq
  (.region 0 [
    (none, .boxc 2 T28 (.t 0)),
    (none, .v 4 (.move (.k (.int .i64 (0))))),
    (none, .v 5 (.move (.k (.bool false))))])
  (.seq
  (.seq
  (.region 0 [
    (none, .v 6 (.move (.k (.int .i64 (0)))))])
  (.block 0
    (.loop [1, 2, 6]
      (.seq
      (.seq
      (.region 0 [
        (none, .v 7 (.move (.t 6))),
        (none, .v 8 (.fadr T28 3 (.t 2))),
        (none, .load 9 (.sl (.st [.int .i64, .int .i64])) (.t 8)),
        (none, .v 10 (.len false (.t 9))),
        (none, .v 11 (.cmp .lt (.t 7) (.t 10)))])
      (.cond (.t 11)
        .skip
        (.exit 0)))
      (.seq
      (.block 1
        (.seq
        (.region 0 [
          (none, .v 14 (.fadr T28 3 (.t 2))),
          (none, .load 15 (.sl (.st [.int .i64, .int .i64])) (.t 14)),
          (none, .v 16 (.move (.t 6))),
          (none, .v 17 (.iadr none T55 (.t 15) (.t 16))),
          (none, .v 18 (.fadr T55 0 (.t 17))),
          (none, .load 19 (.int .i64) (.t 18)),
          (none, .v 20 (.move (.t 1))),
          (none, .v 21 (.cmp .eq (.t 19) (.t 20)))])
        (.cond (.t 21)
          (.seq
          (.region 0 [
            (none, .v 22 (.fadr T28 3 (.t 2))),
            (none, .load 23 (.sl (.st [.int .i64, .int .i64])) (.t 22)),
            (none, .v 24 (.move (.t 6))),
            (none, .v 25 (.iadr none T55 (.t 23) (.t 24))),
            (none, .v 26 (.fadr T55 1 (.t 25))),
            (none, .load 27 (.int .i64) (.t 26)),
            (none, .v 4 (.move (.t 27))),
            (none, .v 5 (.move (.k (.bool true))))])
          .ret)
          .skip)))
      (.region 0 [
        (none, .v 12 (.move (.t 6))),
        (none, .v 13 (.add (.t 12) (.k (.int .i64 (1))))),
        (none, .v 6 (.move (.t 13)))]))))))
  (.seq
  (.region 0 [
    (none, .v 4 (.move (.k (.int .i64 (0))))),
    (none, .v 5 (.move (.k (.bool false))))])
  .ret)))
def nt_r18_Carrier : Nat := 28
def rs_r18_Carrier : List RV := [.tmp 4, .tmp 5]
/-- pontage/pontageref18.before -/
abbrev f_r18_before : FuncId := 38
def ac_r18_before : AC :=
  (.seq
  (.region 0 [
    (none, .boxc 2 T101 (.t 0)),
    (none, .boxc 3 T101 (.t 1)),
    (none, .v 4 (.move (.k (.bool false))))])
  (.seq
  (.region 0 [
    (none, .v 5 (.fadr T101 0 (.t 2))),
    (none, .load 6 (.int .i64) (.t 5)),
    (none, .v 7 (.fadr T101 0 (.t 3))),
    (none, .load 8 (.int .i64) (.t 7)),
    (none, .v 9 (.cmp .lt (.t 6) (.t 8))),
    (none, .v 10 (.move (.t 9))),
    (some (10, false), .v 11 (.fadr T101 0 (.t 2))),
    (some (10, false), .load 12 (.int .i64) (.t 11)),
    (some (10, false), .v 13 (.fadr T101 0 (.t 3))),
    (some (10, false), .load 14 (.int .i64) (.t 13)),
    (some (10, false), .v 15 (.cmp .eq (.t 12) (.t 14))),
    (some (10, false), .v 16 (.move (.t 15))),
    (some (16, true), .v 17 (.fadr T101 1 (.t 2))),
    (some (16, true), .load 18 (.int .i64) (.t 17)),
    (some (16, true), .v 19 (.fadr T101 1 (.t 3))),
    (some (16, true), .load 20 (.int .i64) (.t 19)),
    (some (16, true), .v 21 (.cmp .lt (.t 18) (.t 20))),
    (some (10, false), .v 22 (.pick (.t 16) (.t 21) (.k (.bool false)))),
    (none, .v 23 (.pick (.t 10) (.k (.bool true)) (.t 22))),
    (none, .v 4 (.move (.t 23)))])
  .ret))
def nt_r18_before : Nat := 24
def rs_r18_before : List RV := [.tmp 4]
/-- slices.Contains[[]int,int] -/
abbrev f_slices_Contains_int_int : FuncId := 39
def ac_slices_Contains_int_int : AC :=
  (.seq
  (.region 0 [
    (none, .v 4 (.move (.k (.bool false))))])
  (.seq
  (.region 0 [
    (none, .v 5 (.move (.t 0))),
    (none, .v 6 (.move (.t 1))),
    (none, .callP (some 7) 43 [.t 5, .t 6] 0 0 true),
    (none, .v 8 (.cmp .ge (.t 7) (.k (.int .i64 (0))))),
    (none, .v 4 (.move (.t 8)))])
  .ret))
def nt_slices_Contains_int_int : Nat := 9
def rs_slices_Contains_int_int : List RV := [.tmp 4]
/-- pontage/prov.first[pontage/api.Carry] -/
abbrev f_prov_first_api_Carry : FuncId := 40
def ac_prov_first_api_Carry : AC :=
  (.seq
  (.region 1 [
    (none, .alloc 4 0 T55),
    (none, .v 5 (.move (.k (.bool false))))])
  (.seq
  (.region 0 [
    (none, .v 8 (.move (.t 0))),
    (none, .v 9 (.move (.t 1))),
    (none, .callS (some 10) (.k (.fn 44 [])) [.t 8, .t 9] [] [44]),
    (none, .v 6 (.move (.t 10)))])
  (.seq
  (.seq
  (.region 0 [
    (none, .v 11 (.move (.t 6))),
    (none, .v 12 (.cmp .lt (.t 11) (.k (.int .i64 (0)))))])
  (.cond (.t 12)
    (.seq
    (.region 1 [
      (none, .alloc 7 0 T55)])
    (.seq
    (.region 0 [
      (none, .load 13 T55 (.t 7)),
      (none, .store T55 (.t 4) (.t 13)),
      (none, .v 5 (.move (.k (.bool false))))])
    .ret))
    .skip))
  (.seq
  (.region 0 [
    (none, .v 14 (.move (.t 0))),
    (none, .v 15 (.move (.t 6))),
    (none, .v 16 (.iadr none T55 (.t 14) (.t 15))),
    (none, .load 17 T55 (.t 16)),
    (none, .store T55 (.t 4) (.t 17)),
    (none, .v 5 (.move (.k (.bool true))))])
  .ret))))
def nt_prov_first_api_Carry : Nat := 18
def rs_prov_first_api_Carry : List RV := [.cell 4 T55, .tmp 5]
/-- pontage/prov.Carrier$1 -/
abbrev f_prov_Carrier_1 : FuncId := 41
def ac_prov_Carrier_1 : AC :=
  (.seq
  (.region 0 [
    (none, .boxc 2 T55 (.t 0)),
    (none, .v 3 (.move (.k (.bool false))))])
  (.seq
  (.region 0 [
    (none, .v 4 (.fadr T55 0 (.t 2))),
    (none, .load 5 (.int .i64) (.t 4)),
    (none, .load 6 (.int .i64) (.t 1)),
    (none, .v 7 (.cmp .eq (.t 5) (.t 6))),
    (none, .v 3 (.move (.t 7)))])
  .ret))
def nt_prov_Carrier_1 : Nat := 8
def rs_prov_Carrier_1 : List RV := [.tmp 3]
/-- slices.IndexFunc[[]pontage/api.Member,pontage/api.Member] -/
abbrev f_slices_IndexFunc_api_Member_api_Member : FuncId := 42
def ac_slices_IndexFunc_api_Member_api_Member : AC :=
  (.seq
  (.region 0 [
    (none, .v 4 (.move (.k (.int .i64 (0)))))])
  (.seq
  (.seq
  (.region 0 [
    (none, .v 6 (.move (.t 0))),
    (none, .v 7 (.len false (.t 6))),
    (none, .v 8 (.move (.k (.int .i64 (0)))))])
  (.block 0
    (.loop [0, 1, 7, 8]
      (.seq
      (.region 0 [
        (none, .v 9 (.cmp .lt (.t 8) (.t 7)))])
      (.seq
      (.cond (.t 9)
        .skip
        (.exit 0))
      (.seq
      (.block 1
        (.seq
        (.region 0 [
          (none, .v 10 (.move (.t 8))),
          (none, .v 5 (.move (.t 10)))])
        (.seq
        (.region 0 [
          (none, .v 11 (.move (.t 1))),
          (none, .v 12 (.move (.t 0))),
          (none, .v 13 (.move (.t 5))),
          (none, .v 14 (.iadr none T53 (.t 12) (.t 13))),
          (none, .load 15 T53 (.t 14)),
          (none, .callS (some 16) (.t 11) [.t 15] [] [18, 30, 41])])
        (.cond (.t 16)
          (.seq
          (.region 0 [
            (none, .v 17 (.move (.t 5))),
            (none, .v 4 (.move (.t 17)))])
          .ret)
          .skip))))
      (.region 0 [
        (none, .v 18 (.add (.t 8) (.k (.int .i64 (1))))),
        (none, .v 8 (.move (.t 18)))])))))))
  (.seq
  (.region 0 [
    (none, .v 4 (.move (.k (.int .i64 (-1)))))])
  .ret)))
def nt_slices_IndexFunc_api_Member_api_Member : Nat := 19
def rs_slices_IndexFunc_api_Member_api_Member : List RV := [.tmp 4]
/-- slices.Index[[]int,int] -/
abbrev f_slices_Index_int_int : FuncId := 43
def ac_slices_Index_int_int : AC :=
  (.seq
  (.region 0 [
    (none, .v 4 (.move (.k (.int .i64 (0)))))])
  (.seq
  (.seq
  (.region 0 [
    (none, .v 6 (.move (.t 0))),
    (none, .v 7 (.len false (.t 6))),
    (none, .v 8 (.move (.k (.int .i64 (0)))))])
  (.block 0
    (.loop [0, 1, 7, 8]
      (.seq
      (.region 0 [
        (none, .v 9 (.cmp .lt (.t 8) (.t 7)))])
      (.seq
      (.cond (.t 9)
        .skip
        (.exit 0))
      (.seq
      (.block 1
        (.seq
        (.region 0 [
          (none, .v 10 (.move (.t 8))),
          (none, .v 5 (.move (.t 10)))])
        (.seq
        (.region 0 [
          (none, .v 11 (.move (.t 1))),
          (none, .v 12 (.move (.t 0))),
          (none, .v 13 (.move (.t 5))),
          (none, .v 14 (.iadr none (.int .i64) (.t 12) (.t 13))),
          (none, .load 15 (.int .i64) (.t 14)),
          (none, .v 16 (.cmp .eq (.t 11) (.t 15)))])
        (.cond (.t 16)
          (.seq
          (.region 0 [
            (none, .v 17 (.move (.t 5))),
            (none, .v 4 (.move (.t 17)))])
          .ret)
          .skip))))
      (.region 0 [
        (none, .v 18 (.add (.t 8) (.k (.int .i64 (1))))),
        (none, .v 8 (.move (.t 18)))])))))))
  (.seq
  (.region 0 [
    (none, .v 4 (.move (.k (.int .i64 (-1)))))])
  .ret)))
def nt_slices_Index_int_int : Nat := 19
def rs_slices_Index_int_int : List RV := [.tmp 4]
/-- slices.IndexFunc[[]pontage/api.Carry,pontage/api.Carry] -/
abbrev f_slices_IndexFunc_api_Carry_api_Carry : FuncId := 44
def ac_slices_IndexFunc_api_Carry_api_Carry : AC :=
  (.seq
  (.region 0 [
    (none, .v 4 (.move (.k (.int .i64 (0)))))])
  (.seq
  (.seq
  (.region 0 [
    (none, .v 6 (.move (.t 0))),
    (none, .v 7 (.len false (.t 6))),
    (none, .v 8 (.move (.k (.int .i64 (0)))))])
  (.block 0
    (.loop [0, 1, 7, 8]
      (.seq
      (.region 0 [
        (none, .v 9 (.cmp .lt (.t 8) (.t 7)))])
      (.seq
      (.cond (.t 9)
        .skip
        (.exit 0))
      (.seq
      (.block 1
        (.seq
        (.region 0 [
          (none, .v 10 (.move (.t 8))),
          (none, .v 5 (.move (.t 10)))])
        (.seq
        (.region 0 [
          (none, .v 11 (.move (.t 1))),
          (none, .v 12 (.move (.t 0))),
          (none, .v 13 (.move (.t 5))),
          (none, .v 14 (.iadr none T55 (.t 12) (.t 13))),
          (none, .load 15 T55 (.t 14)),
          (none, .callS (some 16) (.t 11) [.t 15] [] [18, 30, 41])])
        (.cond (.t 16)
          (.seq
          (.region 0 [
            (none, .v 17 (.move (.t 5))),
            (none, .v 4 (.move (.t 17)))])
          .ret)
          .skip))))
      (.region 0 [
        (none, .v 18 (.add (.t 8) (.k (.int .i64 (1))))),
        (none, .v 8 (.move (.t 18)))])))))))
  (.seq
  (.region 0 [
    (none, .v 4 (.move (.k (.int .i64 (-1)))))])
  .ret)))
def nt_slices_IndexFunc_api_Carry_api_Carry : Nat := 19
def rs_slices_IndexFunc_api_Carry_api_Carry : List RV := [.tmp 4]
theorem mixed : prog.follows .mixedOrders = true := by kernel_rfl
theorem ok_l19_BcompMembers : funOK prog f_l19_BcompMembers nt_l19_BcompMembers rs_l19_BcompMembers ac_l19_BcompMembers = true := by kernel_rfl
theorem ok_l19_Few : funOK prog f_l19_Few nt_l19_Few rs_l19_Few ac_l19_Few = true := by kernel_rfl
theorem ok_l19_cut : funOK prog f_l19_cut nt_l19_cut rs_l19_cut ac_l19_cut = true := by kernel_rfl
theorem ok_bcomp_Out : funOK prog f_bcomp_Out nt_bcomp_Out rs_bcomp_Out ac_bcomp_Out = true := by kernel_rfl
theorem ok_r18_Ports : funOK prog f_r18_Ports nt_r18_Ports rs_r18_Ports ac_r18_Ports = true := by kernel_rfl
theorem ok_r18_Check : funOK prog f_r18_Check nt_r18_Check rs_r18_Check ac_r18_Check = true := by kernel_rfl
theorem ok_r18_SameInts : funOK prog f_r18_SameInts nt_r18_SameInts rs_r18_SameInts ac_r18_SameInts = true := by kernel_rfl
theorem ok_l19_awake : funOK prog f_l19_awake nt_l19_awake rs_l19_awake ac_l19_awake = true := by kernel_rfl
theorem ok_bcomp_In : funOK prog f_bcomp_In nt_bcomp_In rs_bcomp_In ac_bcomp_In = true := by kernel_rfl
theorem ok_bcomp_Accept : funOK prog f_bcomp_Accept nt_bcomp_Accept rs_bcomp_Accept ac_bcomp_Accept = true := by kernel_rfl
theorem ok_mac_Many : funOK prog f_mac_Many nt_mac_Many rs_mac_Many ac_mac_Many = true := by kernel_rfl
theorem ok_bcomp_Out_1 : funOK prog f_bcomp_Out_1 nt_bcomp_Out_1 rs_bcomp_Out_1 ac_bcomp_Out_1 = true := by kernel_rfl
theorem ok_prov_Ports : funOK prog f_prov_Ports nt_prov_Ports rs_prov_Ports ac_prov_Ports = true := by kernel_rfl
theorem ok_bcomp_gate : funOK prog f_bcomp_gate nt_bcomp_gate rs_bcomp_gate ac_bcomp_gate = true := by kernel_rfl
theorem ok_r01_Kind : funOK prog f_r01_Kind nt_r01_Kind rs_r01_Kind ac_r01_Kind = true := by kernel_rfl
theorem ok_r18_members : funOK prog f_r18_members nt_r18_members rs_r18_members ac_r18_members = true := by kernel_rfl
theorem ok_r18_carries : funOK prog f_r18_carries nt_r18_carries rs_r18_carries ac_r18_carries = true := by kernel_rfl
theorem ok_r18_maps : funOK prog f_r18_maps nt_r18_maps rs_r18_maps ac_r18_maps = true := by kernel_rfl
theorem ok_bcomp_Learns : funOK prog f_bcomp_Learns nt_bcomp_Learns rs_bcomp_Learns ac_bcomp_Learns = true := by kernel_rfl
theorem ok_bcomp_member : funOK prog f_bcomp_member nt_bcomp_member rs_bcomp_member ac_bcomp_member = true := by kernel_rfl
theorem ok_mac_Kind : funOK prog f_mac_Kind nt_mac_Kind rs_mac_Kind ac_mac_Kind = true := by kernel_rfl
theorem ok_prov_Carrier : funOK prog f_prov_Carrier nt_prov_Carrier rs_prov_Carrier ac_prov_Carrier = true := by kernel_rfl
theorem ok_prov_first_api_Member : funOK prog f_prov_first_api_Member nt_prov_first_api_Member rs_prov_first_api_Member ac_prov_first_api_Member = true := by kernel_rfl
theorem ok_prov_Ports_1 : funOK prog f_prov_Ports_1 nt_prov_Ports_1 rs_prov_Ports_1 ac_prov_Ports_1 = true := by kernel_rfl
theorem ok_slices_Clone_int_int : funOK prog f_slices_Clone_int_int nt_slices_Clone_int_int rs_slices_Clone_int_int ac_slices_Clone_int_int = true := by kernel_rfl
theorem ok_r01_same : funOK prog f_r01_same nt_r01_same rs_r01_same ac_r01_same = true := by kernel_rfl
theorem ok_r18_vid : funOK prog f_r18_vid nt_r18_vid rs_r18_vid ac_r18_vid = true := by kernel_rfl
theorem ok_r18_rise : funOK prog f_r18_rise nt_r18_rise rs_r18_rise ac_r18_rise = true := by kernel_rfl
theorem ok_r18_are : funOK prog f_r18_are nt_r18_are rs_r18_are ac_r18_are = true := by kernel_rfl
theorem ok_r18_isid : funOK prog f_r18_isid nt_r18_isid rs_r18_isid ac_r18_isid = true := by kernel_rfl
theorem ok_r18_Carrier : funOK prog f_r18_Carrier nt_r18_Carrier rs_r18_Carrier ac_r18_Carrier = true := by kernel_rfl
theorem ok_r18_before : funOK prog f_r18_before nt_r18_before rs_r18_before ac_r18_before = true := by kernel_rfl
theorem ok_slices_Contains_int_int : funOK prog f_slices_Contains_int_int nt_slices_Contains_int_int rs_slices_Contains_int_int ac_slices_Contains_int_int = true := by kernel_rfl
theorem ok_prov_first_api_Carry : funOK prog f_prov_first_api_Carry nt_prov_first_api_Carry rs_prov_first_api_Carry ac_prov_first_api_Carry = true := by kernel_rfl
theorem ok_prov_Carrier_1 : funOK prog f_prov_Carrier_1 nt_prov_Carrier_1 rs_prov_Carrier_1 ac_prov_Carrier_1 = true := by kernel_rfl
theorem ok_slices_IndexFunc_api_Member_api_Member : funOK prog f_slices_IndexFunc_api_Member_api_Member nt_slices_IndexFunc_api_Member_api_Member rs_slices_IndexFunc_api_Member_api_Member ac_slices_IndexFunc_api_Member_api_Member = true := by kernel_rfl
theorem ok_slices_Index_int_int : funOK prog f_slices_Index_int_int nt_slices_Index_int_int rs_slices_Index_int_int ac_slices_Index_int_int = true := by kernel_rfl
theorem ok_slices_IndexFunc_api_Carry_api_Carry : funOK prog f_slices_IndexFunc_api_Carry_api_Carry nt_slices_IndexFunc_api_Carry_api_Carry rs_slices_IndexFunc_api_Carry_api_Carry ac_slices_IndexFunc_api_Carry_api_Carry = true := by kernel_rfl
def orc : Orc where
  p := fun f args => match f with
    | 3 => pLMembers args
    | 4 => pLApart args
    | 5 => pLGates args
    | 6 => pFew19 args
    | 7 => pCut19 args
    | 8 => pBOut args
    | 9 => pRPorts args
    | 10 => pCheck18 args
    | 11 => pSameInts args
    | 12 => pYes19 args
    | 13 => pBIn args
    | 14 => pBAccept args
    | 15 => pGates args
    | 16 => pGates args
    | 17 => pMany args
    | 19 => pPPorts args
    | 20 => pGate args
    | 21 => pKind args
    | 22 => pMembers18 args
    | 23 => pCarries18 args
    | 24 => pMaps18 args
    | 25 => pBLearns args
    | 26 => pMember args
    | 27 => pKind args
    | 28 => pPCarrier args
    | 31 => pCloneI args
    | 32 => pSame1 args
    | 33 => pVid18 args
    | 34 => pRise args
    | 35 => pAre18 args
    | 36 => pIsid18 args
    | 37 => pRCarrier args
    | 38 => pBefore18 args
    | 39 => pContainsI args
    | 43 => pIndexI args
    | _ => .bad
  s := fun f args h => match f with
    | 18 => sGoes args h
    | 29 => sFirstM args h
    | 30 => sVidIs args h
    | 40 => sFirstC args h
    | 41 => sIsidIs args h
    | 42 => sIdxM args h
    | 44 => sIdxC args h
    | _ => .bad
  fu := fun f => match f with
    | _ => false
end Go.Vc.Seat
