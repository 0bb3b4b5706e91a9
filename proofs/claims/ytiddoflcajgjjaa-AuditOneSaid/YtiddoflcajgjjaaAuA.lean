/- The seat's code in abstract form, held against the program; what is known of its functions. -/
import Derived.Test.YtiddoflcajgjjaaProg
import Derived.KernelRfl
import Derived.Test.YtiddoflcajgjjaaSpTag
import Derived.Test.YtiddoflcajgjjaaAuSpTag2
import Derived.Test.YtiddoflcajgjjaaAuSpEth
import Derived.Test.YtiddoflcajgjjaaAuSpAudit
set_option linter.unusedVariables false
set_option maxRecDepth 100000
namespace Go.Vc.Seat
open Go.Vc Go.Proofs.Try
abbrev T29 : Ty := .st [.int .i64, .int .i64, .int .i64, .sl (.int .u8)]
abbrev T70 : Ty := .st [.int .u64, .int .u32, .int .u64, .int .u16]
abbrev T72 : Ty := .st [.int .u64, .st [.int .u8, .int .u8, .int .u8, .int .u8], .int .u8, .bool, .int .u16, .st [.int .u64, .int .u32, .int .u64, .int .u16], .st [.int .u8, .int .u8, .int .u8, .int .u8], .sl (.st [.int .u16, .int .u32, .bool, .bool, .bool, .bool, .bool, .bool, .bool, .bool, .bool, .bool, .bool, .bool, .bool, .bool, .bool, .bool, .bool, .bool, .bool, .bool, .bool, .bool, .bool, .bool, .bool, .bool, .bool, .int .i64, .int .i64, .int .i64, .st [.int .u64, .int .u32, .int .u64, .int .u16], .st [.int .u64, .int .u32, .int .u64, .int .u16], .st [.int .u8, .int .u8, .int .u8, .int .u8], .st [.int .u8, .int .u8, .int .u8, .int .u8], .st [.int .i64, .bool, .bool, .bool, .bool, .bool, .bool, .int .i64, .st [.int .u64, .int .u32, .int .u64, .int .u16], .st [.int .u8, .int .u8, .int .u8, .int .u8]], .int .u8, .int .u8, .int .u8, .int .u8, .int .u8, .int .u8, .int .u8, .int .u8, .int .i64, .int .i64, .int .i64, .int .i64, .int .i64])]
abbrev T75 : Ty := .st [.int .i64, .int .i64, .int .i64, .st [.int .u64, .int .u32, .int .u64, .int .u16]]
abbrev T82 : Ty := .st [.int .u16, .int .u32, .bool, .bool, .bool, .bool, .bool, .bool, .bool, .bool, .bool, .bool, .bool, .bool, .bool, .bool, .bool, .bool, .bool, .bool, .bool, .bool, .bool, .bool, .bool, .bool, .bool, .bool, .bool, .int .i64, .int .i64, .int .i64, .st [.int .u64, .int .u32, .int .u64, .int .u16], .st [.int .u64, .int .u32, .int .u64, .int .u16], .st [.int .u8, .int .u8, .int .u8, .int .u8], .st [.int .u8, .int .u8, .int .u8, .int .u8], .st [.int .i64, .bool, .bool, .bool, .bool, .bool, .bool, .int .i64, .st [.int .u64, .int .u32, .int .u64, .int .u16], .st [.int .u8, .int .u8, .int .u8, .int .u8]], .int .u8, .int .u8, .int .u8, .int .u8, .int .u8, .int .u8, .int .u8, .int .u8, .int .i64, .int .i64, .int .i64, .int .i64, .int .i64]
abbrev T86 : Ty := .arr 6 (.int .u8)
abbrev T88 : Ty := .st [.int .i64, .bool, .int .i64]
abbrev T90 : Ty := .st [.arr 6 (.int .u8), .arr 6 (.int .u8), .bool, .st [.int .i64, .bool, .int .i64], .sl (.int .u8)]
abbrev T94 : Ty := .st [.int .i64, .int .i64, .int .i64]
abbrev T96 : Ty := .st [.int .i64, .st [.int .i64, .int .i64, .int .i64]]
abbrev T119 : Ty := .st [.int .i64, .int .i64, .int .i64, .int .i64, .int .u32, .int .u32]
abbrev T128 : Ty := .st [.int .i64, .int .i64, .int .u32, .int .i64, .int .i64]
abbrev T132 : Ty := .st [.int .u64, .int .u32, .int .i64]
abbrev T145 : Ty := .st [.int .i64, .int .i64]
abbrev T147 : Ty := .st [.st [.int .i64, .int .i64], .int .u32, .st [.int .i64, .int .i64]]
abbrev T149 : Ty := .arr 2 (.st [.st [.int .i64, .int .i64], .int .u32, .st [.int .i64, .int .i64]])
abbrev T177 : Ty := .arr 5 (.int .u8)
abbrev T178 : Ty := .arr 3 (.int .u8)
abbrev T184 : Ty := .arr 2 (.int .u64)
abbrev T185 : Ty := .arr 4 (.arr 2 (.int .u64))
/-- pontage/pontagelaw32.AuditOne -/
abbrev f_l32_AuditOne : FuncId := 6
def ac_l32_AuditOne : AC :=
  (.seq
  (.region 0 [
    (none, .v 10 (.move (.k (.bool false))))])
  (.seq
  (.region 1 [
    (none, .make 17 0 (.int .i64) 8 (.k (.int .i64 (15)))),
    (none, .v 11 (.move (.t 17)))])
  (.seq
  (.seq
  (.region 0 [
    (none, .v 12 (.move (.k (.int .i64 (0)))))])
  (.block 0
    (.loop [0, 1, 2, 3, 4, 11, 12]
      (.seq
      (.seq
      (.region 0 [
        (none, .v 18 (.move (.t 12))),
        (none, .v 19 (.cmp .lt (.t 18) (.k (.int .i64 (15))))),
        (none, .v 20 (.move (.t 19))),
        (some (20, true), .v 21 (.move (.t 12))),
        (some (20, true), .v 22 (.move (.t 0))),
        (some (20, true), .v 23 (.len false (.t 22))),
        (some (20, true), .v 24 (.cmp .lt (.t 21) (.t 23))),
        (none, .v 25 (.pick (.t 20) (.t 24) (.k (.bool false))))])
      (.cond (.t 25)
        .skip
        (.exit 0)))
      (.seq
      (.block 1
        (.region 0 [
          (none, .v 28 (.move (.t 11))),
          (none, .v 29 (.move (.t 12))),
          (none, .v 30 (.move (.t 0))),
          (none, .v 31 (.move (.t 12))),
          (none, .v 32 (.iadr none (.int .u16) (.t 30) (.t 31))),
          (none, .load 33 (.int .u16) (.t 32)),
          (none, .v 34 (.conv .i64 (.t 33))),
          (none, .v 35 (.iadr none (.int .i64) (.t 28) (.t 29))),
          (none, .store (.int .i64) (.t 35) (.t 34))]))
      (.region 0 [
        (none, .v 26 (.move (.t 12))),
        (none, .v 27 (.add (.t 26) (.k (.int .i64 (1))))),
        (none, .v 12 (.move (.t 27)))]))))))
  (.seq
  (.region 0 [
    (none, .v 13 (.move (.k (.int .i64 (2)))))])
  (.seq
  (.seq
  (.region 0 [
    (none, .v 36 (.move (.t 1)))])
  (.cond (.t 36)
    (.region 0 [
      (none, .v 13 (.move (.k (.int .i64 (1)))))])
    .skip))
  (.seq
  (.region 1 [
    (none, .lit 37 0 (.int .i64) 9 [(0, .k (.int .i64 (5))), (1, .k (.int .i64 (6))), (2, .k (.int .i64 (7))), (3, .k (.int .i64 (8))), (4, .k (.int .i64 (9))), (5, .k (.int .i64 (10))), (6, .k (.int .i64 (11))), (7, .k (.int .i64 (13))), (8, .k (.int .i64 (14)))] false),
    (none, .v 14 (.move (.t 37)))])
  (.seq
  (.region 0 [
    (none, .v 38 (.move (.t 14))),
    (none, .v 39 (.move (.t 3))),
    (none, .v 40 (.conv .i64 (.t 39))),
    (none, .v 41 (.move (.t 14))),
    (none, .v 42 (.len false (.t 41))),
    (none, .v 43 (.rem (.t 40) (.t 42))),
    (none, .v 44 (.iadr none (.int .i64) (.t 38) (.t 43))),
    (none, .load 45 (.int .i64) (.t 44)),
    (none, .v 15 (.move (.t 45)))])
  (.seq
  (.region 2 [
    (none, .lit 46 0 (.int .i64) 0 [] true),
    (none, .v 47 (.move (.t 11))),
    (none, .app 48 1 (.int .i64) 8 (.t 46) (.t 47) true),
    (none, .v 16 (.move (.t 48)))])
  (.seq
  (.region 0 [
    (none, .v 49 (.move (.t 4))),
    (none, .v 50 (.rem (.t 49) (.k (.int .u8 (6)))))])
  (.block 2
    (.seq
    (.region 0 [
      (none, .v 74 (.cmp .eq (.t 50) (.k (.int .u8 (0))))),
      (none, .v 73 (.move (.t 74)))])
    (.cond (.t 73)
      (.seq
      (.region 0 [
        (none, .v 75 (.move (.t 16))),
        (none, .v 76 (.move (.t 15))),
        (none, .v 77 (.move (.t 16))),
        (none, .v 78 (.move (.t 15))),
        (none, .v 79 (.iadr none (.int .i64) (.t 77) (.t 78))),
        (none, .load 80 (.int .i64) (.t 79)),
        (none, .v 81 (.add (.t 80) (.k (.int .i64 (1))))),
        (none, .v 82 (.iadr none (.int .i64) (.t 75) (.t 76))),
        (none, .store (.int .i64) (.t 82) (.t 81))])
      (.seq
      (.region 0 [
        (none, .v 83 (.move (.t 11))),
        (none, .v 84 (.move (.t 16))),
        (none, .v 85 (.move (.t 13))),
        (none, .callP (some 86) 26 [.t 83, .t 84, .t 85] 0 0 true),
        (none, .v 87 (.cmp .eq (.t 86) (.k (.int .i64 (0))))),
        (none, .v 88 (.move (.t 87))),
        (some (88, true), .callP (some 89) 23 [] 0 0 true),
        (none, .v 90 (.pick (.t 88) (.t 89) (.k (.bool false)))),
        (none, .v 10 (.move (.t 90)))])
      .ret))
      (.seq
      (.region 0 [
        (none, .v 92 (.cmp .eq (.t 50) (.k (.int .u8 (1))))),
        (none, .v 91 (.move (.t 92)))])
      (.cond (.t 91)
        (.seq
        (.region 0 [
          (none, .v 93 (.move (.t 16))),
          (none, .v 94 (.move (.t 13))),
          (none, .v 95 (.move (.t 16))),
          (none, .v 96 (.move (.t 13))),
          (none, .v 97 (.iadr none (.int .i64) (.t 95) (.t 96))),
          (none, .load 98 (.int .i64) (.t 97)),
          (none, .v 99 (.add (.t 98) (.k (.int .i64 (1))))),
          (none, .v 100 (.iadr none (.int .i64) (.t 93) (.t 94))),
          (none, .store (.int .i64) (.t 100) (.t 99))])
        (.seq
        (.region 0 [
          (none, .v 101 (.move (.t 16))),
          (none, .v 102 (.move (.t 16))),
          (none, .v 103 (.iadr none (.int .i64) (.t 102) (.k (.int .i64 (4))))),
          (none, .load 104 (.int .i64) (.t 103)),
          (none, .v 105 (.add (.t 104) (.k (.int .i64 (1))))),
          (none, .v 106 (.move (.t 2))),
          (none, .v 107 (.conv .i64 (.t 106))),
          (none, .v 108 (.add (.t 105) (.t 107))),
          (none, .v 109 (.iadr none (.int .i64) (.t 101) (.k (.int .i64 (4))))),
          (none, .store (.int .i64) (.t 109) (.t 108))])
        (.seq
        (.region 0 [
          (none, .v 110 (.move (.t 11))),
          (none, .v 111 (.move (.t 16))),
          (none, .v 112 (.move (.t 13))),
          (none, .callP (some 113) 26 [.t 110, .t 111, .t 112] 0 0 true),
          (none, .v 114 (.cmp .eq (.t 113) (.k (.int .i64 (0))))),
          (none, .v 115 (.move (.t 114))),
          (some (115, true), .callP (some 116) 23 [] 0 0 true),
          (none, .v 117 (.pick (.t 115) (.t 116) (.k (.bool false)))),
          (none, .v 10 (.move (.t 117)))])
        .ret)))
        (.seq
        (.region 0 [
          (none, .v 119 (.cmp .eq (.t 50) (.k (.int .u8 (2))))),
          (none, .v 118 (.move (.t 119)))])
        (.cond (.t 118)
          (.seq
          (.region 0 [
            (none, .v 120 (.move (.t 16))),
            (none, .v 121 (.move (.t 13))),
            (none, .v 122 (.move (.t 16))),
            (none, .v 123 (.move (.t 13))),
            (none, .v 124 (.iadr none (.int .i64) (.t 122) (.t 123))),
            (none, .load 125 (.int .i64) (.t 124)),
            (none, .v 126 (.add (.t 125) (.k (.int .i64 (1))))),
            (none, .v 127 (.iadr none (.int .i64) (.t 120) (.t 121))),
            (none, .store (.int .i64) (.t 127) (.t 126))])
          (.seq
          (.region 0 [
            (none, .v 128 (.move (.t 16))),
            (none, .v 129 (.move (.t 15))),
            (none, .v 130 (.move (.t 16))),
            (none, .v 131 (.move (.t 15))),
            (none, .v 132 (.iadr none (.int .i64) (.t 130) (.t 131))),
            (none, .load 133 (.int .i64) (.t 132)),
            (none, .v 134 (.add (.t 133) (.k (.int .i64 (1))))),
            (none, .v 135 (.iadr none (.int .i64) (.t 128) (.t 129))),
            (none, .store (.int .i64) (.t 135) (.t 134))])
          (.seq
          (.region 0 [
            (none, .v 136 (.move (.t 11))),
            (none, .v 137 (.move (.t 16))),
            (none, .v 138 (.move (.t 13))),
            (none, .callP (some 139) 26 [.t 136, .t 137, .t 138] 0 0 true),
            (none, .v 140 (.cmp .eq (.t 139) (.k (.int .i64 (0))))),
            (none, .v 141 (.move (.t 140))),
            (some (141, true), .callP (some 142) 23 [] 0 0 true),
            (none, .v 143 (.pick (.t 141) (.t 142) (.k (.bool false)))),
            (none, .v 10 (.move (.t 143)))])
          .ret)))
          (.seq
          (.region 0 [
            (none, .v 145 (.cmp .eq (.t 50) (.k (.int .u8 (3))))),
            (none, .v 144 (.move (.t 145)))])
          (.cond (.t 144)
            (.seq
            (.region 0 [
              (none, .v 146 (.move (.t 11))),
              (none, .v 147 (.move (.t 16))),
              (none, .v 148 (.move (.t 13))),
              (none, .callP (some 149) 26 [.t 146, .t 147, .t 148] 0 0 true),
              (none, .v 150 (.cmp .eq (.t 149) (.k (.int .i64 (320))))),
              (none, .v 151 (.move (.t 150))),
              (some (151, true), .callP (some 152) 23 [] 0 0 true),
              (none, .v 153 (.pick (.t 151) (.t 152) (.k (.bool false)))),
              (none, .v 10 (.move (.t 153)))])
            .ret)
            (.seq
            (.region 0 [
              (none, .v 155 (.cmp .eq (.t 50) (.k (.int .u8 (4))))),
              (none, .v 154 (.move (.t 155)))])
            (.cond (.t 154)
              (.seq
              (.region 0 [
                (none, .v 156 (.move (.t 16))),
                (none, .v 157 (.move (.t 15))),
                (none, .v 158 (.move (.t 16))),
                (none, .v 159 (.move (.t 15))),
                (none, .v 160 (.iadr none (.int .i64) (.t 158) (.t 159))),
                (none, .load 161 (.int .i64) (.t 160)),
                (none, .v 162 (.sub (.t 161) (.k (.int .i64 (1))))),
                (none, .v 163 (.iadr none (.int .i64) (.t 156) (.t 157))),
                (none, .store (.int .i64) (.t 163) (.t 162))])
              (.seq
              (.region 0 [
                (none, .v 164 (.move (.t 16))),
                (none, .v 165 (.move (.t 13))),
                (none, .v 166 (.move (.t 16))),
                (none, .v 167 (.move (.t 13))),
                (none, .v 168 (.iadr none (.int .i64) (.t 166) (.t 167))),
                (none, .load 169 (.int .i64) (.t 168)),
                (none, .v 170 (.add (.t 169) (.k (.int .i64 (1))))),
                (none, .v 171 (.iadr none (.int .i64) (.t 164) (.t 165))),
                (none, .store (.int .i64) (.t 171) (.t 170))])
              (.seq
              (.region 0 [
                (none, .v 172 (.move (.t 11))),
                (none, .v 173 (.move (.t 16))),
                (none, .v 174 (.move (.t 13))),
                (none, .callP (some 175) 26 [.t 172, .t 173, .t 174] 0 0 true),
                (none, .v 176 (.cmp .eq (.t 175) (.k (.int .i64 (320))))),
                (none, .v 177 (.move (.t 176))),
                (some (177, true), .callP (some 178) 23 [] 0 0 true),
                (none, .v 179 (.pick (.t 177) (.t 178) (.k (.bool false)))),
                (none, .v 10 (.move (.t 179)))])
              .ret)))
              (.seq
              (.region 0 [
                (none, .v 51 (.move (.t 16))),
                (none, .v 52 (.move (.t 15))),
                (none, .v 53 (.move (.t 16))),
                (none, .v 54 (.move (.t 15))),
                (none, .v 55 (.iadr none (.int .i64) (.t 53) (.t 54))),
                (none, .load 56 (.int .i64) (.t 55)),
                (none, .v 57 (.add (.t 56) (.k (.int .i64 (1))))),
                (none, .v 58 (.iadr none (.int .i64) (.t 51) (.t 52))),
                (none, .store (.int .i64) (.t 58) (.t 57))])
              (.seq
              (.region 0 [
                (none, .v 59 (.move (.t 16))),
                (none, .v 60 (.move (.t 16))),
                (none, .v 61 (.iadr none (.int .i64) (.t 60) (.k (.int .i64 (12))))),
                (none, .load 62 (.int .i64) (.t 61)),
                (none, .v 63 (.add (.t 62) (.k (.int .i64 (1))))),
                (none, .v 64 (.iadr none (.int .i64) (.t 59) (.k (.int .i64 (12))))),
                (none, .store (.int .i64) (.t 64) (.t 63))])
              (.seq
              (.region 0 [
                (none, .v 65 (.move (.t 11))),
                (none, .v 66 (.move (.t 16))),
                (none, .v 67 (.move (.t 13))),
                (none, .callP (some 68) 26 [.t 65, .t 66, .t 67] 0 0 true),
                (none, .v 69 (.cmp .eq (.t 68) (.k (.int .i64 (320))))),
                (none, .v 70 (.move (.t 69))),
                (some (70, true), .callP (some 71) 23 [] 0 0 true),
                (none, .v 72 (.pick (.t 70) (.t 71) (.k (.bool false)))),
                (none, .v 10 (.move (.t 72)))])
              .ret)))))))))))))))))))))))
def nt_l32_AuditOne : Nat := 180
def rs_l32_AuditOne : List RV := [.tmp 10]
/-- pontage/audit.Service -/
abbrev f_audit_Service : FuncId := 12
def ac_audit_Service : AC :=
  (.seq
  (.region 0 [
    (none, .v 8 (.move (.k (.int .i64 (0))))),
    (none, .v 9 (.move (.k (.bool false))))])
  (.seq
  (.region 2 [
    (none, .v 15 (.move (.t 3))),
    (none, .callP (some 16) 35 [.t 15] 0 1 true),
    (none, .v 14 (.move (.t 16))),
    (none, .v 17 (.ext (.t 14) 0)),
    (none, .v 18 (.ext (.t 14) 1)),
    (none, .alloc 10 1 T90),
    (none, .store T90 (.t 10) (.t 17)),
    (none, .v 11 (.move (.t 18)))])
  (.seq
  (.seq
  (.region 0 [
    (none, .v 19 (.move (.t 11))),
    (none, .v 20 (.cmp .ne (.t 19) (.k (.int .i64 (0))))),
    (none, .v 21 (.move (.t 20))),
    (some (21, false), .v 22 (.fadr T90 2 (.t 10))),
    (some (21, false), .load 23 .bool (.t 22)),
    (some (21, false), .v 24 (.not (.t 23))),
    (none, .v 25 (.pick (.t 21) (.k (.bool true)) (.t 24)))])
  (.cond (.t 25)
    (.seq
    (.region 0 [
      (none, .v 8 (.move (.k (.int .i64 (0))))),
      (none, .v 9 (.move (.k (.bool false))))])
    .ret)
    .skip))
  (.seq
  .skip
  (.seq
  (.seq
  (.region 0 [
    (none, .v 26 (.move (.t 0))),
    (none, .v 27 (.len false (.t 26))),
    (none, .v 28 (.move (.k (.int .i64 (0)))))])
  (.block 0
    (.loop [1, 2, 10, 26, 27, 28]
      (.seq
      (.region 0 [
        (none, .v 29 (.cmp .lt (.t 28) (.t 27)))])
      (.seq
      (.cond (.t 29)
        .skip
        (.exit 0))
      (.seq
      (.block 1
        (.seq
        (.region 1 [
          (none, .v 30 (.iadr none T96 (.t 26) (.t 28))),
          (none, .load 31 T96 (.t 30)),
          (none, .alloc 13 0 T96),
          (none, .store T96 (.t 13) (.t 31))])
        (.seq
        (.seq
        (.region 0 [
          (none, .v 32 (.fadr T96 0 (.t 13))),
          (none, .load 33 (.int .i64) (.t 32)),
          (none, .v 34 (.move (.t 1))),
          (none, .v 35 (.cmp .ne (.t 33) (.t 34))),
          (none, .v 36 (.move (.t 35))),
          (some (36, false), .v 37 (.fadr T96 1 (.t 13))),
          (some (36, false), .v 38 (.fadr T94 0 (.t 37))),
          (some (36, false), .load 39 (.int .i64) (.t 38)),
          (some (36, false), .v 40 (.move (.t 2))),
          (some (36, false), .v 41 (.cmp .ne (.t 39) (.t 40))),
          (none, .v 42 (.pick (.t 36) (.k (.bool true)) (.t 41))),
          (none, .v 43 (.move (.t 42))),
          (some (43, false), .v 44 (.fadr T96 1 (.t 13))),
          (some (43, false), .v 45 (.fadr T94 1 (.t 44))),
          (some (43, false), .load 46 (.int .i64) (.t 45)),
          (some (43, false), .v 47 (.fadr T90 3 (.t 10))),
          (some (43, false), .v 48 (.fadr T88 2 (.t 47))),
          (some (43, false), .load 49 (.int .i64) (.t 48)),
          (some (43, false), .v 50 (.cmp .ne (.t 46) (.t 49))),
          (none, .v 51 (.pick (.t 43) (.k (.bool true)) (.t 50)))])
        (.cond (.t 51)
          (.exit 1)
          .skip))
        (.seq
        (.region 0 [
          (none, .v 52 (.fadr T96 1 (.t 13))),
          (none, .v 53 (.fadr T94 2 (.t 52))),
          (none, .load 54 (.int .i64) (.t 53)),
          (none, .v 8 (.move (.t 54))),
          (none, .v 9 (.move (.k (.bool true))))])
        .ret))))
      (.region 0 [
        (none, .v 55 (.add (.t 28) (.k (.int .i64 (1))))),
        (none, .v 28 (.move (.t 55)))])))))))
  (.seq
  (.region 0 [
    (none, .v 8 (.move (.k (.int .i64 (0))))),
    (none, .v 9 (.move (.k (.bool false))))])
  .ret))))))
def nt_audit_Service : Nat := 56
def rs_audit_Service : List RV := [.tmp 8, .tmp 9]
/-- pontage/audit.Reached -/
abbrev f_audit_Reached : FuncId := 15
def ac_audit_Reached : AC :=
  (.seq
  (.region 2 [
    (none, .box 3 0 (.sl (.st [.int .i64, .st [.int .i64, .int .i64, .int .i64]])) (.t 0)),
    (none, .box 4 1 T29 (.t 1)),
    (none, .v 6 (.move (.k (.sl T96 [] .full))))])
  (.seq
  (.region 1 [
    (none, .mk 7 0 T96 (.k (.sl T96 [] .full)))])
  (.seq
  (.seq
  (.region 0 [
    (none, .load 10 (.sl (.st [.int .i64, .st [.int .i64, .int .i64, .int .i64]])) (.t 3)),
    (none, .v 11 (.len false (.t 10))),
    (none, .v 12 (.move (.k (.int .i64 (0)))))])
  (.block 0
    (.loop [2, 3, 4, 7, 10, 11, 12]
      (.seq
      (.region 0 [
        (none, .v 13 (.cmp .lt (.t 12) (.t 11)))])
      (.seq
      (.cond (.t 13)
        .skip
        (.exit 0))
      (.seq
      (.block 1
        (.seq
        (.region 1 [
          (none, .v 14 (.iadr none T96 (.t 10) (.t 12))),
          (none, .load 15 T96 (.t 14)),
          (none, .alloc 9 0 T96),
          (none, .store T96 (.t 9) (.t 15))])
        (.seq
        (.region 0 [
          (none, .v 16 (.move (.t 2))),
          (none, .v 17 (.mkfn 38 [.t 9, .t 3, .t 4])),
          (none, .callS (some 18) (.k (.fn 37 [])) [.t 16, .t 17] [] [37])])
        (.cond (.t 18)
          (.region 2 [
            (none, .v 19 (.move (.t 7))),
            (none, .load 20 T96 (.t 9)),
            (none, .lit 21 0 T96 1 [(0, .t 20)] false),
            (none, .app 22 1 T96 32 (.t 19) (.t 21) false),
            (none, .v 7 (.move (.t 22)))])
          .skip))))
      (.region 0 [
        (none, .v 23 (.add (.t 12) (.k (.int .i64 (1))))),
        (none, .v 12 (.move (.t 23)))])))))))
  (.seq
  (.region 0 [
    (none, .v 24 (.move (.t 7))),
    (none, .v 6 (.move (.t 24)))])
  .ret))))
def nt_audit_Reached : Nat := 25
def rs_audit_Reached : List RV := [.tmp 6]
/-- pontage/audit.Explains -/
abbrev f_audit_Explains : FuncId := 17
def ac_audit_Explains : AC :=
  (.seq
  (.region 0 [
    (none, .boxc 4 T29 (.t 1)),
    (none, .boxc 5 T29 (.t 2)),
    (none, .v 6 (.move (.k (.bool false))))])
  (.seq
  (.seq
  (.region 0 [
    (none, .v 11 (.fadr T29 0 (.t 4))),
    (none, .load 12 (.int .i64) (.t 11)),
    (none, .v 13 (.fadr T29 0 (.t 5))),
    (none, .load 14 (.int .i64) (.t 13)),
    (none, .v 15 (.cmp .ge (.t 12) (.t 14))),
    (none, .v 16 (.move (.t 15))),
    (some (16, false), .v 17 (.fadr T29 1 (.t 4))),
    (some (16, false), .load 18 (.int .i64) (.t 17)),
    (some (16, false), .v 19 (.fadr T29 1 (.t 5))),
    (some (16, false), .load 20 (.int .i64) (.t 19)),
    (some (16, false), .v 21 (.cmp .eq (.t 18) (.t 20))),
    (some (16, false), .v 22 (.move (.t 21))),
    (some (22, true), .v 23 (.fadr T29 2 (.t 4))),
    (some (22, true), .load 24 (.int .i64) (.t 23)),
    (some (22, true), .v 25 (.fadr T29 2 (.t 5))),
    (some (22, true), .load 26 (.int .i64) (.t 25)),
    (some (22, true), .v 27 (.cmp .eq (.t 24) (.t 26))),
    (some (16, false), .v 28 (.pick (.t 22) (.t 27) (.k (.bool false)))),
    (none, .v 29 (.pick (.t 16) (.k (.bool true)) (.t 28)))])
  (.cond (.t 29)
    (.seq
    (.region 0 [
      (none, .v 6 (.move (.k (.bool false))))])
    .ret)
    .skip))
  (.seq
  (.region 0 [
    (none, .v 31 (.move (.t 0))),
    (none, .v 32 (.fadr T29 1 (.t 4))),
    (none, .load 33 (.int .i64) (.t 32)),
    (none, .v 34 (.fadr T29 2 (.t 4))),
    (none, .load 35 (.int .i64) (.t 34)),
    (none, .v 36 (.fadr T29 3 (.t 4))),
    (none, .load 37 (.sl (.int .u8)) (.t 36)),
    (none, .callP (some 38) 12 [.t 31, .t 33, .t 35, .t 37] 0 0 true),
    (none, .v 30 (.move (.t 38))),
    (none, .v 39 (.ext (.t 30) 0)),
    (none, .v 40 (.ext (.t 30) 1)),
    (none, .v 7 (.move (.t 39))),
    (none, .v 8 (.move (.t 40)))])
  (.seq
  (.region 0 [
    (none, .v 42 (.move (.t 0))),
    (none, .v 43 (.fadr T29 1 (.t 5))),
    (none, .load 44 (.int .i64) (.t 43)),
    (none, .v 45 (.fadr T29 2 (.t 5))),
    (none, .load 46 (.int .i64) (.t 45)),
    (none, .v 47 (.fadr T29 3 (.t 5))),
    (none, .load 48 (.sl (.int .u8)) (.t 47)),
    (none, .callP (some 49) 12 [.t 42, .t 44, .t 46, .t 48] 0 0 true),
    (none, .v 41 (.move (.t 49))),
    (none, .v 50 (.ext (.t 41) 0)),
    (none, .v 51 (.ext (.t 41) 1)),
    (none, .v 9 (.move (.t 50))),
    (none, .v 10 (.move (.t 51)))])
  (.seq
  (.region 0 [
    (none, .v 52 (.move (.t 8))),
    (none, .v 53 (.move (.t 52))),
    (some (53, true), .v 54 (.move (.t 10))),
    (none, .v 55 (.pick (.t 53) (.t 54) (.k (.bool false)))),
    (none, .v 56 (.move (.t 55))),
    (some (56, true), .v 57 (.move (.t 7))),
    (some (56, true), .v 58 (.move (.t 9))),
    (some (56, true), .v 59 (.cmp .eq (.t 57) (.t 58))),
    (none, .v 60 (.pick (.t 56) (.t 59) (.k (.bool false)))),
    (none, .v 61 (.move (.t 60))),
    (some (61, true), .v 62 (.fadr T29 3 (.t 4))),
    (some (61, true), .load 63 (.sl (.int .u8)) (.t 62)),
    (some (61, true), .v 64 (.fadr T29 3 (.t 5))),
    (some (61, true), .load 65 (.sl (.int .u8)) (.t 64)),
    (some (61, true), .callP (some 66) 39 [.t 63, .t 65] 0 0 true),
    (none, .v 67 (.pick (.t 61) (.t 66) (.k (.bool false)))),
    (none, .v 6 (.move (.t 67)))])
  .ret)))))
def nt_audit_Explains : Nat := 68
def rs_audit_Explains : List RV := [.tmp 6]
/-- pontage/audit.Apart -/
abbrev f_audit_Apart : FuncId := 19
def ac_audit_Apart : AC :=
  (.seq
  (.region 2 [
    (none, .box 3 0 (.sl (.st [.int .i64, .st [.int .i64, .int .i64, .int .i64]])) (.t 0)),
    (none, .box 4 1 (.sl (.st [.int .i64, .int .i64, .int .i64, .sl (.int .u8)])) (.t 1)),
    (none, .v 6 (.move (.k (.int .i64 (0)))))])
  (.seq
  (.region 0 [
    (none, .v 7 (.move (.t 2))),
    (none, .v 8 (.mkfn 42 [.t 3, .t 4])),
    (none, .callS (some 9) (.k (.fn 41 [])) [.t 7, .t 8] [] [41]),
    (none, .v 6 (.move (.t 9)))])
  .ret))
def nt_audit_Apart : Nat := 10
def rs_audit_Apart : List RV := [.tmp 6]
/-- pontage/audit.Often -/
abbrev f_audit_Often : FuncId := 21
def ac_audit_Often : AC :=
  (.seq
  (.region 0 [
    (none, .v 6 (.move (.k (.int .i64 (0)))))])
  (.seq
  (.region 0 [
    (none, .v 7 (.move (.k (.fn 45 []))))])
  (.seq
  (.seq
  (.region 0 [
    (none, .v 13 (.move (.t 2))),
    (none, .v 14 (.len false (.t 13))),
    (none, .v 15 (.move (.k (.int .i64 (0)))))])
  (.block 0
    (.loop [0, 1, 2, 7, 13, 14, 15]
      (.seq
      (.region 0 [
        (none, .v 16 (.cmp .lt (.t 15) (.t 14)))])
      (.seq
      (.cond (.t 16)
        .skip
        (.exit 0))
      (.seq
      (.block 1
        (.seq
        (.region 1 [
          (none, .v 17 (.move (.t 15))),
          (none, .v 18 (.iadr none T29 (.t 13) (.t 15))),
          (none, .load 19 T29 (.t 18)),
          (none, .alloc 9 0 T29),
          (none, .v 8 (.move (.t 17))),
          (none, .store T29 (.t 9) (.t 19))])
        (.seq
        (.region 0 [
          (none, .v 10 (.move (.k (.int .i64 (0)))))])
        (.seq
        (.seq
        (.region 0 [
          (none, .v 20 (.move (.t 2))),
          (none, .v 21 (.move (.t 8))),
          (none, .v 22 (.add (.t 21) (.k (.int .i64 (1))))),
          (none, .v 23 (.slice T29 (.t 20) none (some (.t 22)) none)),
          (none, .v 24 (.len false (.t 23))),
          (none, .v 25 (.move (.k (.int .i64 (0)))))])
        (.block 2
          (.loop [0, 1, 2, 7, 8, 9, 10, 13, 14, 15, 23, 24, 25]
            (.seq
            (.region 0 [
              (none, .v 26 (.cmp .lt (.t 25) (.t 24)))])
            (.seq
            (.cond (.t 26)
              .skip
              (.exit 2))
            (.seq
            (.block 3
              (.seq
              (.region 1 [
                (none, .v 27 (.iadr none T29 (.t 23) (.t 25))),
                (none, .load 28 T29 (.t 27)),
                (none, .alloc 12 0 T29),
                (none, .store T29 (.t 12) (.t 28))])
              (.seq
              (.region 0 [
                (none, .v 29 (.move (.t 7))),
                (none, .load 30 T29 (.t 12)),
                (none, .load 31 T29 (.t 9)),
                (none, .callS (some 32) (.t 29) [.t 30, .t 31] [] [45])])
              (.cond (.t 32)
                (.region 0 [
                  (none, .v 33 (.move (.t 10))),
                  (none, .v 34 (.add (.t 33) (.k (.int .i64 (1))))),
                  (none, .v 10 (.move (.t 34)))])
                .skip))))
            (.region 0 [
              (none, .v 35 (.add (.t 25) (.k (.int .i64 (1))))),
              (none, .v 25 (.move (.t 35)))])))))))
        (.seq
        (.region 0 [
          (none, .v 36 (.move (.t 10))),
          (none, .v 37 (.move (.t 0))),
          (none, .v 38 (.move (.t 1))),
          (none, .load 39 T29 (.t 9)),
          (none, .callP (some 40) 43 [.t 37, .t 38, .t 39] 0 0 true),
          (none, .v 41 (.cmp .gt (.t 36) (.t 40)))])
        (.cond (.t 41)
          (.seq
          (.region 0 [
            (none, .v 42 (.move (.t 8))),
            (none, .v 6 (.move (.t 42)))])
          .ret)
          .skip))))))
      (.region 0 [
        (none, .v 43 (.add (.t 15) (.k (.int .i64 (1))))),
        (none, .v 15 (.move (.t 43)))])))))))
  (.seq
  (.region 0 [
    (none, .v 6 (.move (.k (.int .i64 (-1)))))])
  .ret))))
def nt_audit_Often : Nat := 44
def rs_audit_Often : List RV := [.tmp 6]
/-- pontage/pontagelaw32.awake -/
abbrev f_l32_awake : FuncId := 23
def ac_l32_awake : AC :=
  (.seq
  (.region 0 [
    (none, .v 0 (.move (.k (.bool false))))])
  (.seq
  (.region 1 [
    (none, .callP (some 4) 24 [.k (.int .i64 (2))] 0 1 true),
    (none, .v 1 (.move (.t 4)))])
  (.seq
  (.region 2 [
    (none, .callP (some 5) 25 [.k (.int .i64 (101)), .k (.int .u8 (1))] 0 1 true),
    (none, .v 6 (.build T29 [(0, .k (.int .i64 (3))), (1, .k (.int .i64 (1))), (3, .t 5)])),
    (none, .lit 7 1 T29 1 [(0, .t 6)] false),
    (none, .v 2 (.move (.t 7)))])
  (.seq
  (.region 2 [
    (none, .callP (some 8) 25 [.k (.int .i64 (100)), .k (.int .u8 (1))] 0 1 true),
    (none, .v 9 (.build T29 [(0, .k (.int .i64 (1))), (3, .t 8)])),
    (none, .lit 10 1 T29 1 [(0, .t 9)] false),
    (none, .v 3 (.move (.t 10)))])
  (.seq
  (.region 1 [
    (none, .v 11 (.move (.t 1))),
    (none, .v 12 (.move (.t 2))),
    (none, .callP (some 13) 19 [.t 11, .k (.sl T29 [] .full), .t 12] 0 0 true),
    (none, .v 14 (.cmp .eq (.t 13) (.k (.int .i64 (0))))),
    (none, .v 15 (.move (.t 14))),
    (some (15, true), .v 16 (.move (.t 1))),
    (some (15, true), .v 17 (.move (.t 3))),
    (some (15, true), .v 18 (.move (.t 2))),
    (some (15, true), .callP (some 19) 19 [.t 16, .t 17, .t 18] 0 0 true),
    (some (15, true), .v 20 (.cmp .eq (.t 19) (.k (.int .i64 (-1))))),
    (none, .v 21 (.pick (.t 15) (.t 20) (.k (.bool false)))),
    (none, .v 22 (.move (.t 21))),
    (some (22, true), .v 23 (.move (.t 1))),
    (some (22, true), .v 24 (.move (.t 3))),
    (some (22, true), .v 25 (.move (.t 2))),
    (some (22, true), .callP (some 26) 21 [.t 23, .t 24, .t 25] 0 0 true),
    (some (22, true), .v 27 (.cmp .eq (.t 26) (.k (.int .i64 (-1))))),
    (none, .v 28 (.pick (.t 22) (.t 27) (.k (.bool false)))),
    (none, .v 29 (.move (.t 28))),
    (some (29, true), .v 30 (.move (.t 1))),
    (some (29, true), .v 31 (.move (.t 3))),
    (some (29, true), .v 32 (.iadr none T29 (.t 31) (.k (.int .i64 (0))))),
    (some (29, true), .load 33 T29 (.t 32)),
    (some (29, true), .v 34 (.move (.t 2))),
    (some (29, true), .callP (some 35) 15 [.t 30, .t 33, .t 34] 0 1 true),
    (some (29, true), .v 36 (.len false (.t 35))),
    (some (29, true), .v 37 (.cmp .eq (.t 36) (.k (.int .i64 (1))))),
    (none, .v 38 (.pick (.t 29) (.t 37) (.k (.bool false)))),
    (none, .v 0 (.move (.t 38)))])
  .ret)))))
def nt_l32_awake : Nat := 39
def rs_l32_awake : List RV := [.tmp 0]
/-- pontage/pontagelaw32.sites -/
abbrev f_l32_sites : FuncId := 24
def ac_l32_sites : AC :=
  (.seq
  (.region 0 [
    (none, .v 2 (.move (.k (.sl T96 [] .full))))])
  (.seq
  (.region 1 [
    (none, .mk 3 0 T96 (.k (.sl T96 [] .full)))])
  (.seq
  (.seq
  (.region 0 [
    (none, .v 4 (.move (.k (.int .i64 (0)))))])
  (.block 0
    (.loop [0, 3, 4]
      (.seq
      (.seq
      (.region 0 [
        (none, .v 5 (.move (.t 4))),
        (none, .v 6 (.move (.t 0))),
        (none, .v 7 (.cmp .lt (.t 5) (.t 6)))])
      (.cond (.t 7)
        .skip
        (.exit 0)))
      (.seq
      (.block 1
        (.region 2 [
          (none, .v 10 (.move (.t 3))),
          (none, .v 11 (.move (.t 4))),
          (none, .v 12 (.move (.t 4))),
          (none, .v 13 (.add (.k (.int .i64 (100))) (.t 12))),
          (none, .v 14 (.build T94 [(0, .k (.int .i64 (0))), (1, .t 13), (2, .k (.int .i64 (5)))])),
          (none, .v 15 (.build T96 [(0, .t 11), (1, .t 14)])),
          (none, .v 16 (.move (.t 4))),
          (none, .v 17 (.move (.t 4))),
          (none, .v 18 (.add (.k (.int .i64 (200))) (.t 17))),
          (none, .v 19 (.build T94 [(0, .k (.int .i64 (1))), (1, .t 18), (2, .k (.int .i64 (6)))])),
          (none, .v 20 (.build T96 [(0, .t 16), (1, .t 19)])),
          (none, .lit 21 0 T96 2 [(0, .t 15), (1, .t 20)] false),
          (none, .app 22 1 T96 32 (.t 10) (.t 21) false),
          (none, .v 3 (.move (.t 22)))]))
      (.region 0 [
        (none, .v 8 (.move (.t 4))),
        (none, .v 9 (.add (.t 8) (.k (.int .i64 (1))))),
        (none, .v 4 (.move (.t 9)))]))))))
  (.seq
  (.region 0 [
    (none, .v 23 (.move (.t 3))),
    (none, .v 2 (.move (.t 23)))])
  .ret))))
def nt_l32_sites : Nat := 24
def rs_l32_sites : List RV := [.tmp 2]
/-- pontage/pontagelaw32.frame -/
abbrev f_l32_frame : FuncId := 25
def ac_l32_frame : AC :=
  (.seq
  (.region 0 [
    (none, .v 4 (.move (.k (.sl (.int .u8) [] .full))))])
  (.seq
  (.region 2 [
    (none, .v 8 (.build T86 [(0, .k (.int .u8 (2))), (1, .k (.int .u8 (0))), (2, .k (.int .u8 (0))), (3, .k (.int .u8 (0))), (4, .k (.int .u8 (0))), (5, .k (.int .u8 (9)))])),
    (none, .v 9 (.build T86 [(0, .k (.int .u8 (2))), (1, .k (.int .u8 (0))), (2, .k (.int .u8 (0))), (3, .k (.int .u8 (0))), (4, .k (.int .u8 (0))), (5, .k (.int .u8 (8)))])),
    (none, .v 10 (.move (.t 0))),
    (none, .v 11 (.build T88 [(2, .t 10)])),
    (none, .v 12 (.move (.t 1))),
    (none, .lit 13 0 (.int .u8) 3 [(0, .k (.int .u8 (8))), (1, .k (.int .u8 (0))), (2, .t 12)] false),
    (none, .v 14 (.build T90 [(0, .t 8), (1, .t 9), (2, .k (.bool true)), (3, .t 11), (4, .t 13)])),
    (none, .callP (some 15) 47 [.t 14] 1 1 true),
    (none, .v 7 (.move (.t 15))),
    (none, .v 16 (.ext (.t 7) 0)),
    (none, .v 17 (.ext (.t 7) 1)),
    (none, .v 5 (.move (.t 16))),
    (none, .v 6 (.move (.t 17)))])
  (.seq
  (.region 0 [
    (none, .v 18 (.move (.t 5))),
    (none, .v 4 (.move (.t 18)))])
  .ret)))
def nt_l32_frame : Nat := 19
def rs_l32_frame : List RV := [.tmp 4]
/-- pontage/audit.Count -/
abbrev f_audit_Count : FuncId := 26
def ac_audit_Count : AC :=
  (.seq
  (.region 0 [
    (none, .v 6 (.move (.k (.int .i64 (0)))))])
  (.seq
  (.seq
  (.region 0 [
    (none, .v 16 (.move (.t 0))),
    (none, .v 17 (.len false (.t 16))),
    (none, .v 18 (.cmp .ne (.t 17) (.k (.int .i64 (15))))),
    (none, .v 19 (.move (.t 18))),
    (some (19, false), .v 20 (.move (.t 1))),
    (some (19, false), .v 21 (.len false (.t 20))),
    (some (19, false), .v 22 (.cmp .ne (.t 21) (.k (.int .i64 (15))))),
    (none, .v 23 (.pick (.t 19) (.k (.bool true)) (.t 22))),
    (none, .v 24 (.move (.t 23))),
    (some (24, false), .v 25 (.move (.t 2))),
    (some (24, false), .v 26 (.cmp .ne (.t 25) (.k (.int .i64 (1))))),
    (some (24, false), .v 27 (.move (.t 26))),
    (some (27, true), .v 28 (.move (.t 2))),
    (some (27, true), .v 29 (.cmp .ne (.t 28) (.k (.int .i64 (2))))),
    (some (24, false), .v 30 (.pick (.t 27) (.t 29) (.k (.bool false)))),
    (none, .v 31 (.pick (.t 24) (.k (.bool true)) (.t 30)))])
  (.cond (.t 31)
    (.seq
    (.region 0 [
      (none, .v 6 (.move (.k (.int .i64 (1)))))])
    .ret)
    .skip))
  (.seq
  (.region 0 [
    (none, .v 7 (.move (.k (.int .i64 (0))))),
    (none, .v 8 (.move (.k (.int .i64 (0))))),
    (none, .v 9 (.move (.k (.int .i64 (0))))),
    (none, .v 10 (.move (.k (.int .i64 (0)))))])
  (.seq
  (.seq
  (.region 0 [
    (none, .v 32 (.move (.k (.int .i64 (0)))))])
  (.block 0
    (.loop [0, 1, 2, 7, 8, 9, 10, 32]
      (.seq
      (.region 0 [
        (none, .v 33 (.cmp .lt (.t 32) (.k (.int .i64 (15)))))])
      (.seq
      (.cond (.t 33)
        .skip
        (.exit 0))
      (.seq
      (.block 1
        (.seq
        (.region 0 [
          (none, .v 34 (.move (.t 32))),
          (none, .v 11 (.move (.t 34)))])
        (.seq
        (.draw 0 [[], [], [], [], [], [], [], []] [
          (none, .v 35 (.move (.t 0))),
          (none, .v 36 (.move (.t 11))),
          (none, .v 37 (.iadr none (.int .i64) (.t 35) (.t 36))),
          (none, .load 38 (.int .i64) (.t 37)),
          (none, .v 39 (.move (.t 1))),
          (none, .v 40 (.move (.t 11))),
          (none, .v 41 (.iadr none (.int .i64) (.t 39) (.t 40))),
          (none, .load 42 (.int .i64) (.t 41))] [
          (none, .callP (some 43) 48 [.t 38, .t 42] 0 0 true),
          (none, .v 12 (.move (.t 43)))])
        (.seq
        (.seq
        (.region 0 [
          (none, .v 44 (.move (.t 12))),
          (none, .v 45 (.cmp .lt (.t 44) (.k (.int .i64 (0)))))])
        (.cond (.t 45)
          (.seq
          (.region 0 [
            (none, .v 6 (.move (.k (.int .i64 (320)))))])
          .ret)
          .skip))
        (.seq
        (.region 0 [
          (none, .v 46 (.move (.t 11))),
          (none, .v 13 (.move (.t 46)))])
        (.seq
        (.region 0 [
          (none, .v 47 (.move (.t 13)))])
        (.block 2
          (.seq
          (.region 0 [
            (none, .v 52 (.move (.t 2))),
            (none, .v 53 (.cmp .eq (.t 47) (.t 52))),
            (none, .v 51 (.move (.t 53)))])
          (.cond (.t 51)
            (.region 0 [
              (none, .v 54 (.move (.t 12))),
              (none, .v 7 (.move (.t 54)))])
            (.seq
            (.seq
            (.region 0 [
              (none, .v 56 (.cmp .eq (.t 47) (.k (.int .i64 (1))))),
              (none, .v 55 (.move (.t 56)))])
            (.cond (.t 55)
              .skip
              (.region 0 [
                (none, .v 57 (.cmp .eq (.t 47) (.k (.int .i64 (2))))),
                (none, .v 55 (.move (.t 57)))])))
            (.cond (.t 55)
              (.region 0 [
                (none, .v 58 (.move (.t 8))),
                (none, .v 59 (.move (.t 12))),
                (none, .v 60 (.add (.t 58) (.t 59))),
                (none, .v 8 (.move (.t 60)))])
              (.seq
              (.seq
              (.region 0 [
                (none, .v 62 (.cmp .eq (.t 47) (.k (.int .i64 (3))))),
                (none, .v 61 (.move (.t 62)))])
              (.cond (.t 61)
                .skip
                (.seq
                (.region 0 [
                  (none, .v 63 (.cmp .eq (.t 47) (.k (.int .i64 (4))))),
                  (none, .v 61 (.move (.t 63)))])
                (.cond (.t 61)
                  .skip
                  (.region 0 [
                    (none, .v 64 (.cmp .eq (.t 47) (.k (.int .i64 (12))))),
                    (none, .v 61 (.move (.t 64)))])))))
              (.cond (.t 61)
                (.region 0 [
                  (none, .v 65 (.move (.t 9))),
                  (none, .v 66 (.move (.t 12))),
                  (none, .v 67 (.add (.t 65) (.t 66))),
                  (none, .v 9 (.move (.t 67)))])
                (.region 0 [
                  (none, .v 48 (.move (.t 10))),
                  (none, .v 49 (.move (.t 12))),
                  (none, .v 50 (.add (.t 48) (.t 49))),
                  (none, .v 10 (.move (.t 50)))]))))))))))))))
      (.region 0 [
        (none, .v 68 (.add (.t 32) (.k (.int .i64 (1))))),
        (none, .v 32 (.move (.t 68)))])))))))
  (.seq
  (.region 0 [
    (none, .v 69 (.move (.t 7))),
    (none, .v 70 (.cmp .eq (.t 69) (.k (.int .i64 (0))))),
    (none, .v 71 (.move (.t 70))),
    (some (71, true), .v 72 (.move (.t 9))),
    (some (71, true), .v 73 (.cmp .eq (.t 72) (.k (.int .i64 (0))))),
    (none, .v 74 (.pick (.t 71) (.t 73) (.k (.bool false)))),
    (none, .v 75 (.move (.t 74))),
    (some (75, true), .v 76 (.move (.t 10))),
    (some (75, true), .v 77 (.cmp .eq (.t 76) (.k (.int .i64 (1))))),
    (none, .v 78 (.pick (.t 75) (.t 77) (.k (.bool false)))),
    (none, .v 14 (.move (.t 78)))])
  (.seq
  (.region 0 [
    (none, .v 79 (.move (.t 7))),
    (none, .v 80 (.cmp .eq (.t 79) (.k (.int .i64 (1))))),
    (none, .v 81 (.move (.t 80))),
    (some (81, true), .v 82 (.move (.t 10))),
    (some (81, true), .v 83 (.cmp .eq (.t 82) (.k (.int .i64 (0))))),
    (some (81, true), .v 84 (.move (.t 83))),
    (some (84, true), .v 85 (.move (.t 9))),
    (some (84, true), .v 86 (.cmp .gt (.t 85) (.k (.int .i64 (0))))),
    (some (81, true), .v 87 (.pick (.t 84) (.t 86) (.k (.bool false)))),
    (some (81, true), .v 88 (.move (.t 87))),
    (some (88, false), .v 89 (.move (.t 10))),
    (some (88, false), .v 90 (.cmp .eq (.t 89) (.k (.int .i64 (1))))),
    (some (81, true), .v 91 (.pick (.t 88) (.k (.bool true)) (.t 90))),
    (none, .v 92 (.pick (.t 81) (.t 91) (.k (.bool false)))),
    (none, .v 15 (.move (.t 92)))])
  (.seq
  (.seq
  (.region 0 [
    (none, .v 93 (.move (.t 8))),
    (none, .v 94 (.cmp .ne (.t 93) (.k (.int .i64 (0))))),
    (none, .v 95 (.move (.t 94))),
    (some (95, false), .v 96 (.move (.t 14))),
    (some (95, false), .v 97 (.not (.t 96))),
    (some (95, false), .v 98 (.move (.t 97))),
    (some (98, true), .v 99 (.move (.t 15))),
    (some (98, true), .v 100 (.not (.t 99))),
    (some (95, false), .v 101 (.pick (.t 98) (.t 100) (.k (.bool false)))),
    (none, .v 102 (.pick (.t 95) (.k (.bool true)) (.t 101)))])
  (.cond (.t 102)
    (.seq
    (.region 0 [
      (none, .v 6 (.move (.k (.int .i64 (320)))))])
    .ret)
    .skip))
  (.seq
  (.region 0 [
    (none, .v 6 (.move (.k (.int .i64 (0)))))])
  .ret))))))))
def nt_audit_Count : Nat := 103
def rs_audit_Count : List RV := [.tmp 6]
/-- pontage/ether.Decode -/
abbrev f_ether_Decode : FuncId := 35
def ac_ether_Decode : AC :=
  (.seq
  (.region 1 [
    (none, .alloc 2 0 T90),
    (none, .v 3 (.move (.k (.int .i64 (0)))))])
  (.seq
  (.seq
  (.region 0 [
    (none, .v 9 (.move (.t 0))),
    (none, .v 10 (.len false (.t 9))),
    (none, .v 11 (.cmp .lt (.t 10) (.k (.int .i64 (14)))))])
  (.cond (.t 11)
    (.seq
    (.region 0 [
      (none, .v 12 (.build T90 [])),
      (none, .store T90 (.t 2) (.t 12)),
      (none, .v 3 (.move (.k (.int .i64 (6)))))])
    .ret)
    .skip))
  (.seq
  (.draw 1 [[], [], [], [], [], [], [], [], [], []] [
    (none, .v 13 (.move (.t 0))),
    (none, .v 14 (.slice (.int .u8) (.t 13) none (some (.k (.int .i64 (6)))) (some (.k (.int .i64 (6)))))),
    (none, .v 15 (.sarr 6 (.int .u8) (.t 14))),
    (none, .load 16 T86 (.t 15)),
    (none, .v 17 (.move (.t 0))),
    (none, .v 18 (.slice (.int .u8) (.t 17) (some (.k (.int .i64 (6)))) (some (.k (.int .i64 (12)))) (some (.k (.int .i64 (12)))))),
    (none, .v 19 (.sarr 6 (.int .u8) (.t 18))),
    (none, .load 20 T86 (.t 19)),
    (none, .v 21 (.build T90 [(0, .t 16), (1, .t 20)])),
    (none, .alloc 4 0 T90)] [
    (none, .store T90 (.t 4) (.t 21))])
  (.seq
  (.region 0 [
    (none, .v 22 (.move (.t 0))),
    (none, .v 23 (.move (.t 0))),
    (none, .v 24 (.len false (.t 23))),
    (none, .v 25 (.move (.t 0))),
    (none, .v 26 (.len false (.t 25))),
    (none, .v 27 (.slice (.int .u8) (.t 22) (some (.k (.int .i64 (12)))) (some (.t 24)) (some (.t 26)))),
    (none, .v 5 (.move (.t 27)))])
  (.seq
  (.region 0 [
    (none, .v 28 (.move (.t 5))),
    (none, .callP (some 29) 63 [.t 28] 0 0 true),
    (none, .v 30 (.fadr T90 2 (.t 4))),
    (none, .store .bool (.t 30) (.t 29))])
  (.seq
  (.seq
  (.region 0 [
    (none, .v 31 (.fadr T90 2 (.t 4))),
    (none, .load 32 .bool (.t 31))])
  (.cond (.t 32)
    (.seq
    (.seq
    (.region 0 [
      (none, .v 33 (.move (.t 5))),
      (none, .v 34 (.len false (.t 33))),
      (none, .v 35 (.cmp .lt (.t 34) (.k (.int .i64 (6)))))])
    (.cond (.t 35)
      (.seq
      (.region 0 [
        (none, .v 36 (.build T90 [])),
        (none, .store T90 (.t 2) (.t 36)),
        (none, .v 3 (.move (.k (.int .i64 (6)))))])
      .ret)
      .skip))
    (.region 0 [
      (none, .v 37 (.move (.t 5))),
      (none, .v 38 (.slice (.int .u8) (.t 37) (some (.k (.int .i64 (4)))) none none)),
      (none, .v 5 (.move (.t 38)))]))
    .skip))
  (.seq
  (.seq
  (.region 0 [
    (none, .v 39 (.move (.t 5))),
    (none, .v 40 (.len false (.t 39))),
    (none, .v 41 (.cmp .gt (.t 40) (.k (.int .i64 (1502)))))])
  (.cond (.t 41)
    (.seq
    (.region 0 [
      (none, .v 42 (.build T90 [])),
      (none, .store T90 (.t 2) (.t 42)),
      (none, .v 3 (.move (.k (.int .i64 (2)))))])
    .ret)
    .skip))
  (.seq
  (.seq
  (.region 0 [
    (none, .v 43 (.fadr T90 2 (.t 4))),
    (none, .load 44 .bool (.t 43))])
  (.cond (.t 44)
    (.seq
    (.region 2 [
      (none, .v 46 (.move (.t 0))),
      (none, .v 47 (.slice (.int .u8) (.t 46) (some (.k (.int .i64 (14)))) none none)),
      (none, .callP (some 48) 64 [.t 47] 0 1 true),
      (none, .v 45 (.move (.t 48))),
      (none, .v 49 (.ext (.t 45) 0)),
      (none, .v 50 (.ext (.t 45) 1)),
      (none, .v 51 (.ext (.t 45) 2)),
      (none, .alloc 6 1 T88),
      (none, .store T88 (.t 6) (.t 49)),
      (none, .v 7 (.move (.t 50))),
      (none, .v 8 (.move (.t 51)))])
    (.seq
    (.seq
    (.region 0 [
      (none, .v 52 (.move (.t 8))),
      (none, .v 53 (.cmp .ne (.t 52) (.k (.int .i64 (0)))))])
    (.cond (.t 53)
      (.seq
      (.region 0 [
        (none, .v 54 (.build T90 [])),
        (none, .store T90 (.t 2) (.t 54)),
        (none, .v 3 (.move (.k (.int .i64 (30)))))])
      .ret)
      .skip))
    (.region 0 [
      (none, .load 55 T88 (.t 6)),
      (none, .v 56 (.fadr T90 3 (.t 4))),
      (none, .store T88 (.t 56) (.t 55))])))
    .skip))
  (.seq
  (.region 1 [
    (none, .v 57 (.move (.t 5))),
    (none, .callP (some 58) 65 [.t 57] 0 1 true),
    (none, .v 59 (.fadr T90 4 (.t 4))),
    (none, .store (.sl (.int .u8)) (.t 59) (.t 58))])
  (.seq
  (.seq
  (.region 0 [
    (none, .load 60 T90 (.t 4)),
    (none, .callP (some 61) 66 [.t 60] 0 0 true),
    (none, .v 62 (.cmp .ne (.t 61) (.k (.int .i64 (0)))))])
  (.cond (.t 62)
    (.seq
    (.region 0 [
      (none, .v 63 (.build T90 [])),
      (none, .store T90 (.t 2) (.t 63)),
      (none, .v 3 (.move (.k (.int .i64 (30)))))])
    .ret)
    .skip))
  (.seq
  (.region 0 [
    (none, .load 64 T90 (.t 4)),
    (none, .store T90 (.t 2) (.t 64)),
    (none, .v 3 (.move (.k (.int .i64 (0)))))])
  .ret)))))))))))
def nt_ether_Decode : Nat := 65
def rs_ether_Decode : List RV := [.cell 2 T90, .tmp 3]
/-- slices.ContainsFunc[[]pontage/api.Seen,pontage/api.Seen] -/
abbrev f_slices_ContainsFunc_api_Seen_api_Seen : FuncId := 37
def ac_slices_ContainsFunc_api_Seen_api_Seen : AC :=
  (.seq
  (.region 0 [
    (none, .v 4 (.move (.k (.bool false))))])
  (.seq
  (.region 0 [
    (none, .v 5 (.move (.t 0))),
    (none, .v 6 (.move (.t 1))),
    (none, .callS (some 7) (.k (.fn 41 [])) [.t 5, .t 6] [] [41]),
    (none, .v 8 (.cmp .ge (.t 7) (.k (.int .i64 (0))))),
    (none, .v 4 (.move (.t 8)))])
  .ret))
def nt_slices_ContainsFunc_api_Seen_api_Seen : Nat := 9
def rs_slices_ContainsFunc_api_Seen_api_Seen : List RV := [.tmp 4]
/-- pontage/audit.Reached$1 -/
abbrev f_audit_Reached_1 : FuncId := 38
def ac_audit_Reached_1 : AC :=
  (.seq
  (.region 0 [
    (none, .boxc 4 T29 (.t 0)),
    (none, .v 5 (.move (.k (.bool false))))])
  (.seq
  (.region 0 [
    (none, .v 6 (.fadr T29 1 (.t 4))),
    (none, .load 7 (.int .i64) (.t 6)),
    (none, .v 8 (.fadr T96 0 (.t 1))),
    (none, .load 9 (.int .i64) (.t 8)),
    (none, .v 10 (.cmp .eq (.t 7) (.t 9))),
    (none, .v 11 (.move (.t 10))),
    (some (11, true), .v 12 (.fadr T29 2 (.t 4))),
    (some (11, true), .load 13 (.int .i64) (.t 12)),
    (some (11, true), .v 14 (.fadr T96 1 (.t 1))),
    (some (11, true), .v 15 (.fadr T94 0 (.t 14))),
    (some (11, true), .load 16 (.int .i64) (.t 15)),
    (some (11, true), .v 17 (.cmp .eq (.t 13) (.t 16))),
    (none, .v 18 (.pick (.t 11) (.t 17) (.k (.bool false)))),
    (none, .v 19 (.move (.t 18))),
    (some (19, true), .load 20 (.sl (.st [.int .i64, .st [.int .i64, .int .i64, .int .i64]])) (.t 2)),
    (some (19, true), .load 21 T29 (.t 3)),
    (some (19, true), .load 22 T29 (.t 4)),
    (some (19, true), .callP (some 23) 17 [.t 20, .t 21, .t 22] 0 0 true),
    (none, .v 24 (.pick (.t 19) (.t 23) (.k (.bool false)))),
    (none, .v 5 (.move (.t 24)))])
  .ret))
def nt_audit_Reached_1 : Nat := 25
def rs_audit_Reached_1 : List RV := [.tmp 5]
/-- pontage/audit.alike -/
abbrev f_audit_alike : FuncId := 39
def ac_audit_alike : AC :=
  (.seq
  (.region 0 [
    (none, .v 4 (.move (.k (.bool false))))])
  (.seq
  (.region 2 [
    (none, .v 10 (.move (.t 0))),
    (none, .callP (some 11) 35 [.t 10] 0 1 true),
    (none, .v 9 (.move (.t 11))),
    (none, .v 12 (.ext (.t 9) 0)),
    (none, .v 13 (.ext (.t 9) 1)),
    (none, .alloc 5 1 T90),
    (none, .store T90 (.t 5) (.t 12)),
    (none, .v 6 (.move (.t 13)))])
  (.seq
  (.region 2 [
    (none, .v 15 (.move (.t 1))),
    (none, .callP (some 16) 35 [.t 15] 0 1 true),
    (none, .v 14 (.move (.t 16))),
    (none, .v 17 (.ext (.t 14) 0)),
    (none, .v 18 (.ext (.t 14) 1)),
    (none, .alloc 7 1 T90),
    (none, .store T90 (.t 7) (.t 17)),
    (none, .v 8 (.move (.t 18)))])
  (.seq
  (.region 0 [
    (none, .v 19 (.fadr T90 3 (.t 7))),
    (none, .v 20 (.fadr T88 2 (.t 19))),
    (none, .load 21 (.int .i64) (.t 20)),
    (none, .v 22 (.fadr T90 3 (.t 5))),
    (none, .v 23 (.fadr T88 2 (.t 22))),
    (none, .store (.int .i64) (.t 23) (.t 21))])
  (.seq
  (.region 0 [
    (none, .v 24 (.move (.t 6))),
    (none, .v 25 (.cmp .eq (.t 24) (.k (.int .i64 (0))))),
    (none, .v 26 (.move (.t 25))),
    (some (26, true), .v 27 (.move (.t 8))),
    (some (26, true), .v 28 (.cmp .eq (.t 27) (.k (.int .i64 (0))))),
    (none, .v 29 (.pick (.t 26) (.t 28) (.k (.bool false)))),
    (none, .v 30 (.move (.t 29))),
    (some (30, true), .load 31 T90 (.t 5)),
    (some (30, true), .load 32 T90 (.t 7)),
    (some (30, true), .callP (some 33) 70 [.t 31, .t 32] 0 0 true),
    (none, .v 34 (.pick (.t 30) (.t 33) (.k (.bool false)))),
    (none, .v 4 (.move (.t 34)))])
  .ret)))))
def nt_audit_alike : Nat := 35
def rs_audit_alike : List RV := [.tmp 4]
/-- slices.IndexFunc[[]pontage/api.Seen,pontage/api.Seen] -/
abbrev f_slices_IndexFunc_api_Seen_api_Seen : FuncId := 41
def ac_slices_IndexFunc_api_Seen_api_Seen : AC :=
  (.seq
  (.region 0 [
    (none, .v 4 (.move (.k (.int .i64 (0)))))])
  (.seq
  (.seq
  (.region 0 [
    (none, .v 6 (.move (.t 0))),
    (none, .v 7 (.len false (.t 6))),
    (none, .v 8 (.move (.k (.int .i64 (0)))))])
  (.block 0
    (.loop [0, 1, 7, 8]
      (.seq
      (.region 0 [
        (none, .v 9 (.cmp .lt (.t 8) (.t 7)))])
      (.seq
      (.cond (.t 9)
        .skip
        (.exit 0))
      (.seq
      (.block 1
        (.seq
        (.region 0 [
          (none, .v 10 (.move (.t 8))),
          (none, .v 5 (.move (.t 10)))])
        (.seq
        (.region 0 [
          (none, .v 11 (.move (.t 1))),
          (none, .v 12 (.move (.t 0))),
          (none, .v 13 (.move (.t 5))),
          (none, .v 14 (.iadr none T29 (.t 12) (.t 13))),
          (none, .load 15 T29 (.t 14)),
          (none, .callS (some 16) (.t 11) [.t 15] [] [42, 38])])
        (.cond (.t 16)
          (.seq
          (.region 0 [
            (none, .v 17 (.move (.t 5))),
            (none, .v 4 (.move (.t 17)))])
          .ret)
          .skip))))
      (.region 0 [
        (none, .v 18 (.add (.t 8) (.k (.int .i64 (1))))),
        (none, .v 8 (.move (.t 18)))])))))))
  (.seq
  (.region 0 [
    (none, .v 4 (.move (.k (.int .i64 (-1)))))])
  .ret)))
def nt_slices_IndexFunc_api_Seen_api_Seen : Nat := 19
def rs_slices_IndexFunc_api_Seen_api_Seen : List RV := [.tmp 4]
/-- pontage/audit.Apart$1 -/
abbrev f_audit_Apart_1 : FuncId := 42
def ac_audit_Apart_1 : AC :=
  (.seq
  (.region 0 [
    (none, .boxc 3 T29 (.t 0)),
    (none, .v 4 (.move (.k (.bool false))))])
  (.seq
  (.region 0 [
    (none, .load 5 (.sl (.st [.int .i64, .st [.int .i64, .int .i64, .int .i64]])) (.t 1)),
    (none, .load 6 (.sl (.st [.int .i64, .int .i64, .int .i64, .sl (.int .u8)])) (.t 2)),
    (none, .load 7 T29 (.t 3)),
    (none, .callP (some 8) 43 [.t 5, .t 6, .t 7] 0 0 true),
    (none, .v 9 (.cmp .eq (.t 8) (.k (.int .i64 (0))))),
    (none, .v 4 (.move (.t 9)))])
  .ret))
def nt_audit_Apart_1 : Nat := 10
def rs_audit_Apart_1 : List RV := [.tmp 4]
/-- pontage/audit.explained -/
abbrev f_audit_explained : FuncId := 43
def ac_audit_explained : AC :=
  (.seq
  (.region 0 [
    (none, .boxc 5 T29 (.t 2)),
    (none, .v 6 (.move (.k (.int .i64 (0)))))])
  (.seq
  (.region 0 [
    (none, .v 7 (.move (.k (.int .i64 (0)))))])
  (.seq
  (.seq
  (.region 0 [
    (none, .v 10 (.move (.t 1))),
    (none, .v 11 (.len false (.t 10))),
    (none, .v 12 (.move (.k (.int .i64 (0)))))])
  (.block 0
    (.loop [0, 5, 7, 10, 11, 12]
      (.seq
      (.region 0 [
        (none, .v 13 (.cmp .lt (.t 12) (.t 11)))])
      (.seq
      (.cond (.t 13)
        .skip
        (.exit 0))
      (.seq
      (.block 1
        (.seq
        (.region 1 [
          (none, .v 14 (.iadr none T29 (.t 10) (.t 12))),
          (none, .load 15 T29 (.t 14)),
          (none, .alloc 9 0 T29),
          (none, .store T29 (.t 9) (.t 15))])
        (.seq
        (.region 0 [
          (none, .v 16 (.move (.t 0))),
          (none, .load 17 T29 (.t 9)),
          (none, .load 18 T29 (.t 5)),
          (none, .callP (some 19) 17 [.t 16, .t 17, .t 18] 0 0 true)])
        (.cond (.t 19)
          (.region 0 [
            (none, .v 20 (.move (.t 7))),
            (none, .v 21 (.add (.t 20) (.k (.int .i64 (1))))),
            (none, .v 7 (.move (.t 21)))])
          .skip))))
      (.region 0 [
        (none, .v 22 (.add (.t 12) (.k (.int .i64 (1))))),
        (none, .v 12 (.move (.t 22)))])))))))
  (.seq
  (.region 0 [
    (none, .v 23 (.move (.t 7))),
    (none, .v 6 (.move (.t 23)))])
  .ret))))
def nt_audit_explained : Nat := 24
def rs_audit_explained : List RV := [.tmp 6]
/-- pontage/audit.Often$1 -/
abbrev f_audit_Often_1 : FuncId := 45
def ac_audit_Often_1 : AC :=
  (.seq
  (.region 0 [
    (none, .boxc 2 T29 (.t 0)),
    (none, .boxc 3 T29 (.t 1)),
    (none, .v 4 (.move (.k (.bool false))))])
  (.seq
  (.region 0 [
    (none, .v 5 (.fadr T29 1 (.t 2))),
    (none, .load 6 (.int .i64) (.t 5)),
    (none, .v 7 (.fadr T29 1 (.t 3))),
    (none, .load 8 (.int .i64) (.t 7)),
    (none, .v 9 (.cmp .eq (.t 6) (.t 8))),
    (none, .v 10 (.move (.t 9))),
    (some (10, true), .v 11 (.fadr T29 2 (.t 2))),
    (some (10, true), .load 12 (.int .i64) (.t 11)),
    (some (10, true), .v 13 (.fadr T29 2 (.t 3))),
    (some (10, true), .load 14 (.int .i64) (.t 13)),
    (some (10, true), .v 15 (.cmp .eq (.t 12) (.t 14))),
    (none, .v 16 (.pick (.t 10) (.t 15) (.k (.bool false)))),
    (none, .v 17 (.move (.t 16))),
    (some (17, true), .v 18 (.fadr T29 3 (.t 2))),
    (some (17, true), .load 19 (.sl (.int .u8)) (.t 18)),
    (some (17, true), .v 20 (.fadr T29 3 (.t 3))),
    (some (17, true), .load 21 (.sl (.int .u8)) (.t 20)),
    (some (17, true), .callP (some 22) 46 [.t 19, .t 21] 0 0 true),
    (none, .v 23 (.pick (.t 17) (.t 22) (.k (.bool false)))),
    (none, .v 4 (.move (.t 23)))])
  .ret))
def nt_audit_Often_1 : Nat := 24
def rs_audit_Often_1 : List RV := [.tmp 4]
/-- slices.Equal[[]byte,byte] -/
abbrev f_slices_Equal_u8 : FuncId := 46
def ac_slices_Equal_u8 : AC :=
  (.seq
  (.region 0 [
    (none, .v 4 (.move (.k (.bool false))))])
  (.seq
  (.seq
  (.region 0 [
    (none, .v 6 (.move (.t 0))),
    (none, .v 7 (.len false (.t 6))),
    (none, .v 8 (.move (.t 1))),
    (none, .v 9 (.len false (.t 8))),
    (none, .v 10 (.cmp .ne (.t 7) (.t 9)))])
  (.cond (.t 10)
    (.seq
    (.region 0 [
      (none, .v 4 (.move (.k (.bool false))))])
    .ret)
    .skip))
  (.seq
  (.seq
  (.region 0 [
    (none, .v 11 (.move (.t 0))),
    (none, .v 12 (.len false (.t 11))),
    (none, .v 13 (.move (.k (.int .i64 (0)))))])
  (.block 0
    (.loop [0, 1, 12, 13]
      (.seq
      (.region 0 [
        (none, .v 14 (.cmp .lt (.t 13) (.t 12)))])
      (.seq
      (.cond (.t 14)
        .skip
        (.exit 0))
      (.seq
      (.block 1
        (.seq
        (.region 0 [
          (none, .v 15 (.move (.t 13))),
          (none, .v 5 (.move (.t 15)))])
        (.seq
        (.draw 0 [[], [], [], [], [], [], [], []] [
          (none, .v 16 (.move (.t 0))),
          (none, .v 17 (.move (.t 5))),
          (none, .v 18 (.iadr none (.int .u8) (.t 16) (.t 17))),
          (none, .load 19 (.int .u8) (.t 18)),
          (none, .v 20 (.move (.t 1))),
          (none, .v 21 (.move (.t 5))),
          (none, .v 22 (.iadr none (.int .u8) (.t 20) (.t 21))),
          (none, .load 23 (.int .u8) (.t 22))] [
          (none, .v 24 (.cmp .ne (.t 19) (.t 23)))])
        (.cond (.t 24)
          (.seq
          (.region 0 [
            (none, .v 4 (.move (.k (.bool false))))])
          .ret)
          .skip))))
      (.region 0 [
        (none, .v 25 (.add (.t 13) (.k (.int .i64 (1))))),
        (none, .v 13 (.move (.t 25)))])))))))
  (.seq
  (.region 0 [
    (none, .v 4 (.move (.k (.bool true))))])
  .ret))))
def nt_slices_Equal_u8 : Nat := 26
def rs_slices_Equal_u8 : List RV := [.tmp 4]
/-- pontage/pontageref03.Encode -/
abbrev f_r03_Encode : FuncId := 47
def ac_r03_Encode : AC :=
  (.seq
  (.region 0 [
    (none, .boxc 1 T90 (.t 0)),
    (none, .v 2 (.move (.k (.sl (.int .u8) [] .full)))),
    (none, .v 3 (.move (.k (.int .i64 (0)))))])
  (.seq
  (.region 0 [
    (none, .load 10 T90 (.t 1)),
    (none, .callP (some 11) 69 [.t 10] 0 0 true),
    (none, .v 4 (.move (.t 11)))])
  (.seq
  (.seq
  (.region 0 [
    (none, .v 12 (.move (.t 4))),
    (none, .v 13 (.cmp .ne (.t 12) (.k (.int .i64 (0)))))])
  (.cond (.t 13)
    (.seq
    (.region 0 [
      (none, .v 14 (.move (.t 4))),
      (none, .v 2 (.move (.k (.sl (.int .u8) [] .full)))),
      (none, .v 3 (.move (.t 14)))])
    .ret)
    .skip))
  (.seq
  (.region 1 [
    (none, .mk 5 0 (.int .u8) (.k (.sl (.int .u8) [] .full)))])
  (.seq
  (.seq
  (.region 0 [
    (none, .v 6 (.move (.k (.int .i64 (0)))))])
  (.block 0
    (.loop [1, 5, 6]
      (.seq
      (.seq
      (.region 0 [
        (none, .v 15 (.move (.t 6))),
        (none, .v 16 (.cmp .lt (.t 15) (.k (.int .i64 (6)))))])
      (.cond (.t 16)
        .skip
        (.exit 0)))
      (.seq
      (.block 1
        (.region 2 [
          (none, .v 19 (.move (.t 5))),
          (none, .v 20 (.move (.t 6))),
          (none, .v 21 (.fadr T90 0 (.t 1))),
          (none, .v 22 (.iadr (some 6) (.int .u8) (.t 21) (.t 20))),
          (none, .load 23 (.int .u8) (.t 22)),
          (none, .lit 24 0 (.int .u8) 1 [(0, .t 23)] false),
          (none, .app 25 1 (.int .u8) 1 (.t 19) (.t 24) false),
          (none, .v 5 (.move (.t 25)))]))
      (.region 0 [
        (none, .v 17 (.move (.t 6))),
        (none, .v 18 (.add (.t 17) (.k (.int .i64 (1))))),
        (none, .v 6 (.move (.t 18)))]))))))
  (.seq
  (.seq
  (.region 0 [
    (none, .v 7 (.move (.k (.int .i64 (0)))))])
  (.block 2
    (.loop [1, 5, 7]
      (.seq
      (.seq
      (.region 0 [
        (none, .v 26 (.move (.t 7))),
        (none, .v 27 (.cmp .lt (.t 26) (.k (.int .i64 (6)))))])
      (.cond (.t 27)
        .skip
        (.exit 2)))
      (.seq
      (.block 3
        (.region 2 [
          (none, .v 30 (.move (.t 5))),
          (none, .v 31 (.move (.t 7))),
          (none, .v 32 (.fadr T90 1 (.t 1))),
          (none, .v 33 (.iadr (some 6) (.int .u8) (.t 32) (.t 31))),
          (none, .load 34 (.int .u8) (.t 33)),
          (none, .lit 35 0 (.int .u8) 1 [(0, .t 34)] false),
          (none, .app 36 1 (.int .u8) 1 (.t 30) (.t 35) false),
          (none, .v 5 (.move (.t 36)))]))
      (.region 0 [
        (none, .v 28 (.move (.t 7))),
        (none, .v 29 (.add (.t 28) (.k (.int .i64 (1))))),
        (none, .v 7 (.move (.t 29)))]))))))
  (.seq
  (.seq
  (.region 0 [
    (none, .v 37 (.fadr T90 2 (.t 1))),
    (none, .load 38 .bool (.t 37))])
  (.cond (.t 38)
    (.seq
    (.region 1 [
      (none, .v 40 (.fadr T90 3 (.t 1))),
      (none, .load 41 T88 (.t 40)),
      (none, .callP (some 42) 72 [.t 41] 0 1 true),
      (none, .v 39 (.move (.t 42))),
      (none, .v 43 (.ext (.t 39) 0)),
      (none, .v 44 (.ext (.t 39) 1)),
      (none, .v 8 (.move (.t 43))),
      (none, .v 9 (.move (.t 44)))])
    (.region 3 [
      (none, .v 45 (.move (.t 5))),
      (none, .lit 46 0 (.int .u8) 2 [(0, .k (.int .u8 (136))), (1, .k (.int .u8 (168)))] false),
      (none, .app 47 1 (.int .u8) 1 (.t 45) (.t 46) false),
      (none, .v 48 (.move (.t 8))),
      (none, .app 49 2 (.int .u8) 1 (.t 47) (.t 48) false),
      (none, .v 5 (.move (.t 49)))]))
    .skip))
  (.seq
  (.region 1 [
    (none, .v 50 (.move (.t 5))),
    (none, .v 51 (.fadr T90 4 (.t 1))),
    (none, .load 52 (.sl (.int .u8)) (.t 51)),
    (none, .app 53 0 (.int .u8) 1 (.t 50) (.t 52) false),
    (none, .v 2 (.move (.t 53))),
    (none, .v 3 (.move (.k (.int .i64 (0)))))])
  .ret))))))))
def nt_r03_Encode : Nat := 54
def rs_r03_Encode : List RV := [.tmp 2, .tmp 3]
/-- pontage/audit.rise -/
abbrev f_audit_rise : FuncId := 48
def ac_audit_rise : AC :=
  (.seq
  (.region 0 [
    (none, .v 4 (.move (.k (.int .i64 (0)))))])
  (.seq
  (.block 0
    (.seq
    (.region 0 [
      (none, .v 6 (.move (.t 1))),
      (none, .v 7 (.move (.t 0))),
      (none, .v 8 (.cmp .lt (.t 6) (.t 7))),
      (none, .v 5 (.move (.t 8)))])
    (.cond (.t 5)
      (.seq
      (.region 0 [
        (none, .v 4 (.move (.k (.int .i64 (-1)))))])
      .ret)
      (.seq
      (.region 0 [
        (none, .v 10 (.move (.t 1))),
        (none, .v 11 (.move (.t 0))),
        (none, .v 12 (.cmp .eq (.t 10) (.t 11))),
        (none, .v 9 (.move (.t 12)))])
      (.cond (.t 9)
        (.seq
        (.region 0 [
          (none, .v 4 (.move (.k (.int .i64 (0)))))])
        .ret)
        (.seq
        (.region 0 [
          (none, .v 14 (.move (.t 1))),
          (none, .v 15 (.sub (.t 14) (.k (.int .i64 (1))))),
          (none, .v 16 (.move (.t 0))),
          (none, .v 17 (.cmp .eq (.t 15) (.t 16))),
          (none, .v 13 (.move (.t 17)))])
        (.cond (.t 13)
          (.seq
          (.region 0 [
            (none, .v 4 (.move (.k (.int .i64 (1)))))])
          .ret)
          .skip)))))))
  (.seq
  (.region 0 [
    (none, .v 4 (.move (.k (.int .i64 (2)))))])
  .ret)))
def nt_audit_rise : Nat := 18
def rs_audit_rise : List RV := [.tmp 4]
/-- pontage/ether.marked -/
abbrev f_ether_marked : FuncId := 63
def ac_ether_marked : AC :=
  (.seq
  (.region 0 [
    (none, .v 2 (.move (.k (.bool false))))])
  (.seq
  (.region 1 [
    (none, .v 7 (.move (.t 0))),
    (none, .callP (some 8) 86 [.t 7] 0 1 true),
    (none, .v 6 (.move (.t 8))),
    (none, .v 9 (.ext (.t 6) 0)),
    (none, .v 10 (.ext (.t 6) 1)),
    (none, .v 11 (.ext (.t 6) 2)),
    (none, .v 3 (.move (.t 9))),
    (none, .v 4 (.move (.t 10))),
    (none, .v 5 (.move (.t 11)))])
  (.seq
  (.region 0 [
    (none, .v 12 (.move (.t 5))),
    (none, .v 13 (.cmp .eq (.t 12) (.k (.int .i64 (0))))),
    (none, .v 14 (.move (.t 13))),
    (some (14, true), .v 15 (.move (.t 3))),
    (some (14, true), .v 16 (.cmp .eq (.t 15) (.k (.int .i64 (34984))))),
    (none, .v 17 (.pick (.t 14) (.t 16) (.k (.bool false)))),
    (none, .v 2 (.move (.t 17)))])
  .ret)))
def nt_ether_marked : Nat := 18
def rs_ether_marked : List RV := [.tmp 2]
/-- pontage/tag.Take -/
abbrev f_tag_Take : FuncId := 64
def ac_tag_Take : AC :=
  (.seq
  (.region 1 [
    (none, .alloc 2 0 T88),
    (none, .v 3 (.move (.k (.sl (.int .u8) [] .full)))),
    (none, .v 4 (.move (.k (.int .i64 (0)))))])
  (.seq
  (.seq
  (.region 0 [
    (none, .v 8 (.move (.t 0))),
    (none, .v 9 (.len false (.t 8))),
    (none, .v 10 (.cmp .lt (.t 9) (.k (.int .i64 (2)))))])
  (.cond (.t 10)
    (.seq
    (.region 0 [
      (none, .v 11 (.build T88 [])),
      (none, .store T88 (.t 2) (.t 11)),
      (none, .v 3 (.move (.k (.sl (.int .u8) [] .full)))),
      (none, .v 4 (.move (.k (.int .i64 (6)))))])
    .ret)
    .skip))
  (.seq
  (.region 1 [
    (none, .v 12 (.move (.t 0))),
    (none, .v 13 (.slice (.int .u8) (.t 12) none (some (.k (.int .i64 (2)))) none)),
    (none, .callP (some 14) 88 [.t 13] 0 0 true),
    (none, .callP (some 15) 87 [.t 14] 0 1 true),
    (none, .v 5 (.move (.t 15)))])
  (.seq
  (.region 1 [
    (none, .v 16 (.move (.t 5))),
    (none, .callS (some 17) (.t 16) [.k (.int .u64 (12))] [] [101]),
    (none, .v 18 (.build T88 [(2, .t 17)])),
    (none, .alloc 6 0 T88),
    (none, .store T88 (.t 6) (.t 18))])
  (.seq
  (.region 0 [
    (none, .v 19 (.move (.t 5))),
    (none, .callS (some 20) (.t 19) [.k (.int .u64 (1))] [] [101]),
    (none, .v 21 (.cmp .eq (.t 20) (.k (.int .i64 (1))))),
    (none, .v 22 (.fadr T88 1 (.t 6))),
    (none, .store .bool (.t 22) (.t 21))])
  (.seq
  (.region 0 [
    (none, .v 23 (.move (.t 5))),
    (none, .callS (some 24) (.t 23) [.k (.int .u64 (3))] [] [101]),
    (none, .v 25 (.fadr T88 0 (.t 6))),
    (none, .store (.int .i64) (.t 25) (.t 24))])
  (.seq
  (.seq
  (.region 0 [
    (none, .load 26 T88 (.t 6)),
    (none, .callP (some 27) 89 [.t 26] 0 0 true),
    (none, .v 7 (.move (.t 27)))])
  (.seq
  (.region 0 [
    (none, .v 28 (.move (.t 7))),
    (none, .v 29 (.cmp .ne (.t 28) (.k (.int .i64 (0)))))])
  (.cond (.t 29)
    (.seq
    (.region 0 [
      (none, .v 30 (.build T88 [])),
      (none, .v 31 (.move (.t 7))),
      (none, .store T88 (.t 2) (.t 30)),
      (none, .v 3 (.move (.k (.sl (.int .u8) [] .full)))),
      (none, .v 4 (.move (.t 31)))])
    .ret)
    .skip)))
  (.seq
  (.draw 1 [[], [], [], []] [
    (none, .load 32 T88 (.t 6)),
    (none, .v 33 (.move (.t 0))),
    (none, .v 34 (.slice (.int .u8) (.t 33) (some (.k (.int .i64 (2)))) none none)),
    (none, .callP (some 35) 65 [.t 34] 0 1 false)] [
    (none, .store T88 (.t 2) (.t 32)),
    (none, .v 3 (.move (.t 35))),
    (none, .v 4 (.move (.k (.int .i64 (0)))))])
  .ret))))))))
def nt_tag_Take : Nat := 36
def rs_tag_Take : List RV := [.cell 2 T88, .tmp 3, .tmp 4]
/-- slices.Clone[[]byte,byte] -/
abbrev f_slices_Clone_u8 : FuncId := 65
def ac_slices_Clone_u8 : AC :=
  (.seq
  (.region 0 [
    (none, .v 2 (.move (.k (.sl (.int .u8) [] .full))))])
  (.seq
  (.seq
  (.region 0 [
    (none, .v 3 (.move (.t 0))),
    (none, .eqnil 4 false (.t 3))])
  (.cond (.t 4)
    (.seq
    (.region 1 [
      (none, .mk 2 0 (.int .u8) (.k (.sl (.int .u8) [] .full)))])
    .ret)
    .skip))
  (.seq
  (.region 2 [
    (none, .lit 5 0 (.int .u8) 0 [] true),
    (none, .v 6 (.move (.t 0))),
    (none, .app 7 1 (.int .u8) 1 (.t 5) (.t 6) false),
    (none, .v 2 (.move (.t 7)))])
  .ret)))
def nt_slices_Clone_u8 : Nat := 8
def rs_slices_Clone_u8 : List RV := [.tmp 2]
/-- pontage/ether.Check -/
abbrev f_ether_Check : FuncId := 66
def ac_ether_Check : AC :=
  (.seq
  (.region 0 [
    (none, .boxc 1 T90 (.t 0)),
    (none, .v 2 (.move (.k (.int .i64 (0)))))])
  (.seq
  (.region 0 [
    (none, .v 3 (.move (.k (.int .i64 (0)))))])
  (.seq
  .skip
  (.seq
  (.block 0
    (.loop [1, 3]
      (.block 1
        (.block 2
          (.seq
          (.region 0 [
            (none, .v 5 (.fadr T90 4 (.t 1))),
            (none, .load 6 (.sl (.int .u8)) (.t 5)),
            (none, .v 7 (.len false (.t 6))),
            (none, .v 8 (.cmp .gt (.t 7) (.k (.int .i64 (1502))))),
            (none, .v 4 (.move (.t 8)))])
          (.cond (.t 4)
            (.seq
            (.region 0 [
              (none, .v 3 (.move (.k (.int .i64 (2)))))])
            (.exit 0))
            (.seq
            (.region 0 [
              (none, .v 10 (.fadr T90 1 (.t 1))),
              (none, .load 11 T86 (.t 10)),
              (none, .callP (some 12) 90 [.t 11] 0 0 true),
              (none, .v 13 (.cmp .ne (.t 12) (.k (.int .i64 (1))))),
              (none, .v 14 (.move (.t 13))),
              (some (14, false), .v 15 (.fadr T90 0 (.t 1))),
              (some (14, false), .load 16 T86 (.t 15)),
              (some (14, false), .callP (some 17) 90 [.t 16] 0 0 true),
              (some (14, false), .v 18 (.cmp .eq (.t 17) (.k (.int .i64 (6))))),
              (none, .v 19 (.pick (.t 14) (.k (.bool true)) (.t 18))),
              (none, .v 20 (.move (.t 19))),
              (some (20, false), .v 21 (.fadr T90 4 (.t 1))),
              (some (20, false), .load 22 (.sl (.int .u8)) (.t 21)),
              (some (20, false), .v 23 (.len false (.t 22))),
              (some (20, false), .v 24 (.cmp .lt (.t 23) (.k (.int .i64 (2))))),
              (none, .v 25 (.pick (.t 20) (.k (.bool true)) (.t 24))),
              (none, .v 9 (.move (.t 25)))])
            (.cond (.t 9)
              (.seq
              (.region 0 [
                (none, .v 3 (.move (.k (.int .i64 (30)))))])
              (.exit 0))
              (.seq
              (.region 0 [
                (none, .v 27 (.fadr T90 2 (.t 1))),
                (none, .load 28 .bool (.t 27)),
                (none, .v 29 (.move (.t 28))),
                (some (29, true), .v 30 (.fadr T90 3 (.t 1))),
                (some (29, true), .load 31 T88 (.t 30)),
                (some (29, true), .callP (some 32) 89 [.t 31] 0 0 true),
                (some (29, true), .v 33 (.cmp .ne (.t 32) (.k (.int .i64 (0))))),
                (none, .v 34 (.pick (.t 29) (.t 33) (.k (.bool false)))),
                (none, .v 35 (.move (.t 34))),
                (some (35, false), .v 36 (.fadr T90 2 (.t 1))),
                (some (35, false), .load 37 .bool (.t 36)),
                (some (35, false), .v 38 (.not (.t 37))),
                (some (35, false), .v 39 (.move (.t 38))),
                (some (39, true), .v 40 (.fadr T90 3 (.t 1))),
                (some (39, true), .load 41 T88 (.t 40)),
                (some (39, true), .v 42 (.build T88 [])),
                (some (39, true), .v 43 (.eqT T88 true (.t 41) (.t 42))),
                (some (39, true), .v 44 (.move (.t 43))),
                (some (44, false), .v 45 (.fadr T90 4 (.t 1))),
                (some (44, false), .load 46 (.sl (.int .u8)) (.t 45)),
                (some (44, false), .callP (some 47) 63 [.t 46] 0 0 true),
                (some (39, true), .v 48 (.pick (.t 44) (.k (.bool true)) (.t 47))),
                (some (35, false), .v 49 (.pick (.t 39) (.t 48) (.k (.bool false)))),
                (none, .v 50 (.pick (.t 35) (.k (.bool true)) (.t 49))),
                (none, .v 26 (.move (.t 50)))])
              (.cond (.t 26)
                (.seq
                (.region 0 [
                  (none, .v 3 (.move (.k (.int .i64 (30)))))])
                (.exit 0))
                (.exit 0)))))))))))
  (.seq
  (.region 0 [
    (none, .v 51 (.move (.t 3))),
    (none, .v 2 (.move (.t 51)))])
  .ret)))))
def nt_ether_Check : Nat := 52
def rs_ether_Check : List RV := [.tmp 2]
/-- pontage/pontageref03.tagged -/
abbrev f_r03_tagged : FuncId := 67
def ac_r03_tagged : AC :=
  (.seq
  (.region 0 [
    (none, .v 2 (.move (.k (.bool false))))])
  (.seq
  (.region 0 [
    (none, .v 3 (.move (.t 0))),
    (none, .v 4 (.len false (.t 3))),
    (none, .v 5 (.cmp .ge (.t 4) (.k (.int .i64 (2))))),
    (none, .v 6 (.move (.t 5))),
    (some (6, true), .v 7 (.move (.t 0))),
    (some (6, true), .v 8 (.iadr none (.int .u8) (.t 7) (.k (.int .i64 (0))))),
    (some (6, true), .load 9 (.int .u8) (.t 8)),
    (some (6, true), .v 10 (.cmp .eq (.t 9) (.k (.int .u8 (136))))),
    (none, .v 11 (.pick (.t 6) (.t 10) (.k (.bool false)))),
    (none, .v 12 (.move (.t 11))),
    (some (12, true), .v 13 (.move (.t 0))),
    (some (12, true), .v 14 (.iadr none (.int .u8) (.t 13) (.k (.int .i64 (1))))),
    (some (12, true), .load 15 (.int .u8) (.t 14)),
    (some (12, true), .v 16 (.cmp .eq (.t 15) (.k (.int .u8 (168))))),
    (none, .v 17 (.pick (.t 12) (.t 16) (.k (.bool false)))),
    (none, .v 2 (.move (.t 17)))])
  .ret))
def nt_r03_tagged : Nat := 18
def rs_r03_tagged : List RV := [.tmp 2]
/-- pontage/pontageref03.Check -/
abbrev f_r03_Check : FuncId := 69
def ac_r03_Check : AC :=
  (.seq
  (.region 0 [
    (none, .boxc 1 T90 (.t 0)),
    (none, .v 2 (.move (.k (.int .i64 (0)))))])
  (.seq
  (.seq
  (.region 0 [
    (none, .v 3 (.fadr T90 4 (.t 1))),
    (none, .load 4 (.sl (.int .u8)) (.t 3)),
    (none, .v 5 (.len false (.t 4))),
    (none, .v 6 (.cmp .gt (.t 5) (.k (.int .i64 (1502)))))])
  (.cond (.t 6)
    (.seq
    (.region 0 [
      (none, .v 2 (.move (.k (.int .i64 (2)))))])
    .ret)
    .skip))
  (.seq
  (.seq
  (.region 0 [
    (none, .v 7 (.fadr T90 1 (.t 1))),
    (none, .load 8 T86 (.t 7)),
    (none, .callP (some 9) 92 [.t 8] 0 0 true),
    (none, .v 10 (.cmp .ne (.t 9) (.k (.int .i64 (1))))),
    (none, .v 11 (.move (.t 10))),
    (some (11, false), .v 12 (.fadr T90 0 (.t 1))),
    (some (11, false), .load 13 T86 (.t 12)),
    (some (11, false), .callP (some 14) 92 [.t 13] 0 0 true),
    (some (11, false), .v 15 (.cmp .eq (.t 14) (.k (.int .i64 (6))))),
    (none, .v 16 (.pick (.t 11) (.k (.bool true)) (.t 15))),
    (none, .v 17 (.move (.t 16))),
    (some (17, false), .v 18 (.fadr T90 4 (.t 1))),
    (some (17, false), .load 19 (.sl (.int .u8)) (.t 18)),
    (some (17, false), .v 20 (.len false (.t 19))),
    (some (17, false), .v 21 (.cmp .lt (.t 20) (.k (.int .i64 (2))))),
    (none, .v 22 (.pick (.t 17) (.k (.bool true)) (.t 21)))])
  (.cond (.t 22)
    (.seq
    (.region 0 [
      (none, .v 2 (.move (.k (.int .i64 (30)))))])
    .ret)
    .skip))
  (.seq
  (.seq
  (.region 0 [
    (none, .v 23 (.fadr T90 2 (.t 1))),
    (none, .load 24 .bool (.t 23)),
    (none, .v 25 (.move (.t 24))),
    (some (25, true), .v 26 (.fadr T90 3 (.t 1))),
    (some (25, true), .load 27 T88 (.t 26)),
    (some (25, true), .callP (some 28) 93 [.t 27] 0 0 true),
    (some (25, true), .v 29 (.cmp .ne (.t 28) (.k (.int .i64 (0))))),
    (none, .v 30 (.pick (.t 25) (.t 29) (.k (.bool false)))),
    (none, .v 31 (.move (.t 30))),
    (some (31, false), .v 32 (.fadr T90 2 (.t 1))),
    (some (31, false), .load 33 .bool (.t 32)),
    (some (31, false), .v 34 (.not (.t 33))),
    (some (31, false), .v 35 (.move (.t 34))),
    (some (35, true), .v 36 (.fadr T90 3 (.t 1))),
    (some (35, true), .load 37 T88 (.t 36)),
    (some (35, true), .v 38 (.build T88 [])),
    (some (35, true), .v 39 (.eqT T88 true (.t 37) (.t 38))),
    (some (35, true), .v 40 (.move (.t 39))),
    (some (40, false), .v 41 (.fadr T90 4 (.t 1))),
    (some (40, false), .load 42 (.sl (.int .u8)) (.t 41)),
    (some (40, false), .callP (some 43) 67 [.t 42] 0 0 true),
    (some (35, true), .v 44 (.pick (.t 40) (.k (.bool true)) (.t 43))),
    (some (31, false), .v 45 (.pick (.t 35) (.t 44) (.k (.bool false)))),
    (none, .v 46 (.pick (.t 31) (.k (.bool true)) (.t 45)))])
  (.cond (.t 46)
    (.seq
    (.region 0 [
      (none, .v 2 (.move (.k (.int .i64 (30)))))])
    .ret)
    .skip))
  (.seq
  (.region 0 [
    (none, .v 2 (.move (.k (.int .i64 (0)))))])
  .ret)))))
def nt_r03_Check : Nat := 47
def rs_r03_Check : List RV := [.tmp 2]
/-- pontage/ether.Same -/
abbrev f_ether_Same : FuncId := 70
def ac_ether_Same : AC :=
  (.seq
  (.region 0 [
    (none, .boxc 2 T90 (.t 0)),
    (none, .boxc 3 T90 (.t 1)),
    (none, .v 4 (.move (.k (.bool false))))])
  (.seq
  (.region 0 [
    (none, .v 5 (.fadr T90 0 (.t 2))),
    (none, .load 6 T86 (.t 5)),
    (none, .v 7 (.fadr T90 0 (.t 3))),
    (none, .load 8 T86 (.t 7)),
    (none, .v 9 (.eqT T86 false (.t 6) (.t 8))),
    (none, .v 10 (.move (.t 9))),
    (some (10, true), .v 11 (.fadr T90 1 (.t 2))),
    (some (10, true), .load 12 T86 (.t 11)),
    (some (10, true), .v 13 (.fadr T90 1 (.t 3))),
    (some (10, true), .load 14 T86 (.t 13)),
    (some (10, true), .v 15 (.eqT T86 false (.t 12) (.t 14))),
    (none, .v 16 (.pick (.t 10) (.t 15) (.k (.bool false)))),
    (none, .v 17 (.move (.t 16))),
    (some (17, true), .v 18 (.fadr T90 2 (.t 2))),
    (some (17, true), .load 19 .bool (.t 18)),
    (some (17, true), .v 20 (.fadr T90 2 (.t 3))),
    (some (17, true), .load 21 .bool (.t 20)),
    (some (17, true), .v 22 (.eqT .bool false (.t 19) (.t 21))),
    (none, .v 23 (.pick (.t 17) (.t 22) (.k (.bool false)))),
    (none, .v 24 (.move (.t 23))),
    (some (24, true), .v 25 (.fadr T90 3 (.t 2))),
    (some (24, true), .load 26 T88 (.t 25)),
    (some (24, true), .v 27 (.fadr T90 3 (.t 3))),
    (some (24, true), .load 28 T88 (.t 27)),
    (some (24, true), .v 29 (.eqT T88 false (.t 26) (.t 28))),
    (none, .v 30 (.pick (.t 24) (.t 29) (.k (.bool false)))),
    (none, .v 31 (.move (.t 30))),
    (some (31, true), .v 32 (.fadr T90 4 (.t 2))),
    (some (31, true), .load 33 (.sl (.int .u8)) (.t 32)),
    (some (31, true), .v 34 (.fadr T90 4 (.t 3))),
    (some (31, true), .load 35 (.sl (.int .u8)) (.t 34)),
    (some (31, true), .callP (some 36) 46 [.t 33, .t 35] 0 0 true),
    (none, .v 37 (.pick (.t 31) (.t 36) (.k (.bool false)))),
    (none, .v 4 (.move (.t 37)))])
  .ret))
def nt_ether_Same : Nat := 38
def rs_ether_Same : List RV := [.tmp 4]
/-- pontage/pontageref02.Put -/
abbrev f_r02_Put : FuncId := 72
def ac_r02_Put : AC :=
  (.seq
  (.region 0 [
    (none, .boxc 1 T88 (.t 0)),
    (none, .v 2 (.move (.k (.sl (.int .u8) [] .full)))),
    (none, .v 3 (.move (.k (.int .i64 (0)))))])
  (.seq
  (.seq
  (.region 0 [
    (none, .load 4 T88 (.t 1)),
    (none, .callP (some 5) 91 [.t 4] 0 0 true),
    (none, .v 6 (.not (.t 5)))])
  (.cond (.t 6)
    (.seq
    (.region 0 [
      (none, .v 2 (.move (.k (.sl (.int .u8) [] .full)))),
      (none, .v 3 (.move (.k (.int .i64 (20)))))])
    .ret)
    .skip))
  (.seq
  (.region 1 [
    (none, .load 7 T88 (.t 1)),
    (none, .callP (some 8) 94 [.t 7] 0 1 true),
    (none, .v 2 (.move (.t 8))),
    (none, .v 3 (.move (.k (.int .i64 (0)))))])
  .ret)))
def nt_r02_Put : Nat := 9
def rs_r02_Put : List RV := [.tmp 2, .tmp 3]
/-- pontage/tag.TakeType -/
abbrev f_tag_TakeType : FuncId := 86
def ac_tag_TakeType : AC :=
  (.seq
  (.region 0 [
    (none, .v 2 (.move (.k (.int .i64 (0))))),
    (none, .v 3 (.move (.k (.sl (.int .u8) [] .full)))),
    (none, .v 4 (.move (.k (.int .i64 (0)))))])
  (.seq
  (.seq
  (.region 0 [
    (none, .v 5 (.move (.t 0))),
    (none, .v 6 (.len false (.t 5))),
    (none, .v 7 (.cmp .lt (.t 6) (.k (.int .i64 (2)))))])
  (.cond (.t 7)
    (.seq
    (.region 0 [
      (none, .v 2 (.move (.k (.int .i64 (0))))),
      (none, .v 3 (.move (.k (.sl (.int .u8) [] .full)))),
      (none, .v 4 (.move (.k (.int .i64 (6)))))])
    .ret)
    .skip))
  (.seq
  (.draw 1 [[], [], [], [], [], [], [2]] [
    (none, .v 8 (.move (.t 0))),
    (none, .v 9 (.slice (.int .u8) (.t 8) none (some (.k (.int .i64 (2)))) none)),
    (none, .callP (some 10) 88 [.t 9] 0 0 false),
    (none, .v 11 (.conv .i64 (.t 10))),
    (none, .v 12 (.move (.t 0))),
    (none, .v 13 (.slice (.int .u8) (.t 12) (some (.k (.int .i64 (2)))) none none)),
    (none, .callP (some 14) 65 [.t 13] 0 1 false)] [
    (none, .v 2 (.move (.t 11))),
    (none, .v 3 (.move (.t 14))),
    (none, .v 4 (.move (.k (.int .i64 (0)))))])
  .ret)))
def nt_tag_TakeType : Nat := 15
def rs_tag_TakeType : List RV := [.tmp 2, .tmp 3, .tmp 4]
/-- pontage/tag.cutter -/
abbrev f_tag_cutter : FuncId := 87
def ac_tag_cutter : AC :=
  (.seq
  (.region 1 [
    (none, .box 1 0 (.int .u32) (.t 0)),
    (none, .v 2 (.move (.k .nilfn)))])
  (.seq
  (.region 0 [
    (none, .v 3 (.mkfn 101 [.t 1])),
    (none, .v 2 (.move (.t 3)))])
  .ret))
def nt_tag_cutter : Nat := 4
def rs_tag_cutter : List RV := [.tmp 2]
/-- pontage/tag.number -/
abbrev f_tag_number : FuncId := 88
def ac_tag_number : AC :=
  (.seq
  (.region 0 [
    (none, .v 2 (.move (.k (.int .u32 (0)))))])
  (.seq
  (.region 0 [
    (none, .v 3 (.move (.k (.int .u32 (0)))))])
  (.seq
  (.seq
  (.region 0 [
    (none, .v 6 (.move (.t 0))),
    (none, .v 7 (.len false (.t 6))),
    (none, .v 8 (.move (.k (.int .i64 (0)))))])
  (.block 0
    (.loop [3, 6, 7, 8]
      (.seq
      (.region 0 [
        (none, .v 9 (.cmp .lt (.t 8) (.t 7)))])
      (.seq
      (.cond (.t 9)
        .skip
        (.exit 0))
      (.seq
      (.block 1
        (.seq
        (.region 0 [
          (none, .v 10 (.iadr none (.int .u8) (.t 6) (.t 8))),
          (none, .load 11 (.int .u8) (.t 10)),
          (none, .v 5 (.move (.t 11)))])
        (.region 0 [
          (none, .v 12 (.move (.t 3))),
          (none, .v 13 (.shl (.t 12) (.k (.int .u64 (8))))),
          (none, .v 14 (.move (.t 5))),
          (none, .v 15 (.conv .u32 (.t 14))),
          (none, .v 16 (.bit .or (.t 13) (.t 15))),
          (none, .v 3 (.move (.t 16)))])))
      (.region 0 [
        (none, .v 17 (.add (.t 8) (.k (.int .i64 (1))))),
        (none, .v 8 (.move (.t 17)))])))))))
  (.seq
  (.region 0 [
    (none, .v 18 (.move (.t 3))),
    (none, .v 2 (.move (.t 18)))])
  .ret))))
def nt_tag_number : Nat := 19
def rs_tag_number : List RV := [.tmp 2]
/-- pontage/tag.Check -/
abbrev f_tag_Check : FuncId := 89
def ac_tag_Check : AC :=
  (.seq
  (.region 0 [
    (none, .boxc 1 T88 (.t 0)),
    (none, .v 2 (.move (.k (.int .i64 (0)))))])
  (.seq
  (.seq
  (.region 0 [
    (none, .v 3 (.fadr T88 0 (.t 1))),
    (none, .load 4 (.int .i64) (.t 3)),
    (none, .callP (some 5) 102 [.t 4, .k (.int .i64 (0)), .k (.int .i64 (7))] 0 0 true),
    (none, .v 6 (.not (.t 5))),
    (none, .v 7 (.move (.t 6))),
    (some (7, false), .v 8 (.fadr T88 2 (.t 1))),
    (some (7, false), .load 9 (.int .i64) (.t 8)),
    (some (7, false), .callP (some 10) 102 [.t 9, .k (.int .i64 (1)), .k (.int .i64 (4094))] 0 0 true),
    (some (7, false), .v 11 (.not (.t 10))),
    (none, .v 12 (.pick (.t 7) (.k (.bool true)) (.t 11)))])
  (.cond (.t 12)
    (.seq
    (.region 0 [
      (none, .v 2 (.move (.k (.int .i64 (20)))))])
    .ret)
    .skip))
  (.seq
  (.region 0 [
    (none, .v 2 (.move (.k (.int .i64 (0)))))])
  .ret)))
def nt_tag_Check : Nat := 13
def rs_tag_Check : List RV := [.tmp 2]
/-- pontage/mac.Kind -/
abbrev f_mac_Kind : FuncId := 90
def ac_mac_Kind : AC :=
  (.seq
  (.region 0 [
    (none, .boxc 1 T86 (.t 0)),
    (none, .v 2 (.move (.k (.int .i64 (0)))))])
  (.block 0
    (.seq
    (.region 0 [
      (none, .load 4 T86 (.t 1)),
      (none, .v 5 (.build T86 [])),
      (none, .v 6 (.eqT T86 false (.t 4) (.t 5))),
      (none, .v 3 (.move (.t 6)))])
    (.cond (.t 3)
      (.seq
      (.region 0 [
        (none, .v 2 (.move (.k (.int .i64 (6)))))])
      .ret)
      (.seq
      (.region 0 [
        (none, .load 8 T86 (.t 1)),
        (none, .v 9 (.build T86 [(0, .k (.int .u8 (255))), (1, .k (.int .u8 (255))), (2, .k (.int .u8 (255))), (3, .k (.int .u8 (255))), (4, .k (.int .u8 (255))), (5, .k (.int .u8 (255)))])),
        (none, .v 10 (.eqT T86 false (.t 8) (.t 9))),
        (none, .v 7 (.move (.t 10)))])
      (.cond (.t 7)
        (.seq
        (.region 0 [
          (none, .v 2 (.move (.k (.int .i64 (3)))))])
        .ret)
        (.seq
        (.region 0 [
          (none, .v 12 (.sliceA 6 (.int .u8) (.t 1) none (some (.k (.int .i64 (5)))))),
          (none, .v 13 (.sarr 5 (.int .u8) (.t 12))),
          (none, .load 14 T177 (.t 13)),
          (none, .v 15 (.build T177 [(0, .k (.int .u8 (1))), (1, .k (.int .u8 (128))), (2, .k (.int .u8 (194))), (3, .k (.int .u8 (0))), (4, .k (.int .u8 (0)))])),
          (none, .v 16 (.eqT T177 false (.t 14) (.t 15))),
          (none, .v 17 (.move (.t 16))),
          (some (17, true), .v 18 (.iadr (some 6) (.int .u8) (.t 1) (.k (.int .i64 (5))))),
          (some (17, true), .load 19 (.int .u8) (.t 18)),
          (some (17, true), .v 20 (.cmp .lt (.t 19) (.k (.int .u8 (16))))),
          (none, .v 21 (.pick (.t 17) (.t 20) (.k (.bool false)))),
          (none, .v 11 (.move (.t 21)))])
        (.cond (.t 11)
          (.seq
          (.region 0 [
            (none, .v 2 (.move (.k (.int .i64 (4)))))])
          .ret)
          (.seq
          (.region 0 [
            (none, .v 23 (.sliceA 6 (.int .u8) (.t 1) none (some (.k (.int .i64 (3)))))),
            (none, .v 24 (.sarr 3 (.int .u8) (.t 23))),
            (none, .load 25 T178 (.t 24)),
            (none, .v 26 (.build T178 [(0, .k (.int .u8 (1))), (1, .k (.int .u8 (30))), (2, .k (.int .u8 (131)))])),
            (none, .v 27 (.eqT T178 false (.t 25) (.t 26))),
            (none, .v 22 (.move (.t 27)))])
          (.cond (.t 22)
            (.seq
            (.region 0 [
              (none, .v 2 (.move (.k (.int .i64 (5)))))])
            .ret)
            (.seq
            (.region 0 [
              (none, .load 29 T86 (.t 1)),
              (none, .callP (some 30) 103 [.t 29] 0 0 true),
              (none, .v 28 (.move (.t 30)))])
            (.cond (.t 28)
              (.seq
              (.region 0 [
                (none, .v 2 (.move (.k (.int .i64 (2)))))])
              .ret)
              (.seq
              (.region 0 [
                (none, .v 2 (.move (.k (.int .i64 (1)))))])
              .ret)))))))))))))
def nt_mac_Kind : Nat := 31
def rs_mac_Kind : List RV := [.tmp 2]
/-- pontage/pontageref02.Is -/
abbrev f_r02_Is : FuncId := 91
def ac_r02_Is : AC :=
  (.seq
  (.region 0 [
    (none, .boxc 1 T88 (.t 0)),
    (none, .v 2 (.move (.k (.bool false))))])
  (.seq
  (.region 0 [
    (none, .v 3 (.fadr T88 0 (.t 1))),
    (none, .load 4 (.int .i64) (.t 3)),
    (none, .v 5 (.cmp .ge (.t 4) (.k (.int .i64 (0))))),
    (none, .v 6 (.move (.t 5))),
    (some (6, true), .v 7 (.fadr T88 0 (.t 1))),
    (some (6, true), .load 8 (.int .i64) (.t 7)),
    (some (6, true), .v 9 (.cmp .le (.t 8) (.k (.int .i64 (7))))),
    (none, .v 10 (.pick (.t 6) (.t 9) (.k (.bool false)))),
    (none, .v 11 (.move (.t 10))),
    (some (11, true), .v 12 (.fadr T88 2 (.t 1))),
    (some (11, true), .load 13 (.int .i64) (.t 12)),
    (some (11, true), .v 14 (.cmp .ge (.t 13) (.k (.int .i64 (1))))),
    (none, .v 15 (.pick (.t 11) (.t 14) (.k (.bool false)))),
    (none, .v 16 (.move (.t 15))),
    (some (16, true), .v 17 (.fadr T88 2 (.t 1))),
    (some (16, true), .load 18 (.int .i64) (.t 17)),
    (some (16, true), .v 19 (.cmp .le (.t 18) (.k (.int .i64 (4094))))),
    (none, .v 20 (.pick (.t 16) (.t 19) (.k (.bool false)))),
    (none, .v 2 (.move (.t 20)))])
  .ret))
def nt_r02_Is : Nat := 21
def rs_r02_Is : List RV := [.tmp 2]
/-- pontage/pontageref01.Kind -/
abbrev f_r01_Kind : FuncId := 92
def ac_r01_Kind : AC :=
  (.seq
  (.region 0 [
    (none, .boxc 1 T86 (.t 0)),
    (none, .v 2 (.move (.k (.int .i64 (0)))))])
  (.seq
  (.block 0
    (.seq
    (.region 0 [
      (none, .load 4 T86 (.t 1)),
      (none, .callP (some 5) 104 [.t 4, .k (.int .u8 (0))] 0 0 true),
      (none, .v 3 (.move (.t 5)))])
    (.cond (.t 3)
      (.seq
      (.region 0 [
        (none, .v 2 (.move (.k (.int .i64 (6)))))])
      .ret)
      (.seq
      (.region 0 [
        (none, .load 7 T86 (.t 1)),
        (none, .callP (some 8) 104 [.t 7, .k (.int .u8 (255))] 0 0 true),
        (none, .v 6 (.move (.t 8)))])
      (.cond (.t 6)
        (.seq
        (.region 0 [
          (none, .v 2 (.move (.k (.int .i64 (3)))))])
        .ret)
        (.seq
        (.region 0 [
          (none, .v 10 (.iadr (some 6) (.int .u8) (.t 1) (.k (.int .i64 (0))))),
          (none, .load 11 (.int .u8) (.t 10)),
          (none, .v 12 (.cmp .eq (.t 11) (.k (.int .u8 (1))))),
          (none, .v 13 (.move (.t 12))),
          (some (13, true), .v 14 (.iadr (some 6) (.int .u8) (.t 1) (.k (.int .i64 (1))))),
          (some (13, true), .load 15 (.int .u8) (.t 14)),
          (some (13, true), .v 16 (.cmp .eq (.t 15) (.k (.int .u8 (128))))),
          (none, .v 17 (.pick (.t 13) (.t 16) (.k (.bool false)))),
          (none, .v 18 (.move (.t 17))),
          (some (18, true), .v 19 (.iadr (some 6) (.int .u8) (.t 1) (.k (.int .i64 (2))))),
          (some (18, true), .load 20 (.int .u8) (.t 19)),
          (some (18, true), .v 21 (.cmp .eq (.t 20) (.k (.int .u8 (194))))),
          (none, .v 22 (.pick (.t 18) (.t 21) (.k (.bool false)))),
          (none, .v 23 (.move (.t 22))),
          (some (23, true), .v 24 (.iadr (some 6) (.int .u8) (.t 1) (.k (.int .i64 (3))))),
          (some (23, true), .load 25 (.int .u8) (.t 24)),
          (some (23, true), .v 26 (.cmp .eq (.t 25) (.k (.int .u8 (0))))),
          (none, .v 27 (.pick (.t 23) (.t 26) (.k (.bool false)))),
          (none, .v 28 (.move (.t 27))),
          (some (28, true), .v 29 (.iadr (some 6) (.int .u8) (.t 1) (.k (.int .i64 (4))))),
          (some (28, true), .load 30 (.int .u8) (.t 29)),
          (some (28, true), .v 31 (.cmp .eq (.t 30) (.k (.int .u8 (0))))),
          (none, .v 32 (.pick (.t 28) (.t 31) (.k (.bool false)))),
          (none, .v 33 (.move (.t 32))),
          (some (33, true), .v 34 (.iadr (some 6) (.int .u8) (.t 1) (.k (.int .i64 (5))))),
          (some (33, true), .load 35 (.int .u8) (.t 34)),
          (some (33, true), .v 36 (.cmp .lt (.t 35) (.k (.int .u8 (16))))),
          (none, .v 37 (.pick (.t 33) (.t 36) (.k (.bool false)))),
          (none, .v 9 (.move (.t 37)))])
        (.cond (.t 9)
          (.seq
          (.region 0 [
            (none, .v 2 (.move (.k (.int .i64 (4)))))])
          .ret)
          (.seq
          (.region 0 [
            (none, .v 39 (.iadr (some 6) (.int .u8) (.t 1) (.k (.int .i64 (0))))),
            (none, .load 40 (.int .u8) (.t 39)),
            (none, .v 41 (.cmp .eq (.t 40) (.k (.int .u8 (1))))),
            (none, .v 42 (.move (.t 41))),
            (some (42, true), .v 43 (.iadr (some 6) (.int .u8) (.t 1) (.k (.int .i64 (1))))),
            (some (42, true), .load 44 (.int .u8) (.t 43)),
            (some (42, true), .v 45 (.cmp .eq (.t 44) (.k (.int .u8 (30))))),
            (none, .v 46 (.pick (.t 42) (.t 45) (.k (.bool false)))),
            (none, .v 47 (.move (.t 46))),
            (some (47, true), .v 48 (.iadr (some 6) (.int .u8) (.t 1) (.k (.int .i64 (2))))),
            (some (47, true), .load 49 (.int .u8) (.t 48)),
            (some (47, true), .v 50 (.cmp .eq (.t 49) (.k (.int .u8 (131))))),
            (none, .v 51 (.pick (.t 47) (.t 50) (.k (.bool false)))),
            (none, .v 38 (.move (.t 51)))])
          (.cond (.t 38)
            (.seq
            (.region 0 [
              (none, .v 2 (.move (.k (.int .i64 (5)))))])
            .ret)
            (.seq
            (.region 0 [
              (none, .v 53 (.iadr (some 6) (.int .u8) (.t 1) (.k (.int .i64 (0))))),
              (none, .load 54 (.int .u8) (.t 53)),
              (none, .v 55 (.rem (.t 54) (.k (.int .u8 (2))))),
              (none, .v 56 (.cmp .eq (.t 55) (.k (.int .u8 (1))))),
              (none, .v 52 (.move (.t 56)))])
            (.cond (.t 52)
              (.seq
              (.region 0 [
                (none, .v 2 (.move (.k (.int .i64 (2)))))])
              .ret)
              .skip)))))))))))
  (.seq
  (.region 0 [
    (none, .v 2 (.move (.k (.int .i64 (1)))))])
  .ret)))
def nt_r01_Kind : Nat := 57
def rs_r01_Kind : List RV := [.tmp 2]
/-- pontage/pontageref02.Check -/
abbrev f_r02_Check : FuncId := 93
def ac_r02_Check : AC :=
  (.seq
  (.region 0 [
    (none, .boxc 1 T88 (.t 0)),
    (none, .v 2 (.move (.k (.int .i64 (0)))))])
  (.seq
  (.seq
  (.region 0 [
    (none, .load 3 T88 (.t 1)),
    (none, .callP (some 4) 91 [.t 3] 0 0 true)])
  (.cond (.t 4)
    (.seq
    (.region 0 [
      (none, .v 2 (.move (.k (.int .i64 (0)))))])
    .ret)
    .skip))
  (.seq
  (.region 0 [
    (none, .v 2 (.move (.k (.int .i64 (20)))))])
  .ret)))
def nt_r02_Check : Nat := 5
def rs_r02_Check : List RV := [.tmp 2]
/-- pontage/pontageref02.Bytes -/
abbrev f_r02_Bytes : FuncId := 94
def ac_r02_Bytes : AC :=
  (.seq
  (.region 0 [
    (none, .boxc 1 T88 (.t 0)),
    (none, .v 2 (.move (.k (.sl (.int .u8) [] .full))))])
  (.seq
  (.draw 0 [[], [], [], [], [], [4], [], [], []] [
    (none, .v 4 (.fadr T88 0 (.t 1))),
    (none, .load 5 (.int .i64) (.t 4)),
    (none, .v 6 (.mul (.t 5) (.k (.int .i64 (8192))))),
    (none, .v 7 (.fadr T88 1 (.t 1))),
    (none, .load 8 .bool (.t 7)),
    (none, .callP (some 9) 105 [.t 8, .k (.int .i64 (4096))] 0 0 false),
    (none, .v 10 (.add (.t 6) (.t 9))),
    (none, .v 11 (.fadr T88 2 (.t 1))),
    (none, .load 12 (.int .i64) (.t 11))] [
    (none, .v 13 (.add (.t 10) (.t 12))),
    (none, .v 3 (.move (.t 13)))])
  (.seq
  (.region 1 [
    (none, .v 14 (.move (.t 3))),
    (none, .v 15 (.quo (.t 14) (.k (.int .i64 (256))))),
    (none, .v 16 (.conv .u8 (.t 15))),
    (none, .v 17 (.move (.t 3))),
    (none, .v 18 (.rem (.t 17) (.k (.int .i64 (256))))),
    (none, .v 19 (.conv .u8 (.t 18))),
    (none, .lit 20 0 (.int .u8) 2 [(0, .t 16), (1, .t 19)] false),
    (none, .v 2 (.move (.t 20)))])
  .ret)))
def nt_r02_Bytes : Nat := 21
def rs_r02_Bytes : List RV := [.tmp 2]
/-- pontage/tag.cutter$1 -/
abbrev f_tag_cutter_1 : FuncId := 101
def ac_tag_cutter_1 : AC :=
  (.seq
  (.region 0 [
    (none, .v 3 (.move (.k (.int .i64 (0)))))])
  (.seq
  (.region 0 [
    (none, .load 5 (.int .u32) (.t 1)),
    (none, .v 6 (.move (.t 0))),
    (none, .v 7 (.shl (.k (.int .u32 (1))) (.t 6))),
    (none, .v 8 (.sub (.t 7) (.k (.int .u32 (1))))),
    (none, .v 9 (.bit .and (.t 5) (.t 8))),
    (none, .v 4 (.move (.t 9)))])
  (.seq
  (.region 0 [
    (none, .load 10 (.int .u32) (.t 1)),
    (none, .v 11 (.move (.t 0))),
    (none, .v 12 (.shr (.t 10) (.t 11))),
    (none, .store (.int .u32) (.t 1) (.t 12))])
  (.seq
  (.region 0 [
    (none, .v 13 (.move (.t 4))),
    (none, .v 14 (.conv .i64 (.t 13))),
    (none, .v 3 (.move (.t 14)))])
  .ret))))
def nt_tag_cutter_1 : Nat := 15
def rs_tag_cutter_1 : List RV := [.tmp 3]
/-- pontage/tag.within -/
abbrev f_tag_within : FuncId := 102
def ac_tag_within : AC :=
  (.seq
  (.region 0 [
    (none, .v 6 (.move (.k (.bool false))))])
  (.seq
  (.region 0 [
    (none, .v 7 (.move (.t 0))),
    (none, .v 8 (.move (.t 1))),
    (none, .v 9 (.cmp .ge (.t 7) (.t 8))),
    (none, .v 10 (.move (.t 9))),
    (some (10, true), .v 11 (.move (.t 0))),
    (some (10, true), .v 12 (.move (.t 2))),
    (some (10, true), .v 13 (.cmp .le (.t 11) (.t 12))),
    (none, .v 14 (.pick (.t 10) (.t 13) (.k (.bool false)))),
    (none, .v 6 (.move (.t 14)))])
  .ret))
def nt_tag_within : Nat := 15
def rs_tag_within : List RV := [.tmp 6]
/-- pontage/mac.Many -/
abbrev f_mac_Many : FuncId := 103
def ac_mac_Many : AC :=
  (.seq
  (.region 0 [
    (none, .boxc 1 T86 (.t 0)),
    (none, .v 2 (.move (.k (.bool false))))])
  (.seq
  (.region 0 [
    (none, .v 3 (.iadr (some 6) (.int .u8) (.t 1) (.k (.int .i64 (0))))),
    (none, .load 4 (.int .u8) (.t 3)),
    (none, .v 5 (.bit .and (.t 4) (.k (.int .u8 (1))))),
    (none, .v 6 (.cmp .eq (.t 5) (.k (.int .u8 (1))))),
    (none, .v 2 (.move (.t 6)))])
  .ret))
def nt_mac_Many : Nat := 7
def rs_mac_Many : List RV := [.tmp 2]
/-- pontage/pontageref01.same -/
abbrev f_r01_same : FuncId := 104
def ac_r01_same : AC :=
  (.seq
  (.region 0 [
    (none, .boxc 2 T86 (.t 0)),
    (none, .v 4 (.move (.k (.bool false))))])
  (.seq
  (.seq
  (.region 0 [
    (none, .v 5 (.move (.k (.int .i64 (0)))))])
  (.block 0
    (.loop [1, 2, 5]
      (.seq
      (.seq
      (.region 0 [
        (none, .v 6 (.move (.t 5))),
        (none, .v 7 (.cmp .lt (.t 6) (.k (.int .i64 (6)))))])
      (.cond (.t 7)
        .skip
        (.exit 0)))
      (.seq
      (.block 1
        (.seq
        (.region 0 [
          (none, .v 10 (.move (.t 5))),
          (none, .v 11 (.iadr (some 6) (.int .u8) (.t 2) (.t 10))),
          (none, .load 12 (.int .u8) (.t 11)),
          (none, .v 13 (.move (.t 1))),
          (none, .v 14 (.cmp .ne (.t 12) (.t 13)))])
        (.cond (.t 14)
          (.seq
          (.region 0 [
            (none, .v 4 (.move (.k (.bool false))))])
          .ret)
          .skip)))
      (.region 0 [
        (none, .v 8 (.move (.t 5))),
        (none, .v 9 (.add (.t 8) (.k (.int .i64 (1))))),
        (none, .v 5 (.move (.t 9)))]))))))
  (.seq
  (.region 0 [
    (none, .v 4 (.move (.k (.bool true))))])
  .ret)))
def nt_r01_same : Nat := 15
def rs_r01_same : List RV := [.tmp 4]
/-- pontage/pontageref02.bit -/
abbrev f_r02_bit : FuncId := 105
def ac_r02_bit : AC :=
  (.seq
  (.region 0 [
    (none, .v 4 (.move (.k (.int .i64 (0)))))])
  (.seq
  (.seq
  (.region 0 [
    (none, .v 5 (.move (.t 0)))])
  (.cond (.t 5)
    (.seq
    (.region 0 [
      (none, .v 6 (.move (.t 1))),
      (none, .v 4 (.move (.t 6)))])
    .ret)
    .skip))
  (.seq
  (.region 0 [
    (none, .v 4 (.move (.k (.int .i64 (0)))))])
  .ret)))
def nt_r02_bit : Nat := 7
def rs_r02_bit : List RV := [.tmp 4]
theorem mixed : prog.follows .mixedOrders = true := by kernel_rfl
theorem ok_l32_AuditOne : funOK prog f_l32_AuditOne nt_l32_AuditOne rs_l32_AuditOne ac_l32_AuditOne = true := by kernel_rfl
theorem ok_audit_Service : funOK prog f_audit_Service nt_audit_Service rs_audit_Service ac_audit_Service = true := by kernel_rfl
theorem ok_audit_Reached : funOK prog f_audit_Reached nt_audit_Reached rs_audit_Reached ac_audit_Reached = true := by kernel_rfl
theorem ok_audit_Explains : funOK prog f_audit_Explains nt_audit_Explains rs_audit_Explains ac_audit_Explains = true := by kernel_rfl
theorem ok_audit_Apart : funOK prog f_audit_Apart nt_audit_Apart rs_audit_Apart ac_audit_Apart = true := by kernel_rfl
theorem ok_audit_Often : funOK prog f_audit_Often nt_audit_Often rs_audit_Often ac_audit_Often = true := by kernel_rfl
theorem ok_l32_awake : funOK prog f_l32_awake nt_l32_awake rs_l32_awake ac_l32_awake = true := by kernel_rfl
theorem ok_l32_sites : funOK prog f_l32_sites nt_l32_sites rs_l32_sites ac_l32_sites = true := by kernel_rfl
theorem ok_l32_frame : funOK prog f_l32_frame nt_l32_frame rs_l32_frame ac_l32_frame = true := by kernel_rfl
theorem ok_audit_Count : funOK prog f_audit_Count nt_audit_Count rs_audit_Count ac_audit_Count = true := by kernel_rfl
theorem ok_ether_Decode : funOK prog f_ether_Decode nt_ether_Decode rs_ether_Decode ac_ether_Decode = true := by kernel_rfl
theorem ok_slices_ContainsFunc_api_Seen_api_Seen : funOK prog f_slices_ContainsFunc_api_Seen_api_Seen nt_slices_ContainsFunc_api_Seen_api_Seen rs_slices_ContainsFunc_api_Seen_api_Seen ac_slices_ContainsFunc_api_Seen_api_Seen = true := by kernel_rfl
theorem ok_audit_Reached_1 : funOK prog f_audit_Reached_1 nt_audit_Reached_1 rs_audit_Reached_1 ac_audit_Reached_1 = true := by kernel_rfl
theorem ok_audit_alike : funOK prog f_audit_alike nt_audit_alike rs_audit_alike ac_audit_alike = true := by kernel_rfl
theorem ok_slices_IndexFunc_api_Seen_api_Seen : funOK prog f_slices_IndexFunc_api_Seen_api_Seen nt_slices_IndexFunc_api_Seen_api_Seen rs_slices_IndexFunc_api_Seen_api_Seen ac_slices_IndexFunc_api_Seen_api_Seen = true := by kernel_rfl
theorem ok_audit_Apart_1 : funOK prog f_audit_Apart_1 nt_audit_Apart_1 rs_audit_Apart_1 ac_audit_Apart_1 = true := by kernel_rfl
theorem ok_audit_explained : funOK prog f_audit_explained nt_audit_explained rs_audit_explained ac_audit_explained = true := by kernel_rfl
theorem ok_audit_Often_1 : funOK prog f_audit_Often_1 nt_audit_Often_1 rs_audit_Often_1 ac_audit_Often_1 = true := by kernel_rfl
theorem ok_slices_Equal_u8 : funOK prog f_slices_Equal_u8 nt_slices_Equal_u8 rs_slices_Equal_u8 ac_slices_Equal_u8 = true := by kernel_rfl
theorem ok_r03_Encode : funOK prog f_r03_Encode nt_r03_Encode rs_r03_Encode ac_r03_Encode = true := by kernel_rfl
theorem ok_audit_rise : funOK prog f_audit_rise nt_audit_rise rs_audit_rise ac_audit_rise = true := by kernel_rfl
theorem ok_ether_marked : funOK prog f_ether_marked nt_ether_marked rs_ether_marked ac_ether_marked = true := by kernel_rfl
theorem ok_tag_Take : funOK prog f_tag_Take nt_tag_Take rs_tag_Take ac_tag_Take = true := by kernel_rfl
theorem ok_slices_Clone_u8 : funOK prog f_slices_Clone_u8 nt_slices_Clone_u8 rs_slices_Clone_u8 ac_slices_Clone_u8 = true := by kernel_rfl
theorem ok_ether_Check : funOK prog f_ether_Check nt_ether_Check rs_ether_Check ac_ether_Check = true := by kernel_rfl
theorem ok_r03_tagged : funOK prog f_r03_tagged nt_r03_tagged rs_r03_tagged ac_r03_tagged = true := by kernel_rfl
theorem ok_r03_Check : funOK prog f_r03_Check nt_r03_Check rs_r03_Check ac_r03_Check = true := by kernel_rfl
theorem ok_ether_Same : funOK prog f_ether_Same nt_ether_Same rs_ether_Same ac_ether_Same = true := by kernel_rfl
theorem ok_r02_Put : funOK prog f_r02_Put nt_r02_Put rs_r02_Put ac_r02_Put = true := by kernel_rfl
theorem ok_tag_TakeType : funOK prog f_tag_TakeType nt_tag_TakeType rs_tag_TakeType ac_tag_TakeType = true := by kernel_rfl
theorem ok_tag_cutter : funOK prog f_tag_cutter nt_tag_cutter rs_tag_cutter ac_tag_cutter = true := by kernel_rfl
theorem ok_tag_number : funOK prog f_tag_number nt_tag_number rs_tag_number ac_tag_number = true := by kernel_rfl
theorem ok_tag_Check : funOK prog f_tag_Check nt_tag_Check rs_tag_Check ac_tag_Check = true := by kernel_rfl
theorem ok_mac_Kind : funOK prog f_mac_Kind nt_mac_Kind rs_mac_Kind ac_mac_Kind = true := by kernel_rfl
theorem ok_r02_Is : funOK prog f_r02_Is nt_r02_Is rs_r02_Is ac_r02_Is = true := by kernel_rfl
theorem ok_r01_Kind : funOK prog f_r01_Kind nt_r01_Kind rs_r01_Kind ac_r01_Kind = true := by kernel_rfl
theorem ok_r02_Check : funOK prog f_r02_Check nt_r02_Check rs_r02_Check ac_r02_Check = true := by kernel_rfl
theorem ok_r02_Bytes : funOK prog f_r02_Bytes nt_r02_Bytes rs_r02_Bytes ac_r02_Bytes = true := by kernel_rfl
theorem ok_tag_cutter_1 : funOK prog f_tag_cutter_1 nt_tag_cutter_1 rs_tag_cutter_1 ac_tag_cutter_1 = true := by kernel_rfl
theorem ok_tag_within : funOK prog f_tag_within nt_tag_within rs_tag_within ac_tag_within = true := by kernel_rfl
theorem ok_mac_Many : funOK prog f_mac_Many nt_mac_Many rs_mac_Many ac_mac_Many = true := by kernel_rfl
theorem ok_r01_same : funOK prog f_r01_same nt_r01_same rs_r01_same ac_r01_same = true := by kernel_rfl
theorem ok_r02_bit : funOK prog f_r02_bit nt_r02_bit rs_r02_bit ac_r02_bit = true := by kernel_rfl
def orc : Orc where
  p := fun f args => match f with
    | 3 => pLFrames args
    | 4 => pLRight args
    | 5 => pLCounts args
    | 6 => pLOne args
    | 9 => pFewSites args
    | 10 => pFewRows args
    | 11 => pFewRows args
    | 12 => pService args
    | 13 => pService args
    | 14 => pSameSites args
    | 15 => pReached args
    | 16 => pReached args
    | 17 => pExplains args
    | 18 => pExplains args
    | 19 => pApart args
    | 20 => pApart args
    | 21 => pOften args
    | 22 => pOften args
    | 23 => pYes32 args
    | 24 => pSites args
    | 25 => pFrame32 args
    | 26 => pCount32 args
    | 27 => pCount32 args
    | 34 => pCut32 args
    | 35 => pFrDec2 args
    | 36 => pFrDec2 args
    | 39 => pAlike args
    | 40 => pAlike args
    | 43 => pExplained args
    | 44 => pExplained args
    | 46 => pEqual8 args
    | 47 => pFrEnc args
    | 48 => pRise32 args
    | 63 => pMarked args
    | 64 => pTake args
    | 65 => pClone8 args
    | 66 => pFrCheck args
    | 67 => pMarked args
    | 68 => pTake args
    | 69 => pFrCheck args
    | 70 => pFrSame args
    | 71 => pFrSame args
    | 72 => pTagPut args
    | 86 => pTakeType args
    | 87 => pCutter args
    | 88 => pNumber args
    | 89 => pTagCheck args
    | 90 => pKind args
    | 91 => pTagIs args
    | 92 => pKind args
    | 93 => pTagCheck args
    | 94 => pTagBytes args
    | 102 => pWithin args
    | 103 => pMany args
    | 104 => pSame1 args
    | 105 => pRBit args
    | _ => .bad
  s := fun f args h => match f with
    | 37 => sHasSeen args h
    | 38 => sReached1 args h
    | 41 => sIdxSeen args h
    | 42 => sApart1 args h
    | 45 => sOften1 args h
    | 101 => sCutter args h
    | _ => .bad
  fu := fun f => match f with
    | _ => false
end Go.Vc.Seat
