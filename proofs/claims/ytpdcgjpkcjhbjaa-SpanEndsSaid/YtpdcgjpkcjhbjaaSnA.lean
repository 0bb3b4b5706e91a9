/- The seat's code in abstract form, held against the program; what is known of its functions. -/
import Derived.Test.YtpdcgjpkcjhbjaaProg
import Derived.KernelRfl
import Derived.Test.YtpdcgjpkcjhbjaaSpTag
import Derived.Test.YtpdcgjpkcjhbjaaEpSpTag2
import Derived.Test.YtpdcgjpkcjhbjaaSpEth
import Derived.Test.YtpdcgjpkcjhbjaaSpSpan
import Derived.Test.YtpdcgjpkcjhbjaaSpSpan2
import Derived.Test.YtpdcgjpkcjhbjaaSpSpan3
set_option linter.unusedVariables false
set_option maxRecDepth 100000
namespace Go.Vc.Seat
open Go.Vc Go.Proofs.Try
abbrev T49 : Ty := .st [.int .i64, .int .i64, .int .i64, .int .i64, .int .u32, .int .u32]
abbrev T55 : Ty := .st [.int .u64, .int .u32, .int .u64, .int .u16]
abbrev T57 : Ty := .st [.int .i64, .int .i64, .int .i64, .st [.int .u64, .int .u32, .int .u64, .int .u16]]
abbrev T59 : Ty := .st [.int .u64, .int .u32, .int .i64]
abbrev T63 : Ty := .st [.int .i64, .int .i64, .int .u32, .int .i64, .int .i64]
abbrev T70 : Ty := .st [.int .i64, .int .i64]
abbrev T72 : Ty := .st [.st [.int .i64, .int .i64], .int .u32, .st [.int .i64, .int .i64]]
abbrev T74 : Ty := .arr 2 (.st [.st [.int .i64, .int .i64], .int .u32, .st [.int .i64, .int .i64]])
abbrev T83 : Ty := .arr 6 (.int .u8)
abbrev T92 : Ty := .arr 2 (.int .u64)
abbrev T93 : Ty := .arr 4 (.arr 2 (.int .u64))
/-- pontage/pontagelaw16.SpanEnds -/
abbrev f_l16_SpanEnds : FuncId := 4
def ac_l16_SpanEnds : AC :=
  (.seq
  (.region 0 [
    (none, .v 4 (.move (.k (.bool false))))])
  (.seq
  (.region 0 [
    (none, .v 13 (.move (.t 0))),
    (none, .callP (some 14) 10 [.t 13] 0 0 true),
    (none, .v 0 (.move (.t 14)))])
  (.seq
  (.region 0 [
    (none, .v 15 (.move (.t 1))),
    (none, .callP (some 16) 11 [.t 15] 0 0 true),
    (none, .v 1 (.move (.t 16)))])
  (.seq
  (.region 1 [
    (none, .v 18 (.move (.t 0))),
    (none, .v 19 (.move (.t 1))),
    (none, .callP (some 20) 18 [.t 18, .t 19] 0 1 true),
    (none, .v 17 (.move (.t 20))),
    (none, .v 21 (.ext (.t 17) 0)),
    (none, .v 22 (.ext (.t 17) 1)),
    (none, .v 5 (.move (.t 21))),
    (none, .v 6 (.move (.t 22)))])
  (.seq
  (.region 1 [
    (none, .v 24 (.move (.t 0))),
    (none, .v 25 (.move (.t 1))),
    (none, .callP (some 26) 19 [.t 24, .t 25] 0 1 true),
    (none, .v 23 (.move (.t 26))),
    (none, .v 27 (.ext (.t 23) 0)),
    (none, .v 28 (.ext (.t 23) 1)),
    (none, .v 7 (.move (.t 27))),
    (none, .v 8 (.move (.t 28)))])
  (.seq
  (.region 1 [
    (none, .v 30 (.move (.t 0))),
    (none, .v 31 (.move (.t 1))),
    (none, .callP (some 32) 20 [.t 30, .t 31] 0 1 true),
    (none, .v 29 (.move (.t 32))),
    (none, .v 33 (.ext (.t 29) 0)),
    (none, .v 34 (.ext (.t 29) 1)),
    (none, .v 9 (.move (.t 33))),
    (none, .v 10 (.move (.t 34)))])
  (.seq
  (.region 1 [
    (none, .v 36 (.move (.t 0))),
    (none, .v 37 (.move (.t 1))),
    (none, .callP (some 38) 21 [.t 36, .t 37] 0 1 true),
    (none, .v 35 (.move (.t 38))),
    (none, .v 39 (.ext (.t 35) 0)),
    (none, .v 40 (.ext (.t 35) 1)),
    (none, .v 11 (.move (.t 39))),
    (none, .v 12 (.move (.t 40)))])
  (.seq
  (.region 0 [
    (none, .v 41 (.move (.t 5))),
    (none, .v 42 (.move (.t 7))),
    (none, .callP (some 43) 22 [.t 41, .t 42] 0 0 true),
    (none, .v 44 (.move (.t 43))),
    (some (44, true), .v 45 (.move (.t 6))),
    (some (44, true), .v 46 (.move (.t 8))),
    (some (44, true), .v 47 (.cmp .eq (.t 45) (.t 46))),
    (none, .v 48 (.pick (.t 44) (.t 47) (.k (.bool false)))),
    (none, .v 49 (.move (.t 48))),
    (some (49, true), .v 50 (.move (.t 9))),
    (some (49, true), .v 51 (.move (.t 11))),
    (some (49, true), .callP (some 52) 23 [.t 50, .t 51] 0 0 true),
    (none, .v 53 (.pick (.t 49) (.t 52) (.k (.bool false)))),
    (none, .v 54 (.move (.t 53))),
    (some (54, true), .v 55 (.move (.t 10))),
    (some (54, true), .v 56 (.move (.t 12))),
    (some (54, true), .v 57 (.cmp .eq (.t 55) (.t 56))),
    (none, .v 58 (.pick (.t 54) (.t 57) (.k (.bool false)))),
    (none, .v 59 (.move (.t 58))),
    (some (59, true), .callP (some 60) 17 [] 0 0 true),
    (none, .v 61 (.pick (.t 59) (.t 60) (.k (.bool false)))),
    (none, .v 4 (.move (.t 61)))])
  .ret))))))))
def nt_l16_SpanEnds : Nat := 62
def rs_l16_SpanEnds : List RV := [.tmp 4]
/-- pontage/pontagelaw16.short -/
abbrev f_l16_short : FuncId := 10
def ac_l16_short : AC :=
  (.seq
  (.region 0 [
    (none, .v 2 (.move (.k (.sl (.int .u64) [] .full))))])
  (.seq
  (.seq
  (.region 0 [
    (none, .v 3 (.move (.t 0))),
    (none, .v 4 (.len false (.t 3))),
    (none, .v 5 (.cmp .gt (.t 4) (.k (.int .i64 (9)))))])
  (.cond (.t 5)
    (.seq
    (.region 0 [
      (none, .v 6 (.move (.t 0))),
      (none, .v 7 (.slice (.int .u64) (.t 6) none (some (.k (.int .i64 (9)))) none)),
      (none, .v 2 (.move (.t 7)))])
    .ret)
    .skip))
  (.seq
  (.region 0 [
    (none, .v 8 (.move (.t 0))),
    (none, .v 2 (.move (.t 8)))])
  .ret)))
def nt_l16_short : Nat := 9
def rs_l16_short : List RV := [.tmp 2]
/-- pontage/pontagelaw16.few -/
abbrev f_l16_few : FuncId := 11
def ac_l16_few : AC :=
  (.seq
  (.region 0 [
    (none, .v 2 (.move (.k (.sl T49 [] .full))))])
  (.seq
  (.seq
  (.region 0 [
    (none, .v 3 (.move (.t 0))),
    (none, .v 4 (.len false (.t 3))),
    (none, .v 5 (.cmp .gt (.t 4) (.k (.int .i64 (26)))))])
  (.cond (.t 5)
    (.seq
    (.region 0 [
      (none, .v 6 (.move (.t 0))),
      (none, .v 7 (.slice T49 (.t 6) none (some (.k (.int .i64 (26)))) none)),
      (none, .v 2 (.move (.t 7)))])
    .ret)
    .skip))
  (.seq
  (.region 0 [
    (none, .v 8 (.move (.t 0))),
    (none, .v 2 (.move (.t 8)))])
  .ret)))
def nt_l16_few : Nat := 9
def rs_l16_few : List RV := [.tmp 2]
/-- pontage/span.Nodes -/
abbrev f_span_Nodes : FuncId := 12
def ac_span_Nodes : AC :=
  (.seq
  (.region 0 [
    (none, .v 4 (.move (.k (.sl T59 [] .full)))),
    (none, .v 5 (.move (.k (.int .i64 (0)))))])
  (.seq
  (.seq
  (.region 0 [
    (none, .v 17 (.move (.t 0))),
    (none, .v 18 (.move (.t 1))),
    (none, .callP (some 19) 14 [.t 17, .t 18] 0 0 true),
    (none, .v 6 (.move (.t 19)))])
  (.seq
  (.region 0 [
    (none, .v 20 (.move (.t 6))),
    (none, .v 21 (.cmp .ne (.t 20) (.k (.int .i64 (0)))))])
  (.cond (.t 21)
    (.seq
    (.region 0 [
      (none, .v 22 (.move (.t 6))),
      (none, .v 4 (.move (.k (.sl T59 [] .full)))),
      (none, .v 5 (.move (.t 22)))])
    .ret)
    .skip)))
  (.seq
  (.region 1 [
    (none, .mk 7 500 T59 (.k (.sl T59 [] .full)))])
  (.seq
  (.seq
  (.region 0 [
    (none, .v 23 (.move (.t 0))),
    (none, .v 24 (.len false (.t 23))),
    (none, .v 25 (.move (.k (.int .i64 (0)))))])
  (.block 0
    (.loop [0, 1, 7, 23, 24, 25]
      (.seq
      (.region 0 [
        (none, .v 26 (.cmp .lt (.t 25) (.t 24)))])
      (.seq
      (.cond (.t 26)
        .skip
        (.exit 0))
      (.seq
      (.block 1
        (.seq
        (.region 0 [
          (none, .v 27 (.iadr none (.int .u64) (.t 23) (.t 25))),
          (none, .load 28 (.int .u64) (.t 27)),
          (none, .v 9 (.move (.t 28)))])
        (.region 2 [
          (none, .v 29 (.move (.t 7))),
          (none, .v 30 (.move (.t 9))),
          (none, .v 31 (.build T59 [(0, .t 30), (2, .k (.int .i64 (-1)))])),
          (none, .lit 32 0 T59 1 [(0, .t 31)] false),
          (none, .app 33 1 T59 24 (.t 29) (.t 32) false),
          (none, .v 7 (.move (.t 33)))])))
      (.region 0 [
        (none, .v 34 (.add (.t 25) (.k (.int .i64 (1))))),
        (none, .v 25 (.move (.t 34)))])))))))
  (.seq
  (.tregion 7 0 [
    (none, .v 10 (.move (.k (.fn 28 []))))])
  (.seq
  .skip
  (.seq
  (.block 2
    (.loop [0, 1, 7, 10]
      (.block 3
        (.seq
        (.seq
        (.region 0 [
          (none, .v 35 (.move (.t 1))),
          (none, .v 36 (.len false (.t 35))),
          (none, .v 37 (.move (.k (.int .i64 (0)))))])
        (.block 4
          (.loop [0, 1, 7, 10, 35, 36, 37]
            (.seq
            (.region 0 [
              (none, .v 38 (.cmp .lt (.t 37) (.t 36)))])
            (.seq
            (.cond (.t 38)
              .skip
              (.exit 4))
            (.seq
            (.block 5
              (.seq
              (.region 1 [
                (none, .v 39 (.iadr none T49 (.t 35) (.t 37))),
                (none, .load 40 T49 (.t 39)),
                (none, .alloc 12 0 T49),
                (none, .store T49 (.t 12) (.t 40))])
              (.seq
              (.region 0 [
                (none, .load 41 T49 (.t 12)),
                (none, .callP (some 42) 29 [.t 41] 0 0 true),
                (none, .v 43 (.move (.k (.int .i64 (0)))))])
              (.block 6
                (.loop [0, 1, 7, 10, 35, 36, 37, 42, 43]
                  (.seq
                  (.region 0 [
                    (none, .v 44 (.cmp .lt (.t 43) (.k (.int .i64 (2)))))])
                  (.seq
                  (.cond (.t 44)
                    .skip
                    (.exit 6))
                  (.seq
                  (.block 7
                    (.seq
                    (.region 1 [
                      (none, .v 45 (.aidx 2 T72 (.t 42) (.t 43))),
                      (none, .alloc 14 0 T72),
                      (none, .store T72 (.t 14) (.t 45))])
                    (.seq
                    (.draw 1 [[], [], [], [], [], [], [], [], [], [], [], [], [], [], [], [], [], [], []] [
                      (none, .v 46 (.move (.t 7))),
                      (none, .v 47 (.fadr T72 2 (.t 14))),
                      (none, .v 48 (.fadr T70 0 (.t 47))),
                      (none, .load 49 (.int .i64) (.t 48)),
                      (none, .v 50 (.iadr none T59 (.t 46) (.t 49))),
                      (none, .v 51 (.fadr T59 0 (.t 50))),
                      (none, .load 52 (.int .u64) (.t 51)),
                      (none, .v 53 (.move (.t 7))),
                      (none, .v 54 (.fadr T72 2 (.t 14))),
                      (none, .v 55 (.fadr T70 0 (.t 54))),
                      (none, .load 56 (.int .i64) (.t 55)),
                      (none, .v 57 (.iadr none T59 (.t 53) (.t 56))),
                      (none, .v 58 (.fadr T59 1 (.t 57))),
                      (none, .load 59 (.int .u32) (.t 58)),
                      (none, .v 60 (.fadr T72 1 (.t 14))),
                      (none, .load 61 (.int .u32) (.t 60)),
                      (none, .v 62 (.add (.t 59) (.t 61))),
                      (none, .v 63 (.build T59 [(0, .t 52), (1, .t 62), (2, .k (.int .i64 (-1)))])),
                      (none, .alloc 15 0 T59)] [
                      (none, .store T59 (.t 15) (.t 63))])
                    (.seq
                    (.draw 0 [[], [], [], [], [], [], [], []] [
                      (none, .v 64 (.move (.t 10))),
                      (none, .load 65 T59 (.t 15)),
                      (none, .v 66 (.move (.t 7))),
                      (none, .v 67 (.fadr T72 0 (.t 14))),
                      (none, .v 68 (.fadr T70 0 (.t 67))),
                      (none, .load 69 (.int .i64) (.t 68)),
                      (none, .v 70 (.iadr none T59 (.t 66) (.t 69))),
                      (none, .load 71 T59 (.t 70))] [
                      (none, .callS (some 72) (.t 64) [.t 65, .t 71] [] [28])])
                    (.cond (.t 72)
                      (.seq
                      (.region 0 [
                        (none, .v 73 (.move (.t 7))),
                        (none, .v 74 (.fadr T72 0 (.t 14))),
                        (none, .v 75 (.fadr T70 0 (.t 74))),
                        (none, .load 76 (.int .i64) (.t 75)),
                        (none, .load 77 T59 (.t 15)),
                        (none, .v 78 (.iadr none T59 (.t 73) (.t 76))),
                        (none, .store T59 (.t 78) (.t 77))])
                      (.exit 3))
                      .skip)))))
                  (.region 0 [
                    (none, .v 79 (.add (.t 43) (.k (.int .i64 (1))))),
                    (none, .v 43 (.move (.t 79)))])))))))))
            (.region 0 [
              (none, .v 80 (.add (.t 37) (.k (.int .i64 (1))))),
              (none, .v 37 (.move (.t 80)))])))))))
        (.exit 2)))))
  (.seq
  (.seq
  (.region 0 [
    (none, .v 81 (.move (.t 7))),
    (none, .v 82 (.len false (.t 81))),
    (none, .v 83 (.move (.k (.int .i64 (0)))))])
  (.block 8
    (.loop [0, 1, 7, 82, 83]
      (.seq
      (.region 0 [
        (none, .v 84 (.cmp .lt (.t 83) (.t 82)))])
      (.seq
      (.cond (.t 84)
        .skip
        (.exit 8))
      (.seq
      (.block 9
        (.seq
        (.region 0 [
          (none, .v 85 (.move (.t 83))),
          (none, .v 16 (.move (.t 85)))])
        (.seq
        (.draw 0 [[], [], [], [], [], [], [], [], []] [
          (none, .v 86 (.move (.t 7))),
          (none, .v 87 (.move (.t 16))),
          (none, .v 88 (.iadr none T59 (.t 86) (.t 87))),
          (none, .v 89 (.fadr T59 0 (.t 88))),
          (none, .load 90 (.int .u64) (.t 89)),
          (none, .v 91 (.move (.t 0))),
          (none, .v 92 (.move (.t 16))),
          (none, .v 93 (.iadr none (.int .u64) (.t 91) (.t 92))),
          (none, .load 94 (.int .u64) (.t 93))] [
          (none, .v 95 (.cmp .ne (.t 90) (.t 94)))])
        (.cond (.t 95)
          (.region 0 [
            (none, .v 96 (.move (.t 7))),
            (none, .v 97 (.move (.t 16))),
            (none, .v 98 (.move (.t 0))),
            (none, .v 99 (.move (.t 1))),
            (none, .v 100 (.move (.t 7))),
            (none, .v 101 (.move (.t 16))),
            (none, .callP (some 102) 30 [.t 98, .t 99, .t 100, .t 101] 0 0 false),
            (none, .v 103 (.iadr none T59 (.t 96) (.t 97))),
            (none, .v 104 (.fadr T59 2 (.t 103))),
            (none, .store (.int .i64) (.t 104) (.t 102))])
          .skip))))
      (.region 0 [
        (none, .v 105 (.add (.t 83) (.k (.int .i64 (1))))),
        (none, .v 83 (.move (.t 105)))])))))))
  (.seq
  (.region 0 [
    (none, .close 106 (.t 7)),
    (none, .v 4 (.move (.t 106))),
    (none, .v 5 (.move (.k (.int .i64 (0)))))])
  .ret)))))))))
def nt_span_Nodes : Nat := 107
def rs_span_Nodes : List RV := [.tmp 4, .tmp 5]
/-- pontage/pontageref16.Nodes -/
abbrev f_r16_Nodes : FuncId := 13
def ac_r16_Nodes : AC :=
  (.seq
  (.region 0 [
    (none, .v 4 (.move (.k (.sl T59 [] .full)))),
    (none, .v 5 (.move (.k (.int .i64 (0)))))])
  (.seq
  (.region 0 [
    (none, .v 15 (.move (.t 0))),
    (none, .v 16 (.move (.t 1))),
    (none, .callP (some 17) 15 [.t 15, .t 16] 0 0 true),
    (none, .v 6 (.move (.t 17)))])
  (.seq
  (.seq
  (.region 0 [
    (none, .v 18 (.move (.t 6))),
    (none, .v 19 (.cmp .ne (.t 18) (.k (.int .i64 (0)))))])
  (.cond (.t 19)
    (.seq
    (.region 0 [
      (none, .v 20 (.move (.t 6))),
      (none, .v 4 (.move (.k (.sl T59 [] .full)))),
      (none, .v 5 (.move (.t 20)))])
    .ret)
    .skip))
  (.seq
  (.region 1 [
    (none, .v 21 (.move (.t 1))),
    (none, .callP (some 22) 25 [.t 21] 0 1 true),
    (none, .v 7 (.move (.t 22)))])
  (.seq
  (.region 1 [
    (none, .v 23 (.move (.t 0))),
    (none, .v 24 (.move (.t 7))),
    (none, .callP (some 25) 31 [.t 23, .t 24] 0 1 true),
    (none, .v 8 (.move (.t 25)))])
  (.seq
  (.region 1 [
    (none, .mk 9 500 T55 (.k (.sl T55 [] .full)))])
  (.seq
  (.seq
  (.region 0 [
    (none, .v 10 (.move (.k (.int .i64 (0)))))])
  (.block 0
    (.loop [0, 7, 8, 9, 10]
      (.seq
      (.seq
      (.region 0 [
        (none, .v 26 (.move (.t 10))),
        (none, .v 27 (.move (.t 0))),
        (none, .v 28 (.len false (.t 27))),
        (none, .v 29 (.cmp .lt (.t 26) (.t 28)))])
      (.cond (.t 29)
        .skip
        (.exit 0)))
      (.seq
      (.block 1
        (.region 2 [
          (none, .v 32 (.move (.t 9))),
          (none, .v 33 (.build T55 [])),
          (none, .lit 34 0 T55 1 [(0, .t 33)] false),
          (none, .app 35 1 T55 32 (.t 32) (.t 34) false),
          (none, .v 9 (.move (.t 35)))]))
      (.region 0 [
        (none, .v 30 (.move (.t 10))),
        (none, .v 31 (.add (.t 30) (.k (.int .i64 (1))))),
        (none, .v 10 (.move (.t 31)))]))))))
  (.seq
  (.seq
  (.tregion 9 0 [
    (none, .v 11 (.move (.k (.int .i64 (0)))))])
  (.block 2
    (.loop [0, 7, 8, 9, 11]
      (.seq
      (.seq
      (.region 0 [
        (none, .v 36 (.move (.t 11))),
        (none, .v 37 (.move (.t 7))),
        (none, .v 38 (.len false (.t 37))),
        (none, .v 39 (.cmp .lt (.t 36) (.t 38)))])
      (.cond (.t 39)
        .skip
        (.exit 2)))
      (.seq
      (.block 3
        (.seq
        (.region 1 [
          (none, .v 42 (.move (.t 7))),
          (none, .v 43 (.move (.t 11))),
          (none, .v 44 (.iadr none T63 (.t 42) (.t 43))),
          (none, .load 45 T63 (.t 44)),
          (none, .alloc 12 0 T63),
          (none, .store T63 (.t 12) (.t 45))])
        (.seq
        (.region 1 [
          (none, .v 46 (.move (.t 8))),
          (none, .v 47 (.fadr T63 0 (.t 12))),
          (none, .load 48 (.int .i64) (.t 47)),
          (none, .v 49 (.iadr none T59 (.t 46) (.t 48))),
          (none, .load 50 T59 (.t 49)),
          (none, .alloc 13 0 T59),
          (none, .store T59 (.t 13) (.t 50))])
        (.seq
        (.seq
        (.draw 0 [[], [], [], [], [], [], []] [
          (none, .v 51 (.fadr T59 0 (.t 13))),
          (none, .load 52 (.int .u64) (.t 51)),
          (none, .v 53 (.move (.t 0))),
          (none, .v 54 (.fadr T63 0 (.t 12))),
          (none, .load 55 (.int .i64) (.t 54)),
          (none, .v 56 (.iadr none (.int .u64) (.t 53) (.t 55))),
          (none, .load 57 (.int .u64) (.t 56))] [
          (none, .v 58 (.cmp .eq (.t 52) (.t 57)))])
        (.cond (.t 58)
          (.exit 3)
          .skip))
        (.seq
        (.draw 1 [[], [], [], [], [], [], [3, 5], [], [], [3, 5, 6, 8], []] [
          (none, .v 59 (.move (.t 0))),
          (none, .v 60 (.move (.t 8))),
          (none, .v 61 (.fadr T63 3 (.t 12))),
          (none, .load 62 (.int .i64) (.t 61)),
          (none, .v 63 (.fadr T63 4 (.t 12))),
          (none, .load 64 (.int .i64) (.t 63)),
          (none, .callP (some 65) 33 [.t 59, .t 60, .t 62, .t 64] 0 0 false),
          (none, .v 66 (.fadr T63 2 (.t 12))),
          (none, .load 67 (.int .u32) (.t 66)),
          (none, .callP (some 68) 32 [.t 65, .t 67] 0 0 false),
          (none, .alloc 14 0 T55)] [
          (none, .store T55 (.t 14) (.t 68))])
        (.seq
        (.draw 0 [[], [], [], [], [], [], [], [], [], [], [1, 4, 7, 9], [], [], [10], [], [], [10], [], [10], [], [], [], [10], [], [10]] [
          (none, .v 69 (.fadr T59 2 (.t 13))),
          (none, .load 70 (.int .i64) (.t 69)),
          (none, .v 71 (.cmp .lt (.t 70) (.k (.int .i64 (0))))),
          (none, .v 72 (.move (.t 71))),
          (some (72, false), .load 73 T55 (.t 14)),
          (some (72, false), .v 74 (.move (.t 9))),
          (some (72, false), .v 75 (.fadr T63 0 (.t 12))),
          (some (72, false), .load 76 (.int .i64) (.t 75)),
          (some (72, false), .v 77 (.iadr none T55 (.t 74) (.t 76))),
          (some (72, false), .load 78 T55 (.t 77)),
          (some (72, false), .callP (some 79) 27 [.t 73, .t 78] 0 0 false),
          (none, .v 80 (.pick (.t 72) (.k (.bool true)) (.t 79))),
          (none, .v 81 (.move (.t 80))),
          (some (81, false), .load 82 T55 (.t 14)),
          (some (81, false), .v 83 (.move (.t 9))),
          (some (81, false), .v 84 (.fadr T63 0 (.t 12))),
          (some (81, false), .load 85 (.int .i64) (.t 84)),
          (some (81, false), .v 86 (.iadr none T55 (.t 83) (.t 85))),
          (some (81, false), .load 87 T55 (.t 86)),
          (some (81, false), .v 88 (.eqT T55 false (.t 82) (.t 87))),
          (some (81, false), .v 89 (.move (.t 88))),
          (some (89, true), .v 90 (.fadr T63 1 (.t 12))),
          (some (89, true), .load 91 (.int .i64) (.t 90)),
          (some (89, true), .v 92 (.fadr T59 2 (.t 13))),
          (some (89, true), .load 93 (.int .i64) (.t 92))] [
          (some (89, true), .v 94 (.cmp .lt (.t 91) (.t 93))),
          (some (81, false), .v 95 (.pick (.t 89) (.t 94) (.k (.bool false)))),
          (none, .v 96 (.pick (.t 81) (.k (.bool true)) (.t 95)))])
        (.cond (.t 96)
          (.seq
          (.region 0 [
            (none, .v 97 (.fadr T63 1 (.t 12))),
            (none, .load 98 (.int .i64) (.t 97)),
            (none, .v 99 (.fadr T59 2 (.t 13))),
            (none, .store (.int .i64) (.t 99) (.t 98))])
          (.seq
          (.region 0 [
            (none, .v 100 (.move (.t 8))),
            (none, .v 101 (.fadr T63 0 (.t 12))),
            (none, .load 102 (.int .i64) (.t 101)),
            (none, .load 103 T59 (.t 13)),
            (none, .v 104 (.iadr none T59 (.t 100) (.t 102))),
            (none, .store T59 (.t 104) (.t 103))])
          (.region 0 [
            (none, .v 105 (.move (.t 9))),
            (none, .v 106 (.fadr T63 0 (.t 12))),
            (none, .load 107 (.int .i64) (.t 106)),
            (none, .load 108 T55 (.t 14)),
            (none, .v 109 (.iadr none T55 (.t 105) (.t 107))),
            (none, .store T55 (.t 109) (.t 108))])))
          .skip)))))))
      (.region 0 [
        (none, .v 40 (.move (.t 11))),
        (none, .v 41 (.add (.t 40) (.k (.int .i64 (1))))),
        (none, .v 11 (.move (.t 41)))]))))))
  (.seq
  (.region 0 [
    (none, .close 110 (.t 8)),
    (none, .v 4 (.move (.t 110))),
    (none, .v 5 (.move (.k (.int .i64 (0)))))])
  .ret)))))))))
def nt_r16_Nodes : Nat := 111
def rs_r16_Nodes : List RV := [.tmp 4, .tmp 5]
/-- pontage/span.Check -/
abbrev f_span_Check : FuncId := 14
def ac_span_Check : AC :=
  (.seq
  (.region 0 [
    (none, .v 4 (.move (.k (.int .i64 (0)))))])
  (.seq
  (.seq
  (.region 0 [
    (none, .v 16 (.move (.t 0))),
    (none, .v 17 (.len false (.t 16))),
    (none, .callP (some 18) 34 [.t 17, .k (.int .i64 (1)), .k (.int .i64 (7))] 0 0 true),
    (none, .v 19 (.not (.t 18))),
    (none, .v 20 (.move (.t 19))),
    (some (20, false), .v 21 (.move (.t 1))),
    (some (20, false), .v 22 (.len false (.t 21))),
    (some (20, false), .v 23 (.cmp .gt (.t 22) (.k (.int .i64 (24))))),
    (none, .v 24 (.pick (.t 20) (.k (.bool true)) (.t 23)))])
  (.cond (.t 24)
    (.seq
    (.region 0 [
      (none, .v 4 (.move (.k (.int .i64 (160)))))])
    .ret)
    .skip))
  (.seq
  (.seq
  (.region 0 [
    (none, .v 25 (.move (.t 0))),
    (none, .v 26 (.len false (.t 25))),
    (none, .v 27 (.move (.k (.int .i64 (0)))))])
  (.block 0
    (.loop [0, 1, 25, 26, 27]
      (.seq
      (.region 0 [
        (none, .v 28 (.cmp .lt (.t 27) (.t 26)))])
      (.seq
      (.cond (.t 28)
        .skip
        (.exit 0))
      (.seq
      (.block 1
        (.seq
        (.region 0 [
          (none, .v 29 (.move (.t 27))),
          (none, .v 30 (.iadr none (.int .u64) (.t 25) (.t 27))),
          (none, .load 31 (.int .u64) (.t 30)),
          (none, .v 5 (.move (.t 29))),
          (none, .v 6 (.move (.t 31)))])
        (.seq
        (.region 0 [
          (none, .v 32 (.move (.t 0))),
          (none, .v 33 (.move (.t 5))),
          (none, .v 34 (.slice (.int .u64) (.t 32) none (some (.t 33)) none)),
          (none, .v 35 (.len false (.t 34))),
          (none, .v 36 (.move (.k (.int .i64 (0)))))])
        (.block 2
          (.loop [0, 1, 6, 25, 26, 27, 34, 35, 36]
            (.seq
            (.region 0 [
              (none, .v 37 (.cmp .lt (.t 36) (.t 35)))])
            (.seq
            (.cond (.t 37)
              .skip
              (.exit 2))
            (.seq
            (.block 3
              (.seq
              (.region 0 [
                (none, .v 38 (.iadr none (.int .u64) (.t 34) (.t 36))),
                (none, .load 39 (.int .u64) (.t 38)),
                (none, .v 8 (.move (.t 39)))])
              (.seq
              (.region 0 [
                (none, .v 40 (.move (.t 6))),
                (none, .callP (some 41) 35 [.t 40] 0 0 true),
                (none, .v 42 (.move (.t 8))),
                (none, .callP (some 43) 35 [.t 42] 0 0 true),
                (none, .v 44 (.eqT T83 false (.t 41) (.t 43)))])
              (.cond (.t 44)
                (.seq
                (.region 0 [
                  (none, .v 4 (.move (.k (.int .i64 (160)))))])
                .ret)
                .skip))))
            (.region 0 [
              (none, .v 45 (.add (.t 36) (.k (.int .i64 (1))))),
              (none, .v 36 (.move (.t 45)))])))))))))
      (.region 0 [
        (none, .v 46 (.add (.t 27) (.k (.int .i64 (1))))),
        (none, .v 27 (.move (.t 46)))])))))))
  (.seq
  (.region 1 [
    (none, .mk 9 0 T70 (.k (.sl T70 [] .full)))])
  (.seq
  (.seq
  (.region 0 [
    (none, .v 47 (.move (.t 1))),
    (none, .v 48 (.len false (.t 47))),
    (none, .v 49 (.move (.k (.int .i64 (0)))))])
  (.block 4
    (.loop [0, 9, 47, 48, 49]
      (.seq
      (.region 0 [
        (none, .v 50 (.cmp .lt (.t 49) (.t 48)))])
      (.seq
      (.cond (.t 50)
        .skip
        (.exit 4))
      (.seq
      (.block 5
        (.seq
        (.region 1 [
          (none, .v 51 (.iadr none T49 (.t 47) (.t 49))),
          (none, .load 52 T49 (.t 51)),
          (none, .alloc 11 0 T49),
          (none, .store T49 (.t 11) (.t 52))])
        (.seq
        (.seq
        (.region 0 [
          (none, .v 53 (.fadr T49 0 (.t 11))),
          (none, .load 54 (.int .i64) (.t 53)),
          (none, .v 55 (.fadr T49 2 (.t 11))),
          (none, .load 56 (.int .i64) (.t 55)),
          (none, .v 57 (.cmp .eq (.t 54) (.t 56)))])
        (.cond (.t 57)
          (.seq
          (.region 0 [
            (none, .v 4 (.move (.k (.int .i64 (160)))))])
          .ret)
          .skip))
        (.seq
        (.region 0 [
          (none, .load 58 T49 (.t 11)),
          (none, .callP (some 59) 29 [.t 58] 0 0 true),
          (none, .v 60 (.move (.k (.int .i64 (0)))))])
        (.block 6
          (.loop [0, 9, 47, 48, 49, 59, 60]
            (.seq
            (.region 0 [
              (none, .v 61 (.cmp .lt (.t 60) (.k (.int .i64 (2)))))])
            (.seq
            (.cond (.t 61)
              .skip
              (.exit 6))
            (.seq
            (.block 7
              (.seq
              (.region 1 [
                (none, .v 62 (.aidx 2 T72 (.t 59) (.t 60))),
                (none, .alloc 13 0 T72),
                (none, .store T72 (.t 13) (.t 62))])
              (.seq
              (.seq
              (.region 0 [
                (none, .v 63 (.fadr T72 0 (.t 13))),
                (none, .v 64 (.fadr T70 0 (.t 63))),
                (none, .load 65 (.int .i64) (.t 64)),
                (none, .v 66 (.move (.t 0))),
                (none, .v 67 (.len false (.t 66))),
                (none, .v 68 (.sub (.t 67) (.k (.int .i64 (1))))),
                (none, .callP (some 69) 34 [.t 65, .k (.int .i64 (0)), .t 68] 0 0 true),
                (none, .v 70 (.not (.t 69))),
                (none, .v 71 (.move (.t 70))),
                (some (71, false), .v 72 (.fadr T72 0 (.t 13))),
                (some (71, false), .v 73 (.fadr T70 1 (.t 72))),
                (some (71, false), .load 74 (.int .i64) (.t 73)),
                (some (71, false), .callP (some 75) 34 [.t 74, .k (.int .i64 (0)), .k (.int .i64 (7))] 0 0 true),
                (some (71, false), .v 76 (.not (.t 75))),
                (none, .v 77 (.pick (.t 71) (.k (.bool true)) (.t 76))),
                (none, .v 78 (.move (.t 77))),
                (some (78, false), .v 79 (.fadr T72 1 (.t 13))),
                (some (78, false), .load 80 (.int .u32) (.t 79)),
                (some (78, false), .v 81 (.cmp .lt (.t 80) (.k (.int .u32 (1))))),
                (none, .v 82 (.pick (.t 78) (.k (.bool true)) (.t 81))),
                (none, .v 83 (.move (.t 82))),
                (some (83, false), .v 84 (.fadr T72 1 (.t 13))),
                (some (83, false), .load 85 (.int .u32) (.t 84)),
                (some (83, false), .v 86 (.cmp .gt (.t 85) (.k (.int .u32 (200000000))))),
                (none, .v 87 (.pick (.t 83) (.k (.bool true)) (.t 86)))])
              (.cond (.t 87)
                (.seq
                (.region 0 [
                  (none, .v 4 (.move (.k (.int .i64 (160)))))])
                .ret)
                .skip))
              (.seq
              (.seq
              (.region 0 [
                (none, .v 88 (.move (.t 9))),
                (none, .v 89 (.len false (.t 88))),
                (none, .v 90 (.move (.k (.int .i64 (0)))))])
              (.block 8
                (.loop [0, 9, 13, 47, 48, 49, 59, 60, 88, 89, 90]
                  (.seq
                  (.region 0 [
                    (none, .v 91 (.cmp .lt (.t 90) (.t 89)))])
                  (.seq
                  (.cond (.t 91)
                    .skip
                    (.exit 8))
                  (.seq
                  (.block 9
                    (.seq
                    (.region 1 [
                      (none, .v 92 (.iadr none T70 (.t 88) (.t 90))),
                      (none, .load 93 T70 (.t 92)),
                      (none, .alloc 15 0 T70),
                      (none, .store T70 (.t 15) (.t 93))])
                    (.seq
                    (.region 0 [
                      (none, .load 94 T70 (.t 15)),
                      (none, .v 95 (.fadr T72 0 (.t 13))),
                      (none, .load 96 T70 (.t 95)),
                      (none, .v 97 (.eqT T70 false (.t 94) (.t 96)))])
                    (.cond (.t 97)
                      (.seq
                      (.region 0 [
                        (none, .v 4 (.move (.k (.int .i64 (160)))))])
                      .ret)
                      .skip))))
                  (.region 0 [
                    (none, .v 98 (.add (.t 90) (.k (.int .i64 (1))))),
                    (none, .v 90 (.move (.t 98)))])))))))
              (.region 2 [
                (none, .v 99 (.move (.t 9))),
                (none, .v 100 (.fadr T72 0 (.t 13))),
                (none, .load 101 T70 (.t 100)),
                (none, .lit 102 0 T70 1 [(0, .t 101)] false),
                (none, .app 103 1 T70 16 (.t 99) (.t 102) false),
                (none, .v 9 (.move (.t 103)))])))))
            (.region 0 [
              (none, .v 104 (.add (.t 60) (.k (.int .i64 (1))))),
              (none, .v 60 (.move (.t 104)))]))))))))))
      (.region 0 [
        (none, .v 105 (.add (.t 49) (.k (.int .i64 (1))))),
        (none, .v 49 (.move (.t 105)))])))))))
  (.seq
  (.region 0 [
    (none, .v 4 (.move (.k (.int .i64 (0)))))])
  .ret))))))
def nt_span_Check : Nat := 106
def rs_span_Check : List RV := [.tmp 4]
/-- pontage/pontageref16.Check -/
abbrev f_r16_Check : FuncId := 15
def ac_r16_Check : AC :=
  (.seq
  (.region 0 [
    (none, .v 4 (.move (.k (.int .i64 (0)))))])
  (.seq
  (.seq
  (.region 0 [
    (none, .v 11 (.move (.t 0))),
    (none, .v 12 (.len false (.t 11))),
    (none, .v 13 (.cmp .lt (.t 12) (.k (.int .i64 (1))))),
    (none, .v 14 (.move (.t 13))),
    (some (14, false), .v 15 (.move (.t 0))),
    (some (14, false), .v 16 (.len false (.t 15))),
    (some (14, false), .v 17 (.cmp .gt (.t 16) (.k (.int .i64 (7))))),
    (none, .v 18 (.pick (.t 14) (.k (.bool true)) (.t 17))),
    (none, .v 19 (.move (.t 18))),
    (some (19, false), .v 20 (.move (.t 1))),
    (some (19, false), .v 21 (.len false (.t 20))),
    (some (19, false), .v 22 (.cmp .gt (.t 21) (.k (.int .i64 (24))))),
    (none, .v 23 (.pick (.t 19) (.k (.bool true)) (.t 22)))])
  (.cond (.t 23)
    (.seq
    (.region 0 [
      (none, .v 4 (.move (.k (.int .i64 (160)))))])
    .ret)
    .skip))
  (.seq
  (.seq
  (.region 0 [
    (none, .v 5 (.move (.k (.int .i64 (0)))))])
  (.block 0
    (.loop [0, 1, 5]
      (.seq
      (.seq
      (.region 0 [
        (none, .v 24 (.move (.t 5))),
        (none, .v 25 (.move (.t 0))),
        (none, .v 26 (.len false (.t 25))),
        (none, .v 27 (.cmp .lt (.t 24) (.t 26)))])
      (.cond (.t 27)
        .skip
        (.exit 0)))
      (.seq
      (.block 1
        (.seq
        (.region 0 [
          (none, .v 6 (.move (.k (.int .i64 (0)))))])
        (.block 2
          (.loop [0, 1, 5, 6]
            (.seq
            (.seq
            (.region 0 [
              (none, .v 30 (.move (.t 6))),
              (none, .v 31 (.move (.t 5))),
              (none, .v 32 (.cmp .lt (.t 30) (.t 31)))])
            (.cond (.t 32)
              .skip
              (.exit 2)))
            (.seq
            (.block 3
              (.seq
              (.draw 0 [[], [], [], [], [], [], [], []] [
                (none, .v 35 (.move (.t 0))),
                (none, .v 36 (.move (.t 5))),
                (none, .v 37 (.iadr none (.int .u64) (.t 35) (.t 36))),
                (none, .load 38 (.int .u64) (.t 37)),
                (none, .v 39 (.move (.t 0))),
                (none, .v 40 (.move (.t 6))),
                (none, .v 41 (.iadr none (.int .u64) (.t 39) (.t 40))),
                (none, .load 42 (.int .u64) (.t 41))] [
                (none, .callP (some 43) 36 [.t 38, .t 42] 0 0 true)])
              (.cond (.t 43)
                (.seq
                (.region 0 [
                  (none, .v 4 (.move (.k (.int .i64 (160)))))])
                .ret)
                .skip)))
            (.region 0 [
              (none, .v 33 (.move (.t 6))),
              (none, .v 34 (.add (.t 33) (.k (.int .i64 (1))))),
              (none, .v 6 (.move (.t 34)))])))))))
      (.region 0 [
        (none, .v 28 (.move (.t 5))),
        (none, .v 29 (.add (.t 28) (.k (.int .i64 (1))))),
        (none, .v 5 (.move (.t 29)))]))))))
  (.seq
  (.region 1 [
    (none, .v 44 (.move (.t 1))),
    (none, .callP (some 45) 25 [.t 44] 0 1 true),
    (none, .v 7 (.move (.t 45)))])
  (.seq
  (.seq
  (.region 0 [
    (none, .v 8 (.move (.k (.int .i64 (0)))))])
  (.block 4
    (.loop [0, 7, 8]
      (.seq
      (.seq
      (.region 0 [
        (none, .v 46 (.move (.t 8))),
        (none, .v 47 (.move (.t 7))),
        (none, .v 48 (.len false (.t 47))),
        (none, .v 49 (.cmp .lt (.t 46) (.t 48)))])
      (.cond (.t 49)
        .skip
        (.exit 4)))
      (.seq
      (.block 5
        (.seq
        (.region 1 [
          (none, .v 52 (.move (.t 7))),
          (none, .v 53 (.move (.t 8))),
          (none, .v 54 (.iadr none T63 (.t 52) (.t 53))),
          (none, .load 55 T63 (.t 54)),
          (none, .alloc 9 0 T63),
          (none, .store T63 (.t 9) (.t 55))])
        (.seq
        (.seq
        (.region 0 [
          (none, .v 56 (.fadr T63 0 (.t 9))),
          (none, .load 57 (.int .i64) (.t 56)),
          (none, .v 58 (.cmp .lt (.t 57) (.k (.int .i64 (0))))),
          (none, .v 59 (.move (.t 58))),
          (some (59, false), .v 60 (.fadr T63 0 (.t 9))),
          (some (59, false), .load 61 (.int .i64) (.t 60)),
          (some (59, false), .v 62 (.move (.t 0))),
          (some (59, false), .v 63 (.len false (.t 62))),
          (some (59, false), .v 64 (.cmp .ge (.t 61) (.t 63))),
          (none, .v 65 (.pick (.t 59) (.k (.bool true)) (.t 64))),
          (none, .v 66 (.move (.t 65))),
          (some (66, false), .v 67 (.fadr T63 0 (.t 9))),
          (some (66, false), .load 68 (.int .i64) (.t 67)),
          (some (66, false), .v 69 (.fadr T63 3 (.t 9))),
          (some (66, false), .load 70 (.int .i64) (.t 69)),
          (some (66, false), .v 71 (.cmp .eq (.t 68) (.t 70))),
          (none, .v 72 (.pick (.t 66) (.k (.bool true)) (.t 71))),
          (none, .v 73 (.move (.t 72))),
          (some (73, false), .v 74 (.fadr T63 1 (.t 9))),
          (some (73, false), .load 75 (.int .i64) (.t 74)),
          (some (73, false), .v 76 (.cmp .lt (.t 75) (.k (.int .i64 (0))))),
          (none, .v 77 (.pick (.t 73) (.k (.bool true)) (.t 76))),
          (none, .v 78 (.move (.t 77))),
          (some (78, false), .v 79 (.fadr T63 1 (.t 9))),
          (some (78, false), .load 80 (.int .i64) (.t 79)),
          (some (78, false), .v 81 (.cmp .gt (.t 80) (.k (.int .i64 (7))))),
          (none, .v 82 (.pick (.t 78) (.k (.bool true)) (.t 81))),
          (none, .v 83 (.move (.t 82))),
          (some (83, false), .v 84 (.fadr T63 2 (.t 9))),
          (some (83, false), .load 85 (.int .u32) (.t 84)),
          (some (83, false), .v 86 (.cmp .lt (.t 85) (.k (.int .u32 (1))))),
          (none, .v 87 (.pick (.t 83) (.k (.bool true)) (.t 86))),
          (none, .v 88 (.move (.t 87))),
          (some (88, false), .v 89 (.fadr T63 2 (.t 9))),
          (some (88, false), .load 90 (.int .u32) (.t 89)),
          (some (88, false), .v 91 (.cmp .gt (.t 90) (.k (.int .u32 (200000000))))),
          (none, .v 92 (.pick (.t 88) (.k (.bool true)) (.t 91)))])
        (.cond (.t 92)
          (.seq
          (.region 0 [
            (none, .v 4 (.move (.k (.int .i64 (160)))))])
          .ret)
          .skip))
        (.seq
        (.region 0 [
          (none, .v 10 (.move (.k (.int .i64 (0)))))])
        (.block 6
          (.loop [0, 7, 8, 9, 10]
            (.seq
            (.seq
            (.region 0 [
              (none, .v 93 (.move (.t 10))),
              (none, .v 94 (.move (.t 8))),
              (none, .v 95 (.cmp .lt (.t 93) (.t 94)))])
            (.cond (.t 95)
              .skip
              (.exit 6)))
            (.seq
            (.block 7
              (.seq
              (.draw 0 [[], [], [], [], [], [], [], [], [], [], [], [], [], [], [], []] [
                (none, .v 98 (.move (.t 7))),
                (none, .v 99 (.move (.t 10))),
                (none, .v 100 (.iadr none T63 (.t 98) (.t 99))),
                (none, .v 101 (.fadr T63 0 (.t 100))),
                (none, .load 102 (.int .i64) (.t 101)),
                (none, .v 103 (.fadr T63 0 (.t 9))),
                (none, .load 104 (.int .i64) (.t 103)),
                (none, .v 105 (.cmp .eq (.t 102) (.t 104))),
                (none, .v 106 (.move (.t 105))),
                (some (106, true), .v 107 (.move (.t 7))),
                (some (106, true), .v 108 (.move (.t 10))),
                (some (106, true), .v 109 (.iadr none T63 (.t 107) (.t 108))),
                (some (106, true), .v 110 (.fadr T63 1 (.t 109))),
                (some (106, true), .load 111 (.int .i64) (.t 110)),
                (some (106, true), .v 112 (.fadr T63 1 (.t 9))),
                (some (106, true), .load 113 (.int .i64) (.t 112))] [
                (some (106, true), .v 114 (.cmp .eq (.t 111) (.t 113))),
                (none, .v 115 (.pick (.t 106) (.t 114) (.k (.bool false))))])
              (.cond (.t 115)
                (.seq
                (.region 0 [
                  (none, .v 4 (.move (.k (.int .i64 (160)))))])
                .ret)
                .skip)))
            (.region 0 [
              (none, .v 96 (.move (.t 10))),
              (none, .v 97 (.add (.t 96) (.k (.int .i64 (1))))),
              (none, .v 10 (.move (.t 97)))])))))))))
      (.region 0 [
        (none, .v 50 (.move (.t 8))),
        (none, .v 51 (.add (.t 50) (.k (.int .i64 (1))))),
        (none, .v 8 (.move (.t 51)))]))))))
  (.seq
  (.region 0 [
    (none, .v 4 (.move (.k (.int .i64 (0)))))])
  .ret))))))
def nt_r16_Check : Nat := 116
def rs_r16_Check : List RV := [.tmp 4]
/-- pontage/pontagelaw16.awake -/
abbrev f_l16_awake : FuncId := 17
def ac_l16_awake : AC :=
  (.seq
  (.region 0 [
    (none, .v 0 (.move (.k (.bool false))))])
  (.seq
  (.region 3 [
    (none, .lit 4 0 (.int .u64) 3 [(0, .k (.int .u64 (1))), (1, .k (.int .u64 (2))), (2, .k (.int .u64 (3)))] false),
    (none, .callP (some 5) 37 [.k (.int .i64 (0)), .k (.int .i64 (0)), .k (.int .i64 (1)), .k (.int .i64 (0))] 1 0 true),
    (none, .callP (some 6) 37 [.k (.int .i64 (1)), .k (.int .i64 (1)), .k (.int .i64 (2)), .k (.int .i64 (0))] 1 0 true),
    (none, .callP (some 7) 37 [.k (.int .i64 (2)), .k (.int .i64 (1)), .k (.int .i64 (0)), .k (.int .i64 (1))] 1 0 true),
    (none, .lit 8 1 T49 3 [(0, .t 5), (1, .t 6), (2, .t 7)] false),
    (none, .callP (some 9) 20 [.t 4, .t 8] 2 1 true),
    (none, .v 3 (.move (.t 9))),
    (none, .v 10 (.ext (.t 3) 0)),
    (none, .v 11 (.ext (.t 3) 1)),
    (none, .v 1 (.move (.t 10))),
    (none, .v 2 (.move (.t 11)))])
  (.seq
  (.region 0 [
    (none, .v 12 (.move (.t 2))),
    (none, .v 13 (.cmp .eq (.t 12) (.k (.int .i64 (0))))),
    (none, .v 14 (.move (.t 13))),
    (some (14, true), .v 15 (.move (.t 1))),
    (some (14, true), .v 16 (.len false (.t 15))),
    (some (14, true), .v 17 (.cmp .eq (.t 16) (.k (.int .i64 (2))))),
    (none, .v 18 (.pick (.t 14) (.t 17) (.k (.bool false)))),
    (none, .v 19 (.move (.t 18))),
    (some (19, true), .v 20 (.move (.t 1))),
    (some (19, true), .v 21 (.iadr none (.int .i64) (.t 20) (.k (.int .i64 (0))))),
    (some (19, true), .load 22 (.int .i64) (.t 21)),
    (some (19, true), .v 23 (.cmp .eq (.t 22) (.k (.int .i64 (0))))),
    (none, .v 24 (.pick (.t 19) (.t 23) (.k (.bool false)))),
    (none, .v 25 (.move (.t 24))),
    (some (25, true), .v 26 (.move (.t 1))),
    (some (25, true), .v 27 (.iadr none (.int .i64) (.t 26) (.k (.int .i64 (1))))),
    (some (25, true), .load 28 (.int .i64) (.t 27)),
    (some (25, true), .v 29 (.cmp .eq (.t 28) (.k (.int .i64 (2))))),
    (none, .v 30 (.pick (.t 25) (.t 29) (.k (.bool false)))),
    (none, .v 0 (.move (.t 30)))])
  .ret)))
def nt_l16_awake : Nat := 31
def rs_l16_awake : List RV := [.tmp 0]
/-- pontage/span.Ends -/
abbrev f_span_Ends : FuncId := 18
def ac_span_Ends : AC :=
  (.seq
  (.region 0 [
    (none, .v 4 (.move (.k (.sl T57 [] .full)))),
    (none, .v 5 (.move (.k (.int .i64 (0)))))])
  (.seq
  (.region 1 [
    (none, .v 17 (.move (.t 0))),
    (none, .v 18 (.move (.t 1))),
    (none, .callP (some 19) 12 [.t 17, .t 18] 0 1 true),
    (none, .v 16 (.move (.t 19))),
    (none, .v 20 (.ext (.t 16) 0)),
    (none, .v 21 (.ext (.t 16) 1)),
    (none, .v 6 (.move (.t 20))),
    (none, .v 7 (.move (.t 21)))])
  (.seq
  (.seq
  (.region 0 [
    (none, .v 22 (.move (.t 7))),
    (none, .v 23 (.cmp .ne (.t 22) (.k (.int .i64 (0)))))])
  (.cond (.t 23)
    (.seq
    (.region 0 [
      (none, .v 24 (.move (.t 7))),
      (none, .v 4 (.move (.k (.sl T57 [] .full)))),
      (none, .v 5 (.move (.t 24)))])
    .ret)
    .skip))
  (.seq
  (.region 1 [
    (none, .mk 8 0 T57 (.k (.sl T57 [] .full)))])
  (.seq
  (.seq
  (.region 0 [
    (none, .v 25 (.move (.t 1))),
    (none, .v 26 (.len false (.t 25))),
    (none, .v 27 (.move (.k (.int .i64 (0)))))])
  (.block 0
    (.loop [0, 6, 8, 25, 26, 27]
      (.seq
      (.region 0 [
        (none, .v 28 (.cmp .lt (.t 27) (.t 26)))])
      (.seq
      (.cond (.t 28)
        .skip
        (.exit 0))
      (.seq
      (.block 1
        (.seq
        (.region 1 [
          (none, .v 29 (.iadr none T49 (.t 25) (.t 27))),
          (none, .load 30 T49 (.t 29)),
          (none, .alloc 10 0 T49),
          (none, .store T49 (.t 10) (.t 30))])
        (.seq
        (.region 0 [
          (none, .load 31 T49 (.t 10)),
          (none, .callP (some 32) 29 [.t 31] 0 0 true),
          (none, .v 33 (.move (.k (.int .i64 (0)))))])
        (.block 2
          (.loop [0, 6, 8, 25, 26, 27, 32, 33]
            (.seq
            (.region 0 [
              (none, .v 34 (.cmp .lt (.t 33) (.k (.int .i64 (2)))))])
            (.seq
            (.cond (.t 34)
              .skip
              (.exit 2))
            (.seq
            (.block 3
              (.seq
              (.region 1 [
                (none, .v 35 (.aidx 2 T72 (.t 32) (.t 33))),
                (none, .alloc 12 0 T72),
                (none, .store T72 (.t 12) (.t 35))])
              (.seq
              (.draw 2 [[], [], [], [], [3], [], [], [], [], [3, 4, 8], [], []] [
                (none, .v 36 (.move (.t 0))),
                (none, .v 37 (.move (.t 6))),
                (none, .v 38 (.fadr T72 0 (.t 12))),
                (none, .load 39 T70 (.t 38)),
                (none, .callP (some 40) 38 [.t 36, .t 37, .t 39] 0 0 false),
                (none, .v 41 (.move (.t 0))),
                (none, .v 42 (.move (.t 6))),
                (none, .v 43 (.fadr T72 2 (.t 12))),
                (none, .load 44 T70 (.t 43)),
                (none, .callP (some 45) 38 [.t 41, .t 42, .t 44] 0 0 false),
                (none, .alloc 13 0 T55),
                (none, .alloc 14 1 T55)] [
                (none, .store T55 (.t 13) (.t 40)),
                (none, .store T55 (.t 14) (.t 45))])
              (.seq
              (.region 1 [
                (none, .v 46 (.fadr T72 0 (.t 12))),
                (none, .v 47 (.fadr T70 0 (.t 46))),
                (none, .load 48 (.int .i64) (.t 47)),
                (none, .v 49 (.fadr T72 0 (.t 12))),
                (none, .v 50 (.fadr T70 1 (.t 49))),
                (none, .load 51 (.int .i64) (.t 50)),
                (none, .load 52 T55 (.t 14)),
                (none, .v 53 (.build T57 [(0, .t 48), (1, .t 51), (2, .k (.int .i64 (1))), (3, .t 52)])),
                (none, .alloc 15 0 T57),
                (none, .store T57 (.t 15) (.t 53))])
              (.seq
              (.seq
              (.region 0 [
                (none, .load 54 T55 (.t 13)),
                (none, .load 55 T55 (.t 14)),
                (none, .callP (some 56) 39 [.t 54, .t 55] 0 0 true)])
              (.cond (.t 56)
                (.draw 0 [[], [], []] [
                  (none, .load 57 T55 (.t 13)),
                  (none, .v 58 (.fadr T57 2 (.t 15))),
                  (none, .store (.int .i64) (.t 58) (.k (.int .i64 (4))))] [
                  (none, .v 59 (.fadr T57 3 (.t 15))),
                  (none, .store T55 (.t 59) (.t 57))])
                .skip))
              (.seq
              (.seq
              (.draw 0 [[], [], [], [], [], [], [], [], [], []] [
                (none, .v 60 (.move (.t 6))),
                (none, .v 61 (.fadr T72 0 (.t 12))),
                (none, .v 62 (.fadr T70 0 (.t 61))),
                (none, .load 63 (.int .i64) (.t 62)),
                (none, .v 64 (.iadr none T59 (.t 60) (.t 63))),
                (none, .v 65 (.fadr T59 2 (.t 64))),
                (none, .load 66 (.int .i64) (.t 65)),
                (none, .v 67 (.fadr T72 0 (.t 12))),
                (none, .v 68 (.fadr T70 1 (.t 67))),
                (none, .load 69 (.int .i64) (.t 68))] [
                (none, .v 70 (.cmp .eq (.t 66) (.t 69)))])
              (.cond (.t 70)
                (.region 0 [
                  (none, .v 71 (.fadr T57 2 (.t 15))),
                  (none, .store (.int .i64) (.t 71) (.k (.int .i64 (3))))])
                .skip))
              (.region 2 [
                (none, .v 72 (.move (.t 8))),
                (none, .load 73 T57 (.t 15)),
                (none, .lit 74 0 T57 1 [(0, .t 73)] false),
                (none, .app 75 1 T57 56 (.t 72) (.t 74) false),
                (none, .v 8 (.move (.t 75)))])))))))
            (.region 0 [
              (none, .v 76 (.add (.t 33) (.k (.int .i64 (1))))),
              (none, .v 33 (.move (.t 76)))])))))))))
      (.region 0 [
        (none, .v 77 (.add (.t 27) (.k (.int .i64 (1))))),
        (none, .v 27 (.move (.t 77)))])))))))
  (.seq
  (.region 0 [
    (none, .v 78 (.move (.t 8))),
    (none, .v 4 (.move (.t 78))),
    (none, .v 5 (.move (.k (.int .i64 (0)))))])
  .ret))))))
def nt_span_Ends : Nat := 79
def rs_span_Ends : List RV := [.tmp 4, .tmp 5]
/-- pontage/pontageref16.Ends -/
abbrev f_r16_Ends : FuncId := 19
def ac_r16_Ends : AC :=
  (.seq
  (.region 0 [
    (none, .v 4 (.move (.k (.sl T57 [] .full)))),
    (none, .v 5 (.move (.k (.int .i64 (0)))))])
  (.seq
  (.region 1 [
    (none, .v 16 (.move (.t 0))),
    (none, .v 17 (.move (.t 1))),
    (none, .callP (some 18) 13 [.t 16, .t 17] 0 1 true),
    (none, .v 15 (.move (.t 18))),
    (none, .v 19 (.ext (.t 15) 0)),
    (none, .v 20 (.ext (.t 15) 1)),
    (none, .v 6 (.move (.t 19))),
    (none, .v 7 (.move (.t 20)))])
  (.seq
  (.seq
  (.region 0 [
    (none, .v 21 (.move (.t 7))),
    (none, .v 22 (.cmp .ne (.t 21) (.k (.int .i64 (0)))))])
  (.cond (.t 22)
    (.seq
    (.region 0 [
      (none, .v 23 (.move (.t 7))),
      (none, .v 4 (.move (.k (.sl T57 [] .full)))),
      (none, .v 5 (.move (.t 23)))])
    .ret)
    .skip))
  (.seq
  (.region 1 [
    (none, .v 24 (.move (.t 1))),
    (none, .callP (some 25) 25 [.t 24] 0 1 true),
    (none, .v 8 (.move (.t 25)))])
  (.seq
  (.region 1 [
    (none, .mk 9 0 T57 (.k (.sl T57 [] .full)))])
  (.seq
  (.seq
  (.region 0 [
    (none, .v 10 (.move (.k (.int .i64 (0)))))])
  (.block 0
    (.loop [0, 6, 8, 9, 10]
      (.seq
      (.seq
      (.region 0 [
        (none, .v 26 (.move (.t 10))),
        (none, .v 27 (.move (.t 8))),
        (none, .v 28 (.len false (.t 27))),
        (none, .v 29 (.cmp .lt (.t 26) (.t 28)))])
      (.cond (.t 29)
        .skip
        (.exit 0)))
      (.seq
      (.block 1
        (.seq
        (.region 1 [
          (none, .v 32 (.move (.t 8))),
          (none, .v 33 (.move (.t 10))),
          (none, .v 34 (.iadr none T63 (.t 32) (.t 33))),
          (none, .load 35 T63 (.t 34)),
          (none, .alloc 11 0 T63),
          (none, .store T63 (.t 11) (.t 35))])
        (.seq
        (.draw 2 [[], [], [], [], [], [], [3, 5], [], [], [], [], [], [], [3, 5, 6, 10, 12], [], []] [
          (none, .v 36 (.move (.t 0))),
          (none, .v 37 (.move (.t 6))),
          (none, .v 38 (.fadr T63 0 (.t 11))),
          (none, .load 39 (.int .i64) (.t 38)),
          (none, .v 40 (.fadr T63 1 (.t 11))),
          (none, .load 41 (.int .i64) (.t 40)),
          (none, .callP (some 42) 33 [.t 36, .t 37, .t 39, .t 41] 0 0 false),
          (none, .v 43 (.move (.t 0))),
          (none, .v 44 (.move (.t 6))),
          (none, .v 45 (.fadr T63 3 (.t 11))),
          (none, .load 46 (.int .i64) (.t 45)),
          (none, .v 47 (.fadr T63 4 (.t 11))),
          (none, .load 48 (.int .i64) (.t 47)),
          (none, .callP (some 49) 33 [.t 43, .t 44, .t 46, .t 48] 0 0 false),
          (none, .alloc 12 0 T55),
          (none, .alloc 13 1 T55)] [
          (none, .store T55 (.t 12) (.t 42)),
          (none, .store T55 (.t 13) (.t 49))])
        (.seq
        (.region 1 [
          (none, .v 50 (.fadr T63 0 (.t 11))),
          (none, .load 51 (.int .i64) (.t 50)),
          (none, .v 52 (.fadr T63 1 (.t 11))),
          (none, .load 53 (.int .i64) (.t 52)),
          (none, .load 54 T55 (.t 13)),
          (none, .v 55 (.build T57 [(0, .t 51), (1, .t 53), (2, .k (.int .i64 (1))), (3, .t 54)])),
          (none, .alloc 14 0 T57),
          (none, .store T57 (.t 14) (.t 55))])
        (.seq
        (.seq
        (.region 0 [
          (none, .load 56 T55 (.t 12)),
          (none, .load 57 T55 (.t 13)),
          (none, .callP (some 58) 27 [.t 56, .t 57] 0 0 true)])
        (.cond (.t 58)
          (.seq
          (.region 0 [
            (none, .v 59 (.fadr T57 2 (.t 14))),
            (none, .store (.int .i64) (.t 59) (.k (.int .i64 (4))))])
          (.region 0 [
            (none, .load 60 T55 (.t 12)),
            (none, .v 61 (.fadr T57 3 (.t 14))),
            (none, .store T55 (.t 61) (.t 60))]))
          .skip))
        (.seq
        (.seq
        (.draw 0 [[], [], [], [], [], [], [], []] [
          (none, .v 62 (.move (.t 6))),
          (none, .v 63 (.fadr T63 0 (.t 11))),
          (none, .load 64 (.int .i64) (.t 63)),
          (none, .v 65 (.iadr none T59 (.t 62) (.t 64))),
          (none, .v 66 (.fadr T59 2 (.t 65))),
          (none, .load 67 (.int .i64) (.t 66)),
          (none, .v 68 (.fadr T63 1 (.t 11))),
          (none, .load 69 (.int .i64) (.t 68))] [
          (none, .v 70 (.cmp .eq (.t 67) (.t 69)))])
        (.cond (.t 70)
          (.region 0 [
            (none, .v 71 (.fadr T57 2 (.t 14))),
            (none, .store (.int .i64) (.t 71) (.k (.int .i64 (3))))])
          .skip))
        (.region 2 [
          (none, .v 72 (.move (.t 9))),
          (none, .load 73 T57 (.t 14)),
          (none, .lit 74 0 T57 1 [(0, .t 73)] false),
          (none, .app 75 1 T57 56 (.t 72) (.t 74) false),
          (none, .v 9 (.move (.t 75)))])))))))
      (.region 0 [
        (none, .v 30 (.move (.t 10))),
        (none, .v 31 (.add (.t 30) (.k (.int .i64 (1))))),
        (none, .v 10 (.move (.t 31)))]))))))
  (.seq
  (.region 0 [
    (none, .v 76 (.move (.t 9))),
    (none, .v 4 (.move (.t 76))),
    (none, .v 5 (.move (.k (.int .i64 (0)))))])
  .ret)))))))
def nt_r16_Ends : Nat := 77
def rs_r16_Ends : List RV := [.tmp 4, .tmp 5]
/-- pontage/span.Tree -/
abbrev f_span_Tree : FuncId := 20
def ac_span_Tree : AC :=
  (.seq
  (.region 0 [
    (none, .v 4 (.move (.k (.sl (.int .i64) [] .full)))),
    (none, .v 5 (.move (.k (.int .i64 (0)))))])
  (.seq
  (.region 1 [
    (none, .v 11 (.move (.t 0))),
    (none, .v 12 (.move (.t 1))),
    (none, .callP (some 13) 18 [.t 11, .t 12] 0 1 true),
    (none, .v 10 (.move (.t 13))),
    (none, .v 14 (.ext (.t 10) 0)),
    (none, .v 15 (.ext (.t 10) 1)),
    (none, .v 6 (.move (.t 14))),
    (none, .v 7 (.move (.t 15)))])
  (.seq
  (.seq
  (.region 0 [
    (none, .v 16 (.move (.t 7))),
    (none, .v 17 (.cmp .ne (.t 16) (.k (.int .i64 (0)))))])
  (.cond (.t 17)
    (.seq
    (.region 0 [
      (none, .v 18 (.move (.t 7))),
      (none, .v 4 (.move (.k (.sl (.int .i64) [] .full)))),
      (none, .v 5 (.move (.t 18)))])
    .ret)
    .skip))
  (.seq
  (.region 1 [
    (none, .mk 8 0 (.int .i64) (.k (.sl (.int .i64) [] .full)))])
  (.seq
  (.seq
  (.region 0 [
    (none, .v 19 (.move (.t 1))),
    (none, .v 20 (.len false (.t 19))),
    (none, .v 21 (.move (.k (.int .i64 (0)))))])
  (.block 0
    (.loop [6, 8, 20, 21]
      (.seq
      (.region 0 [
        (none, .v 22 (.cmp .lt (.t 21) (.t 20)))])
      (.seq
      (.cond (.t 22)
        .skip
        (.exit 0))
      (.seq
      (.block 1
        (.seq
        (.region 0 [
          (none, .v 23 (.move (.t 21))),
          (none, .v 9 (.move (.t 23)))])
        (.seq
        (.region 0 [
          (none, .v 24 (.move (.t 6))),
          (none, .v 25 (.move (.t 9))),
          (none, .v 26 (.mul (.k (.int .i64 (2))) (.t 25))),
          (none, .v 27 (.iadr none T57 (.t 24) (.t 26))),
          (none, .v 28 (.fadr T57 2 (.t 27))),
          (none, .load 29 (.int .i64) (.t 28)),
          (none, .v 30 (.cmp .ne (.t 29) (.k (.int .i64 (1))))),
          (none, .v 31 (.move (.t 30))),
          (some (31, true), .v 32 (.move (.t 6))),
          (some (31, true), .v 33 (.move (.t 9))),
          (some (31, true), .v 34 (.mul (.k (.int .i64 (2))) (.t 33))),
          (some (31, true), .v 35 (.add (.t 34) (.k (.int .i64 (1))))),
          (some (31, true), .v 36 (.iadr none T57 (.t 32) (.t 35))),
          (some (31, true), .v 37 (.fadr T57 2 (.t 36))),
          (some (31, true), .load 38 (.int .i64) (.t 37)),
          (some (31, true), .v 39 (.cmp .ne (.t 38) (.k (.int .i64 (1))))),
          (none, .v 40 (.pick (.t 31) (.t 39) (.k (.bool false))))])
        (.cond (.t 40)
          (.region 2 [
            (none, .v 41 (.move (.t 8))),
            (none, .v 42 (.move (.t 9))),
            (none, .lit 43 0 (.int .i64) 1 [(0, .t 42)] false),
            (none, .app 44 1 (.int .i64) 8 (.t 41) (.t 43) false),
            (none, .v 8 (.move (.t 44)))])
          .skip))))
      (.region 0 [
        (none, .v 45 (.add (.t 21) (.k (.int .i64 (1))))),
        (none, .v 21 (.move (.t 45)))])))))))
  (.seq
  (.region 0 [
    (none, .v 46 (.move (.t 8))),
    (none, .v 4 (.move (.t 46))),
    (none, .v 5 (.move (.k (.int .i64 (0)))))])
  .ret))))))
def nt_span_Tree : Nat := 47
def rs_span_Tree : List RV := [.tmp 4, .tmp 5]
/-- pontage/pontageref16.Tree -/
abbrev f_r16_Tree : FuncId := 21
def ac_r16_Tree : AC :=
  (.seq
  (.region 0 [
    (none, .v 4 (.move (.k (.sl (.int .i64) [] .full)))),
    (none, .v 5 (.move (.k (.int .i64 (0)))))])
  (.seq
  (.region 1 [
    (none, .v 11 (.move (.t 0))),
    (none, .v 12 (.move (.t 1))),
    (none, .callP (some 13) 19 [.t 11, .t 12] 0 1 true),
    (none, .v 10 (.move (.t 13))),
    (none, .v 14 (.ext (.t 10) 0)),
    (none, .v 15 (.ext (.t 10) 1)),
    (none, .v 6 (.move (.t 14))),
    (none, .v 7 (.move (.t 15)))])
  (.seq
  (.seq
  (.region 0 [
    (none, .v 16 (.move (.t 7))),
    (none, .v 17 (.cmp .ne (.t 16) (.k (.int .i64 (0)))))])
  (.cond (.t 17)
    (.seq
    (.region 0 [
      (none, .v 18 (.move (.t 7))),
      (none, .v 4 (.move (.k (.sl (.int .i64) [] .full)))),
      (none, .v 5 (.move (.t 18)))])
    .ret)
    .skip))
  (.seq
  (.region 1 [
    (none, .mk 8 0 (.int .i64) (.k (.sl (.int .i64) [] .full)))])
  (.seq
  (.seq
  (.region 0 [
    (none, .v 9 (.move (.k (.int .i64 (0)))))])
  (.block 0
    (.loop [6, 8, 9]
      (.seq
      (.seq
      (.region 0 [
        (none, .v 19 (.move (.t 9))),
        (none, .v 20 (.add (.t 19) (.k (.int .i64 (1))))),
        (none, .v 21 (.move (.t 6))),
        (none, .v 22 (.len false (.t 21))),
        (none, .v 23 (.cmp .lt (.t 20) (.t 22)))])
      (.cond (.t 23)
        .skip
        (.exit 0)))
      (.seq
      (.block 1
        (.seq
        (.region 0 [
          (none, .v 26 (.move (.t 6))),
          (none, .v 27 (.move (.t 9))),
          (none, .v 28 (.iadr none T57 (.t 26) (.t 27))),
          (none, .v 29 (.fadr T57 2 (.t 28))),
          (none, .load 30 (.int .i64) (.t 29)),
          (none, .v 31 (.cmp .ne (.t 30) (.k (.int .i64 (1))))),
          (none, .v 32 (.move (.t 31))),
          (some (32, true), .v 33 (.move (.t 6))),
          (some (32, true), .v 34 (.move (.t 9))),
          (some (32, true), .v 35 (.add (.t 34) (.k (.int .i64 (1))))),
          (some (32, true), .v 36 (.iadr none T57 (.t 33) (.t 35))),
          (some (32, true), .v 37 (.fadr T57 2 (.t 36))),
          (some (32, true), .load 38 (.int .i64) (.t 37)),
          (some (32, true), .v 39 (.cmp .ne (.t 38) (.k (.int .i64 (1))))),
          (none, .v 40 (.pick (.t 32) (.t 39) (.k (.bool false))))])
        (.cond (.t 40)
          (.region 2 [
            (none, .v 41 (.move (.t 8))),
            (none, .v 42 (.move (.t 9))),
            (none, .v 43 (.quo (.t 42) (.k (.int .i64 (2))))),
            (none, .lit 44 0 (.int .i64) 1 [(0, .t 43)] false),
            (none, .app 45 1 (.int .i64) 8 (.t 41) (.t 44) false),
            (none, .v 8 (.move (.t 45)))])
          .skip)))
      (.region 0 [
        (none, .v 24 (.move (.t 9))),
        (none, .v 25 (.add (.t 24) (.k (.int .i64 (2))))),
        (none, .v 9 (.move (.t 25)))]))))))
  (.seq
  (.region 0 [
    (none, .v 46 (.move (.t 8))),
    (none, .v 4 (.move (.t 46))),
    (none, .v 5 (.move (.k (.int .i64 (0)))))])
  .ret))))))
def nt_r16_Tree : Nat := 47
def rs_r16_Tree : List RV := [.tmp 4, .tmp 5]
/-- pontage/pontagelaw16.sameEnds -/
abbrev f_l16_sameEnds : FuncId := 22
def ac_l16_sameEnds : AC :=
  (.seq
  (.region 0 [
    (none, .v 4 (.move (.k (.bool false))))])
  (.seq
  (.seq
  (.region 0 [
    (none, .v 6 (.move (.t 0))),
    (none, .v 7 (.len false (.t 6))),
    (none, .v 8 (.move (.t 1))),
    (none, .v 9 (.len false (.t 8))),
    (none, .v 10 (.cmp .ne (.t 7) (.t 9)))])
  (.cond (.t 10)
    (.seq
    (.region 0 [
      (none, .v 4 (.move (.k (.bool false))))])
    .ret)
    .skip))
  (.seq
  (.seq
  (.region 0 [
    (none, .v 5 (.move (.k (.int .i64 (0)))))])
  (.block 0
    (.loop [0, 1, 5]
      (.seq
      (.seq
      (.region 0 [
        (none, .v 11 (.move (.t 5))),
        (none, .v 12 (.move (.t 0))),
        (none, .v 13 (.len false (.t 12))),
        (none, .v 14 (.cmp .lt (.t 11) (.t 13)))])
      (.cond (.t 14)
        .skip
        (.exit 0)))
      (.seq
      (.block 1
        (.seq
        (.draw 0 [[], [], [], [], [], [], [], [], [], [], [], [], [], [], [], [], [], [], [], [], [], [], [], [], [], [], [], [], [], [], [], [], [], [], [], [], [], [], [], [], [], [], [], [], [], [], [], []] [
          (none, .v 17 (.move (.t 0))),
          (none, .v 18 (.move (.t 5))),
          (none, .v 19 (.iadr none T57 (.t 17) (.t 18))),
          (none, .v 20 (.fadr T57 0 (.t 19))),
          (none, .load 21 (.int .i64) (.t 20)),
          (none, .v 22 (.move (.t 1))),
          (none, .v 23 (.move (.t 5))),
          (none, .v 24 (.iadr none T57 (.t 22) (.t 23))),
          (none, .v 25 (.fadr T57 0 (.t 24))),
          (none, .load 26 (.int .i64) (.t 25)),
          (none, .v 27 (.cmp .ne (.t 21) (.t 26))),
          (none, .v 28 (.move (.t 27))),
          (some (28, false), .v 29 (.move (.t 0))),
          (some (28, false), .v 30 (.move (.t 5))),
          (some (28, false), .v 31 (.iadr none T57 (.t 29) (.t 30))),
          (some (28, false), .v 32 (.fadr T57 1 (.t 31))),
          (some (28, false), .load 33 (.int .i64) (.t 32)),
          (some (28, false), .v 34 (.move (.t 1))),
          (some (28, false), .v 35 (.move (.t 5))),
          (some (28, false), .v 36 (.iadr none T57 (.t 34) (.t 35))),
          (some (28, false), .v 37 (.fadr T57 1 (.t 36))),
          (some (28, false), .load 38 (.int .i64) (.t 37)),
          (some (28, false), .v 39 (.cmp .ne (.t 33) (.t 38))),
          (none, .v 40 (.pick (.t 28) (.k (.bool true)) (.t 39))),
          (none, .v 41 (.move (.t 40))),
          (some (41, false), .v 42 (.move (.t 0))),
          (some (41, false), .v 43 (.move (.t 5))),
          (some (41, false), .v 44 (.iadr none T57 (.t 42) (.t 43))),
          (some (41, false), .v 45 (.fadr T57 2 (.t 44))),
          (some (41, false), .load 46 (.int .i64) (.t 45)),
          (some (41, false), .v 47 (.move (.t 1))),
          (some (41, false), .v 48 (.move (.t 5))),
          (some (41, false), .v 49 (.iadr none T57 (.t 47) (.t 48))),
          (some (41, false), .v 50 (.fadr T57 2 (.t 49))),
          (some (41, false), .load 51 (.int .i64) (.t 50)),
          (some (41, false), .v 52 (.cmp .ne (.t 46) (.t 51))),
          (none, .v 53 (.pick (.t 41) (.k (.bool true)) (.t 52))),
          (none, .v 54 (.move (.t 53))),
          (some (54, false), .v 55 (.move (.t 0))),
          (some (54, false), .v 56 (.move (.t 5))),
          (some (54, false), .v 57 (.iadr none T57 (.t 55) (.t 56))),
          (some (54, false), .v 58 (.fadr T57 3 (.t 57))),
          (some (54, false), .load 59 T55 (.t 58)),
          (some (54, false), .v 60 (.move (.t 1))),
          (some (54, false), .v 61 (.move (.t 5))),
          (some (54, false), .v 62 (.iadr none T57 (.t 60) (.t 61))),
          (some (54, false), .v 63 (.fadr T57 3 (.t 62))),
          (some (54, false), .load 64 T55 (.t 63))] [
          (some (54, false), .v 65 (.eqT T55 true (.t 59) (.t 64))),
          (none, .v 66 (.pick (.t 54) (.k (.bool true)) (.t 65)))])
        (.cond (.t 66)
          (.seq
          (.region 0 [
            (none, .v 4 (.move (.k (.bool false))))])
          .ret)
          .skip)))
      (.region 0 [
        (none, .v 15 (.move (.t 5))),
        (none, .v 16 (.add (.t 15) (.k (.int .i64 (1))))),
        (none, .v 5 (.move (.t 16)))]))))))
  (.seq
  (.region 0 [
    (none, .v 4 (.move (.k (.bool true))))])
  .ret))))
def nt_l16_sameEnds : Nat := 67
def rs_l16_sameEnds : List RV := [.tmp 4]
/-- pontage/pontagelaw16.sameInts -/
abbrev f_l16_sameInts : FuncId := 23
def ac_l16_sameInts : AC :=
  (.seq
  (.region 0 [
    (none, .v 4 (.move (.k (.bool false))))])
  (.seq
  (.seq
  (.region 0 [
    (none, .v 6 (.move (.t 0))),
    (none, .v 7 (.len false (.t 6))),
    (none, .v 8 (.move (.t 1))),
    (none, .v 9 (.len false (.t 8))),
    (none, .v 10 (.cmp .ne (.t 7) (.t 9)))])
  (.cond (.t 10)
    (.seq
    (.region 0 [
      (none, .v 4 (.move (.k (.bool false))))])
    .ret)
    .skip))
  (.seq
  (.seq
  (.region 0 [
    (none, .v 5 (.move (.k (.int .i64 (0)))))])
  (.block 0
    (.loop [0, 1, 5]
      (.seq
      (.seq
      (.region 0 [
        (none, .v 11 (.move (.t 5))),
        (none, .v 12 (.move (.t 0))),
        (none, .v 13 (.len false (.t 12))),
        (none, .v 14 (.cmp .lt (.t 11) (.t 13)))])
      (.cond (.t 14)
        .skip
        (.exit 0)))
      (.seq
      (.block 1
        (.seq
        (.draw 0 [[], [], [], [], [], [], [], []] [
          (none, .v 17 (.move (.t 0))),
          (none, .v 18 (.move (.t 5))),
          (none, .v 19 (.iadr none (.int .i64) (.t 17) (.t 18))),
          (none, .load 20 (.int .i64) (.t 19)),
          (none, .v 21 (.move (.t 1))),
          (none, .v 22 (.move (.t 5))),
          (none, .v 23 (.iadr none (.int .i64) (.t 21) (.t 22))),
          (none, .load 24 (.int .i64) (.t 23))] [
          (none, .v 25 (.cmp .ne (.t 20) (.t 24)))])
        (.cond (.t 25)
          (.seq
          (.region 0 [
            (none, .v 4 (.move (.k (.bool false))))])
          .ret)
          .skip)))
      (.region 0 [
        (none, .v 15 (.move (.t 5))),
        (none, .v 16 (.add (.t 15) (.k (.int .i64 (1))))),
        (none, .v 5 (.move (.t 16)))]))))))
  (.seq
  (.region 0 [
    (none, .v 4 (.move (.k (.bool true))))])
  .ret))))
def nt_l16_sameInts : Nat := 26
def rs_l16_sameInts : List RV := [.tmp 4]
/-- pontage/pontageref16.Sides -/
abbrev f_r16_Sides : FuncId := 25
def ac_r16_Sides : AC :=
  (.seq
  (.region 0 [
    (none, .v 2 (.move (.k (.sl T63 [] .full))))])
  (.seq
  (.region 1 [
    (none, .mk 3 0 T63 (.k (.sl T63 [] .full)))])
  (.seq
  (.seq
  (.region 0 [
    (none, .v 4 (.move (.k (.int .i64 (0)))))])
  (.block 0
    (.loop [0, 3, 4]
      (.seq
      (.seq
      (.region 0 [
        (none, .v 6 (.move (.t 4))),
        (none, .v 7 (.move (.t 0))),
        (none, .v 8 (.len false (.t 7))),
        (none, .v 9 (.cmp .lt (.t 6) (.t 8)))])
      (.cond (.t 9)
        .skip
        (.exit 0)))
      (.seq
      (.block 1
        (.seq
        (.region 1 [
          (none, .v 12 (.move (.t 0))),
          (none, .v 13 (.move (.t 4))),
          (none, .v 14 (.iadr none T49 (.t 12) (.t 13))),
          (none, .load 15 T49 (.t 14)),
          (none, .alloc 5 0 T49),
          (none, .store T49 (.t 5) (.t 15))])
        (.region 2 [
          (none, .v 16 (.move (.t 3))),
          (none, .v 17 (.fadr T49 0 (.t 5))),
          (none, .load 18 (.int .i64) (.t 17)),
          (none, .v 19 (.fadr T49 1 (.t 5))),
          (none, .load 20 (.int .i64) (.t 19)),
          (none, .v 21 (.fadr T49 4 (.t 5))),
          (none, .load 22 (.int .u32) (.t 21)),
          (none, .v 23 (.fadr T49 2 (.t 5))),
          (none, .load 24 (.int .i64) (.t 23)),
          (none, .v 25 (.fadr T49 3 (.t 5))),
          (none, .load 26 (.int .i64) (.t 25)),
          (none, .v 27 (.build T63 [(0, .t 18), (1, .t 20), (2, .t 22), (3, .t 24), (4, .t 26)])),
          (none, .v 28 (.fadr T49 2 (.t 5))),
          (none, .load 29 (.int .i64) (.t 28)),
          (none, .v 30 (.fadr T49 3 (.t 5))),
          (none, .load 31 (.int .i64) (.t 30)),
          (none, .v 32 (.fadr T49 5 (.t 5))),
          (none, .load 33 (.int .u32) (.t 32)),
          (none, .v 34 (.fadr T49 0 (.t 5))),
          (none, .load 35 (.int .i64) (.t 34)),
          (none, .v 36 (.fadr T49 1 (.t 5))),
          (none, .load 37 (.int .i64) (.t 36)),
          (none, .v 38 (.build T63 [(0, .t 29), (1, .t 31), (2, .t 33), (3, .t 35), (4, .t 37)])),
          (none, .lit 39 0 T63 2 [(0, .t 27), (1, .t 38)] false),
          (none, .app 40 1 T63 40 (.t 16) (.t 39) false),
          (none, .v 3 (.move (.t 40)))])))
      (.region 0 [
        (none, .v 10 (.move (.t 4))),
        (none, .v 11 (.add (.t 10) (.k (.int .i64 (1))))),
        (none, .v 4 (.move (.t 11)))]))))))
  (.seq
  (.region 0 [
    (none, .v 41 (.move (.t 3))),
    (none, .v 2 (.move (.t 41)))])
  .ret))))
def nt_r16_Sides : Nat := 42
def rs_r16_Sides : List RV := [.tmp 2]
/-- pontage/pontageref16.PortID -/
abbrev f_r16_PortID : FuncId := 26
def ac_r16_PortID : AC :=
  (.seq
  (.region 0 [
    (none, .v 2 (.move (.k (.int .u16 (0)))))])
  (.seq
  (.region 0 [
    (none, .v 3 (.move (.t 0))),
    (none, .v 4 (.add (.k (.int .i64 (32769))) (.t 3))),
    (none, .v 5 (.conv .u16 (.t 4))),
    (none, .v 2 (.move (.t 5)))])
  .ret))
def nt_r16_PortID : Nat := 6
def rs_r16_PortID : List RV := [.tmp 2]
/-- pontage/pontageref06.Better -/
abbrev f_r06_Better : FuncId := 27
def ac_r06_Better : AC :=
  (.seq
  (.region 0 [
    (none, .boxc 2 T55 (.t 0)),
    (none, .boxc 3 T55 (.t 1)),
    (none, .v 4 (.move (.k (.bool false))))])
  (.seq
  (.seq
  (.region 0 [
    (none, .v 5 (.fadr T55 0 (.t 2))),
    (none, .load 6 (.int .u64) (.t 5)),
    (none, .v 7 (.fadr T55 0 (.t 3))),
    (none, .load 8 (.int .u64) (.t 7)),
    (none, .v 9 (.cmp .ne (.t 6) (.t 8)))])
  (.cond (.t 9)
    (.seq
    (.region 0 [
      (none, .v 10 (.fadr T55 0 (.t 2))),
      (none, .load 11 (.int .u64) (.t 10)),
      (none, .v 12 (.fadr T55 0 (.t 3))),
      (none, .load 13 (.int .u64) (.t 12)),
      (none, .v 14 (.cmp .lt (.t 11) (.t 13))),
      (none, .v 4 (.move (.t 14)))])
    .ret)
    .skip))
  (.seq
  (.seq
  (.region 0 [
    (none, .v 15 (.fadr T55 1 (.t 2))),
    (none, .load 16 (.int .u32) (.t 15)),
    (none, .v 17 (.fadr T55 1 (.t 3))),
    (none, .load 18 (.int .u32) (.t 17)),
    (none, .v 19 (.cmp .ne (.t 16) (.t 18)))])
  (.cond (.t 19)
    (.seq
    (.region 0 [
      (none, .v 20 (.fadr T55 1 (.t 2))),
      (none, .load 21 (.int .u32) (.t 20)),
      (none, .v 22 (.fadr T55 1 (.t 3))),
      (none, .load 23 (.int .u32) (.t 22)),
      (none, .v 24 (.cmp .lt (.t 21) (.t 23))),
      (none, .v 4 (.move (.t 24)))])
    .ret)
    .skip))
  (.seq
  (.seq
  (.region 0 [
    (none, .v 25 (.fadr T55 2 (.t 2))),
    (none, .load 26 (.int .u64) (.t 25)),
    (none, .v 27 (.fadr T55 2 (.t 3))),
    (none, .load 28 (.int .u64) (.t 27)),
    (none, .v 29 (.cmp .ne (.t 26) (.t 28)))])
  (.cond (.t 29)
    (.seq
    (.region 0 [
      (none, .v 30 (.fadr T55 2 (.t 2))),
      (none, .load 31 (.int .u64) (.t 30)),
      (none, .v 32 (.fadr T55 2 (.t 3))),
      (none, .load 33 (.int .u64) (.t 32)),
      (none, .v 34 (.cmp .lt (.t 31) (.t 33))),
      (none, .v 4 (.move (.t 34)))])
    .ret)
    .skip))
  (.seq
  (.region 0 [
    (none, .v 35 (.fadr T55 3 (.t 2))),
    (none, .load 36 (.int .u16) (.t 35)),
    (none, .v 37 (.fadr T55 3 (.t 3))),
    (none, .load 38 (.int .u16) (.t 37)),
    (none, .v 39 (.cmp .lt (.t 36) (.t 38))),
    (none, .v 4 (.move (.t 39)))])
  .ret)))))
def nt_r06_Better : Nat := 40
def rs_r06_Better : List RV := [.tmp 4]
/-- pontage/span.Nodes$1 -/
abbrev f_span_Nodes_1 : FuncId := 28
def ac_span_Nodes_1 : AC :=
  (.seq
  (.region 0 [
    (none, .boxc 2 T59 (.t 0)),
    (none, .boxc 3 T59 (.t 1)),
    (none, .v 4 (.move (.k (.bool false))))])
  (.seq
  (.region 0 [
    (none, .v 5 (.fadr T59 0 (.t 2))),
    (none, .load 6 (.int .u64) (.t 5)),
    (none, .v 7 (.fadr T59 0 (.t 3))),
    (none, .load 8 (.int .u64) (.t 7)),
    (none, .v 9 (.cmp .lt (.t 6) (.t 8))),
    (none, .v 10 (.move (.t 9))),
    (some (10, false), .v 11 (.fadr T59 0 (.t 2))),
    (some (10, false), .load 12 (.int .u64) (.t 11)),
    (some (10, false), .v 13 (.fadr T59 0 (.t 3))),
    (some (10, false), .load 14 (.int .u64) (.t 13)),
    (some (10, false), .v 15 (.cmp .eq (.t 12) (.t 14))),
    (some (10, false), .v 16 (.move (.t 15))),
    (some (16, true), .v 17 (.fadr T59 1 (.t 2))),
    (some (16, true), .load 18 (.int .u32) (.t 17)),
    (some (16, true), .v 19 (.fadr T59 1 (.t 3))),
    (some (16, true), .load 20 (.int .u32) (.t 19)),
    (some (16, true), .v 21 (.cmp .lt (.t 18) (.t 20))),
    (some (10, false), .v 22 (.pick (.t 16) (.t 21) (.k (.bool false)))),
    (none, .v 23 (.pick (.t 10) (.k (.bool true)) (.t 22))),
    (none, .v 4 (.move (.t 23)))])
  .ret))
def nt_span_Nodes_1 : Nat := 24
def rs_span_Nodes_1 : List RV := [.tmp 4]
/-- pontage/span.sides -/
abbrev f_span_sides : FuncId := 29
def ac_span_sides : AC :=
  (.seq
  (.region 1 [
    (none, .boxc 1 T49 (.t 0)),
    (none, .alloc 2 0 T74)])
  (.seq
  (.draw 2 [[], [], [], [], [], [], [], [], [], [], [], [], [1, 3, 10, 11]] [
    (none, .v 5 (.fadr T49 0 (.t 1))),
    (none, .load 6 (.int .i64) (.t 5)),
    (none, .v 7 (.fadr T49 1 (.t 1))),
    (none, .load 8 (.int .i64) (.t 7)),
    (none, .v 9 (.build T70 [(0, .t 6), (1, .t 8)])),
    (none, .v 10 (.fadr T49 2 (.t 1))),
    (none, .load 11 (.int .i64) (.t 10)),
    (none, .v 12 (.fadr T49 3 (.t 1))),
    (none, .load 13 (.int .i64) (.t 12)),
    (none, .v 14 (.build T70 [(0, .t 11), (1, .t 13)])),
    (none, .alloc 3 0 T70),
    (none, .alloc 4 1 T70),
    (none, .store T70 (.t 3) (.t 9))] [
    (none, .store T70 (.t 4) (.t 14))])
  (.seq
  (.region 0 [
    (none, .load 15 T70 (.t 3)),
    (none, .v 16 (.fadr T49 4 (.t 1))),
    (none, .load 17 (.int .u32) (.t 16)),
    (none, .load 18 T70 (.t 4)),
    (none, .v 19 (.build T72 [(0, .t 15), (1, .t 17), (2, .t 18)])),
    (none, .load 20 T70 (.t 4)),
    (none, .v 21 (.fadr T49 5 (.t 1))),
    (none, .load 22 (.int .u32) (.t 21)),
    (none, .load 23 T70 (.t 3)),
    (none, .v 24 (.build T72 [(0, .t 20), (1, .t 22), (2, .t 23)])),
    (none, .v 25 (.build T74 [(0, .t 19), (1, .t 24)])),
    (none, .store T74 (.t 2) (.t 25))])
  .ret)))
def nt_span_sides : Nat := 26
def rs_span_sides : List RV := [.cell 2 T74]
/-- pontage/span.rootPort -/
abbrev f_span_rootPort : FuncId := 30
def ac_span_rootPort : AC :=
  (.seq
  (.region 0 [
    (none, .v 8 (.move (.k (.int .i64 (0)))))])
  (.seq
  (.region 0 [
    (none, .v 9 (.move (.k (.int .i64 (-1)))))])
  (.seq
  (.region 1 [
    (none, .alloc 10 0 T55)])
  (.seq
  (.seq
  (.region 0 [
    (none, .v 17 (.move (.t 1))),
    (none, .v 18 (.len false (.t 17))),
    (none, .v 19 (.move (.k (.int .i64 (0)))))])
  (.block 0
    (.loop [0, 2, 3, 9, 10, 17, 18, 19]
      (.seq
      (.region 0 [
        (none, .v 20 (.cmp .lt (.t 19) (.t 18)))])
      (.seq
      (.cond (.t 20)
        .skip
        (.exit 0))
      (.seq
      (.block 1
        (.seq
        (.region 1 [
          (none, .v 21 (.iadr none T49 (.t 17) (.t 19))),
          (none, .load 22 T49 (.t 21)),
          (none, .alloc 12 0 T49),
          (none, .store T49 (.t 12) (.t 22))])
        (.seq
        (.region 0 [
          (none, .load 23 T49 (.t 12)),
          (none, .callP (some 24) 29 [.t 23] 0 0 true),
          (none, .v 25 (.move (.k (.int .i64 (0)))))])
        (.block 2
          (.loop [0, 2, 3, 9, 10, 17, 18, 19, 24, 25]
            (.seq
            (.region 0 [
              (none, .v 26 (.cmp .lt (.t 25) (.k (.int .i64 (2)))))])
            (.seq
            (.cond (.t 26)
              .skip
              (.exit 2))
            (.seq
            (.block 3
              (.seq
              (.region 1 [
                (none, .v 27 (.aidx 2 T72 (.t 24) (.t 25))),
                (none, .alloc 14 0 T72),
                (none, .store T72 (.t 14) (.t 27))])
              (.seq
              (.seq
              (.region 0 [
                (none, .v 28 (.fadr T72 0 (.t 14))),
                (none, .v 29 (.fadr T70 0 (.t 28))),
                (none, .load 30 (.int .i64) (.t 29)),
                (none, .v 31 (.move (.t 3))),
                (none, .v 32 (.cmp .ne (.t 30) (.t 31)))])
              (.cond (.t 32)
                (.exit 3)
                .skip))
              (.seq
              (.draw 1 [[], [], [], [], [3], [], [], [3, 4, 6], []] [
                (none, .v 33 (.move (.t 0))),
                (none, .v 34 (.move (.t 2))),
                (none, .v 35 (.fadr T72 2 (.t 14))),
                (none, .load 36 T70 (.t 35)),
                (none, .callP (some 37) 38 [.t 33, .t 34, .t 36] 0 0 false),
                (none, .v 38 (.fadr T72 1 (.t 14))),
                (none, .load 39 (.int .u32) (.t 38)),
                (none, .callP (some 40) 40 [.t 37, .t 39] 0 0 false),
                (none, .alloc 15 0 T55)] [
                (none, .store T55 (.t 15) (.t 40))])
              (.seq
              (.region 0 [
                (none, .load 41 T55 (.t 15)),
                (none, .load 42 T55 (.t 10)),
                (none, .callP (some 43) 41 [.t 41, .t 42] 0 0 true),
                (none, .v 16 (.move (.t 43)))])
              (.seq
              (.region 0 [
                (none, .v 44 (.move (.t 9))),
                (none, .v 45 (.cmp .lt (.t 44) (.k (.int .i64 (0))))),
                (none, .v 46 (.move (.t 45))),
                (some (46, false), .v 47 (.move (.t 16))),
                (some (46, false), .v 48 (.cmp .lt (.t 47) (.k (.int .i64 (0))))),
                (none, .v 49 (.pick (.t 46) (.k (.bool true)) (.t 48))),
                (none, .v 50 (.move (.t 49))),
                (some (50, false), .v 51 (.move (.t 16))),
                (some (50, false), .v 52 (.cmp .eq (.t 51) (.k (.int .i64 (0))))),
                (some (50, false), .v 53 (.move (.t 52))),
                (some (53, true), .v 54 (.fadr T72 0 (.t 14))),
                (some (53, true), .v 55 (.fadr T70 1 (.t 54))),
                (some (53, true), .load 56 (.int .i64) (.t 55)),
                (some (53, true), .v 57 (.move (.t 9))),
                (some (53, true), .v 58 (.cmp .lt (.t 56) (.t 57))),
                (some (50, false), .v 59 (.pick (.t 53) (.t 58) (.k (.bool false)))),
                (none, .v 60 (.pick (.t 50) (.k (.bool true)) (.t 59)))])
              (.cond (.t 60)
                (.draw 0 [[], [], [], [], []] [
                  (none, .v 61 (.fadr T72 0 (.t 14))),
                  (none, .v 62 (.fadr T70 1 (.t 61))),
                  (none, .load 63 (.int .i64) (.t 62)),
                  (none, .load 64 T55 (.t 15)),
                  (none, .v 9 (.move (.t 63)))] [
                  (none, .store T55 (.t 10) (.t 64))])
                .skip)))))))
            (.region 0 [
              (none, .v 65 (.add (.t 25) (.k (.int .i64 (1))))),
              (none, .v 25 (.move (.t 65)))])))))))))
      (.region 0 [
        (none, .v 66 (.add (.t 19) (.k (.int .i64 (1))))),
        (none, .v 19 (.move (.t 66)))])))))))
  (.seq
  (.region 0 [
    (none, .v 67 (.move (.t 9))),
    (none, .v 8 (.move (.t 67)))])
  .ret)))))
def nt_span_rootPort : Nat := 68
def rs_span_rootPort : List RV := [.tmp 8]
/-- pontage/pontageref16.roots -/
abbrev f_r16_roots : FuncId := 31
def ac_r16_roots : AC :=
  (.seq
  (.region 0 [
    (none, .v 4 (.move (.k (.sl T59 [] .full))))])
  (.seq
  (.region 1 [
    (none, .mk 5 500 T59 (.k (.sl T59 [] .full)))])
  (.seq
  (.seq
  (.region 0 [
    (none, .v 6 (.move (.k (.int .i64 (0)))))])
  (.block 0
    (.loop [0, 1, 5, 6]
      (.seq
      (.seq
      (.region 0 [
        (none, .v 12 (.move (.t 6))),
        (none, .v 13 (.move (.t 0))),
        (none, .v 14 (.len false (.t 13))),
        (none, .v 15 (.cmp .lt (.t 12) (.t 14)))])
      (.cond (.t 15)
        .skip
        (.exit 0)))
      (.seq
      (.block 1
        (.region 2 [
          (none, .v 18 (.move (.t 5))),
          (none, .v 19 (.move (.t 0))),
          (none, .v 20 (.move (.t 6))),
          (none, .v 21 (.iadr none (.int .u64) (.t 19) (.t 20))),
          (none, .load 22 (.int .u64) (.t 21)),
          (none, .v 23 (.build T59 [(0, .t 22), (2, .k (.int .i64 (-1)))])),
          (none, .lit 24 0 T59 1 [(0, .t 23)] false),
          (none, .app 25 1 T59 24 (.t 18) (.t 24) false),
          (none, .v 5 (.move (.t 25)))]))
      (.region 0 [
        (none, .v 16 (.move (.t 6))),
        (none, .v 17 (.add (.t 16) (.k (.int .i64 (1))))),
        (none, .v 6 (.move (.t 17)))]))))))
  (.seq
  (.seq
  (.tregion 5 0 [
    (none, .v 7 (.move (.k (.int .i64 (0)))))])
  (.block 2
    (.loop [0, 1, 5, 7]
      (.seq
      (.seq
      (.region 0 [
        (none, .v 26 (.move (.t 7))),
        (none, .v 27 (.move (.t 0))),
        (none, .v 28 (.len false (.t 27))),
        (none, .v 29 (.cmp .lt (.t 26) (.t 28)))])
      (.cond (.t 29)
        .skip
        (.exit 2)))
      (.seq
      (.block 3
        (.seq
        (.region 0 [
          (none, .v 8 (.move (.k (.int .i64 (0)))))])
        (.block 4
          (.loop [0, 1, 5, 7, 8]
            (.seq
            (.seq
            (.region 0 [
              (none, .v 32 (.move (.t 8))),
              (none, .v 33 (.move (.t 1))),
              (none, .v 34 (.len false (.t 33))),
              (none, .v 35 (.cmp .lt (.t 32) (.t 34)))])
            (.cond (.t 35)
              .skip
              (.exit 4)))
            (.seq
            (.block 5
              (.seq
              (.draw 2 [[], [], [], [], [], [], [], [], [], [], [], [], [], [], [], [], [], [], [5, 7, 16, 17]] [
                (none, .v 38 (.move (.t 5))),
                (none, .v 39 (.move (.t 1))),
                (none, .v 40 (.move (.t 8))),
                (none, .v 41 (.iadr none T63 (.t 39) (.t 40))),
                (none, .v 42 (.fadr T63 0 (.t 41))),
                (none, .load 43 (.int .i64) (.t 42)),
                (none, .v 44 (.iadr none T59 (.t 38) (.t 43))),
                (none, .load 45 T59 (.t 44)),
                (none, .v 46 (.move (.t 5))),
                (none, .v 47 (.move (.t 1))),
                (none, .v 48 (.move (.t 8))),
                (none, .v 49 (.iadr none T63 (.t 47) (.t 48))),
                (none, .v 50 (.fadr T63 3 (.t 49))),
                (none, .load 51 (.int .i64) (.t 50)),
                (none, .v 52 (.iadr none T59 (.t 46) (.t 51))),
                (none, .load 53 T59 (.t 52)),
                (none, .alloc 9 0 T59),
                (none, .alloc 10 1 T59),
                (none, .store T59 (.t 9) (.t 45))] [
                (none, .store T59 (.t 10) (.t 53))])
              (.seq
              (.draw 0 [[], [], [], [], [], [], []] [
                (none, .v 54 (.fadr T59 1 (.t 10))),
                (none, .load 55 (.int .u32) (.t 54)),
                (none, .v 56 (.move (.t 1))),
                (none, .v 57 (.move (.t 8))),
                (none, .v 58 (.iadr none T63 (.t 56) (.t 57))),
                (none, .v 59 (.fadr T63 2 (.t 58))),
                (none, .load 60 (.int .u32) (.t 59))] [
                (none, .v 61 (.add (.t 55) (.t 60))),
                (none, .v 11 (.move (.t 61)))])
              (.seq
              (.region 0 [
                (none, .v 62 (.fadr T59 0 (.t 10))),
                (none, .load 63 (.int .u64) (.t 62)),
                (none, .v 64 (.fadr T59 0 (.t 9))),
                (none, .load 65 (.int .u64) (.t 64)),
                (none, .v 66 (.cmp .lt (.t 63) (.t 65))),
                (none, .v 67 (.move (.t 66))),
                (some (67, false), .v 68 (.fadr T59 0 (.t 10))),
                (some (67, false), .load 69 (.int .u64) (.t 68)),
                (some (67, false), .v 70 (.fadr T59 0 (.t 9))),
                (some (67, false), .load 71 (.int .u64) (.t 70)),
                (some (67, false), .v 72 (.cmp .eq (.t 69) (.t 71))),
                (some (67, false), .v 73 (.move (.t 72))),
                (some (73, true), .v 74 (.move (.t 11))),
                (some (73, true), .v 75 (.fadr T59 1 (.t 9))),
                (some (73, true), .load 76 (.int .u32) (.t 75)),
                (some (73, true), .v 77 (.cmp .lt (.t 74) (.t 76))),
                (some (67, false), .v 78 (.pick (.t 73) (.t 77) (.k (.bool false)))),
                (none, .v 79 (.pick (.t 67) (.k (.bool true)) (.t 78)))])
              (.cond (.t 79)
                (.seq
                (.region 0 [
                  (none, .v 80 (.fadr T59 0 (.t 10))),
                  (none, .load 81 (.int .u64) (.t 80)),
                  (none, .v 82 (.fadr T59 0 (.t 9))),
                  (none, .store (.int .u64) (.t 82) (.t 81))])
                (.seq
                (.region 0 [
                  (none, .v 83 (.move (.t 11))),
                  (none, .v 84 (.fadr T59 1 (.t 9))),
                  (none, .store (.int .u32) (.t 84) (.t 83))])
                (.draw 0 [[], [], [], [], [], [], []] [
                  (none, .v 85 (.move (.t 5))),
                  (none, .v 86 (.move (.t 1))),
                  (none, .v 87 (.move (.t 8))),
                  (none, .v 88 (.iadr none T63 (.t 86) (.t 87))),
                  (none, .v 89 (.fadr T63 0 (.t 88))),
                  (none, .load 90 (.int .i64) (.t 89)),
                  (none, .load 91 T59 (.t 9))] [
                  (none, .v 92 (.iadr none T59 (.t 85) (.t 90))),
                  (none, .store T59 (.t 92) (.t 91))])))
                .skip)))))
            (.region 0 [
              (none, .v 36 (.move (.t 8))),
              (none, .v 37 (.add (.t 36) (.k (.int .i64 (1))))),
              (none, .v 8 (.move (.t 37)))])))))))
      (.region 0 [
        (none, .v 30 (.move (.t 7))),
        (none, .v 31 (.add (.t 30) (.k (.int .i64 (1))))),
        (none, .v 7 (.move (.t 31)))]))))))
  (.seq
  (.region 0 [
    (none, .v 93 (.move (.t 5))),
    (none, .v 4 (.move (.t 93)))])
  .ret)))))
def nt_r16_roots : Nat := 94
def rs_r16_roots : List RV := [.tmp 4]
/-- pontage/pontageref06.Add -/
abbrev f_r06_Add : FuncId := 32
def ac_r06_Add : AC :=
  (.seq
  (.region 2 [
    (none, .box 2 0 T55 (.t 0)),
    (none, .alloc 4 1 T55)])
  (.seq
  (.region 0 [
    (none, .v 5 (.fadr T55 1 (.t 2))),
    (none, .load 6 (.int .u32) (.t 5)),
    (none, .v 7 (.move (.t 1))),
    (none, .v 8 (.add (.t 6) (.t 7))),
    (none, .v 9 (.fadr T55 1 (.t 2))),
    (none, .store (.int .u32) (.t 9) (.t 8))])
  (.seq
  (.region 0 [
    (none, .load 10 T55 (.t 2)),
    (none, .store T55 (.t 4) (.t 10))])
  .ret)))
def nt_r06_Add : Nat := 11
def rs_r06_Add : List RV := [.cell 4 T55]
/-- pontage/pontageref16.Told -/
abbrev f_r16_Told : FuncId := 33
def ac_r16_Told : AC :=
  (.seq
  (.region 1 [
    (none, .alloc 8 0 T55)])
  (.seq
  (.draw 0 [[], [], [], [], [], [], [], [], [], [], [], [], [], [], [], []] [
    (none, .v 9 (.move (.t 1))),
    (none, .v 10 (.move (.t 2))),
    (none, .v 11 (.iadr none T59 (.t 9) (.t 10))),
    (none, .v 12 (.fadr T59 0 (.t 11))),
    (none, .load 13 (.int .u64) (.t 12)),
    (none, .v 14 (.move (.t 1))),
    (none, .v 15 (.move (.t 2))),
    (none, .v 16 (.iadr none T59 (.t 14) (.t 15))),
    (none, .v 17 (.fadr T59 1 (.t 16))),
    (none, .load 18 (.int .u32) (.t 17)),
    (none, .v 19 (.move (.t 0))),
    (none, .v 20 (.move (.t 2))),
    (none, .v 21 (.iadr none (.int .u64) (.t 19) (.t 20))),
    (none, .load 22 (.int .u64) (.t 21)),
    (none, .v 23 (.move (.t 3))),
    (none, .callP (some 24) 26 [.t 23] 0 0 false)] [
    (none, .v 25 (.build T55 [(0, .t 13), (1, .t 18), (2, .t 22), (3, .t 24)])),
    (none, .store T55 (.t 8) (.t 25))])
  .ret))
def nt_r16_Told : Nat := 26
def rs_r16_Told : List RV := [.cell 8 T55]
/-- pontage/span.within -/
abbrev f_span_within : FuncId := 34
def ac_span_within : AC :=
  (.seq
  (.region 0 [
    (none, .v 6 (.move (.k (.bool false))))])
  (.seq
  (.region 0 [
    (none, .v 7 (.move (.t 0))),
    (none, .v 8 (.move (.t 1))),
    (none, .v 9 (.cmp .ge (.t 7) (.t 8))),
    (none, .v 10 (.move (.t 9))),
    (some (10, true), .v 11 (.move (.t 0))),
    (some (10, true), .v 12 (.move (.t 2))),
    (some (10, true), .v 13 (.cmp .le (.t 11) (.t 12))),
    (none, .v 14 (.pick (.t 10) (.t 13) (.k (.bool false)))),
    (none, .v 6 (.move (.t 14)))])
  .ret))
def nt_span_within : Nat := 15
def rs_span_within : List RV := [.tmp 6]
/-- pontage/vector.Address -/
abbrev f_vector_Address : FuncId := 35
def ac_vector_Address : AC :=
  (.seq
  (.region 1 [
    (none, .alloc 2 0 T83)])
  (.seq
  (.region 1 [
    (none, .alloc 3 0 T83)])
  (.seq
  (.seq
  (.region 0 [
    (none, .v 5 (.move (.k (.int .i64 (0)))))])
  (.block 0
    (.loop [0, 2, 3, 5]
      (.seq
      (.region 0 [
        (none, .v 6 (.cmp .lt (.t 5) (.k (.int .i64 (6)))))])
      (.seq
      (.cond (.t 6)
        .skip
        (.exit 0))
      (.seq
      (.block 1
        (.seq
        (.region 0 [
          (none, .v 7 (.move (.t 5))),
          (none, .v 4 (.move (.t 7)))])
        (.region 0 [
          (none, .v 8 (.move (.t 4))),
          (none, .v 9 (.sub (.k (.int .i64 (5))) (.t 8))),
          (none, .v 10 (.move (.t 0))),
          (none, .v 11 (.move (.t 4))),
          (none, .v 12 (.conv .u64 (.t 11))),
          (none, .v 13 (.mul (.k (.int .u64 (8))) (.t 12))),
          (none, .v 14 (.shr (.t 10) (.t 13))),
          (none, .v 15 (.conv .u8 (.t 14))),
          (none, .v 16 (.iadr (some 6) (.int .u8) (.t 3) (.t 9))),
          (none, .store (.int .u8) (.t 16) (.t 15))])))
      (.region 0 [
        (none, .v 17 (.add (.t 5) (.k (.int .i64 (1))))),
        (none, .v 5 (.move (.t 17)))])))))))
  (.seq
  (.region 0 [
    (none, .load 18 T83 (.t 3)),
    (none, .store T83 (.t 2) (.t 18))])
  .ret))))
def nt_vector_Address : Nat := 19
def rs_vector_Address : List RV := [.cell 2 T83]
/-- pontage/pontageref06.SameAddress -/
abbrev f_r06_SameAddress : FuncId := 36
def ac_r06_SameAddress : AC :=
  (.seq
  (.region 0 [
    (none, .v 4 (.move (.k (.bool false))))])
  (.seq
  (.region 0 [
    (none, .v 5 (.move (.t 0))),
    (none, .v 6 (.rem (.t 5) (.k (.int .u64 (281474976710656))))),
    (none, .v 7 (.move (.t 1))),
    (none, .v 8 (.rem (.t 7) (.k (.int .u64 (281474976710656))))),
    (none, .v 9 (.cmp .eq (.t 6) (.t 8))),
    (none, .v 4 (.move (.t 9)))])
  .ret))
def nt_r06_SameAddress : Nat := 10
def rs_r06_SameAddress : List RV := [.tmp 4]
/-- pontage/pontagelaw16.edge -/
abbrev f_l16_edge : FuncId := 37
def ac_l16_edge : AC :=
  (.seq
  (.region 1 [
    (none, .alloc 8 0 T49)])
  (.seq
  (.region 0 [
    (none, .v 9 (.move (.t 0))),
    (none, .v 10 (.move (.t 1))),
    (none, .v 11 (.move (.t 2))),
    (none, .v 12 (.move (.t 3))),
    (none, .v 13 (.build T49 [(0, .t 9), (1, .t 10), (2, .t 11), (3, .t 12), (4, .k (.int .u32 (10))), (5, .k (.int .u32 (10)))])),
    (none, .store T49 (.t 8) (.t 13))])
  .ret))
def nt_l16_edge : Nat := 14
def rs_l16_edge : List RV := [.cell 8 T49]
/-- pontage/span.told -/
abbrev f_span_told : FuncId := 38
def ac_span_told : AC :=
  (.seq
  (.region 1 [
    (none, .boxc 5 T70 (.t 2)),
    (none, .alloc 6 0 T55)])
  (.seq
  (.region 1 [
    (none, .v 8 (.move (.t 1))),
    (none, .v 9 (.fadr T70 0 (.t 5))),
    (none, .load 10 (.int .i64) (.t 9)),
    (none, .v 11 (.iadr none T59 (.t 8) (.t 10))),
    (none, .load 12 T59 (.t 11)),
    (none, .alloc 7 0 T59),
    (none, .store T59 (.t 7) (.t 12))])
  (.seq
  (.draw 0 [[], [], [], [], [], [], [], [], [], [], [], [], []] [
    (none, .v 13 (.fadr T59 0 (.t 7))),
    (none, .load 14 (.int .u64) (.t 13)),
    (none, .v 15 (.fadr T59 1 (.t 7))),
    (none, .load 16 (.int .u32) (.t 15)),
    (none, .v 17 (.move (.t 0))),
    (none, .v 18 (.fadr T70 0 (.t 5))),
    (none, .load 19 (.int .i64) (.t 18)),
    (none, .v 20 (.iadr none (.int .u64) (.t 17) (.t 19))),
    (none, .load 21 (.int .u64) (.t 20)),
    (none, .v 22 (.fadr T70 1 (.t 5))),
    (none, .load 23 (.int .i64) (.t 22)),
    (none, .v 24 (.add (.k (.int .i64 (32769))) (.t 23))),
    (none, .v 25 (.conv .u16 (.t 24)))] [
    (none, .v 26 (.build T55 [(0, .t 14), (1, .t 16), (2, .t 21), (3, .t 25)])),
    (none, .store T55 (.t 6) (.t 26))])
  .ret)))
def nt_span_told : Nat := 27
def rs_span_told : List RV := [.cell 6 T55]
/-- pontage/vector.Better -/
abbrev f_vector_Better : FuncId := 39
def ac_vector_Better : AC :=
  (.seq
  (.region 0 [
    (none, .boxc 2 T55 (.t 0)),
    (none, .boxc 3 T55 (.t 1)),
    (none, .v 4 (.move (.k (.bool false))))])
  (.seq
  (.region 0 [
    (none, .load 5 T55 (.t 2)),
    (none, .load 6 T55 (.t 3)),
    (none, .callP (some 7) 41 [.t 5, .t 6] 0 0 true),
    (none, .v 8 (.cmp .lt (.t 7) (.k (.int .i64 (0))))),
    (none, .v 4 (.move (.t 8)))])
  .ret))
def nt_vector_Better : Nat := 9
def rs_vector_Better : List RV := [.tmp 4]
/-- pontage/vector.Add -/
abbrev f_vector_Add : FuncId := 40
def ac_vector_Add : AC :=
  (.seq
  (.region 2 [
    (none, .box 2 0 T55 (.t 0)),
    (none, .alloc 4 1 T55)])
  (.seq
  (.region 0 [
    (none, .v 5 (.fadr T55 1 (.t 2))),
    (none, .load 6 (.int .u32) (.t 5)),
    (none, .v 7 (.move (.t 1))),
    (none, .v 8 (.add (.t 6) (.t 7))),
    (none, .v 9 (.fadr T55 1 (.t 2))),
    (none, .store (.int .u32) (.t 9) (.t 8))])
  (.seq
  (.region 0 [
    (none, .load 10 T55 (.t 2)),
    (none, .store T55 (.t 4) (.t 10))])
  .ret)))
def nt_vector_Add : Nat := 11
def rs_vector_Add : List RV := [.cell 4 T55]
/-- pontage/vector.Compare -/
abbrev f_vector_Compare : FuncId := 41
def ac_vector_Compare : AC :=
  (.seq
  (.region 0 [
    (none, .boxc 2 T55 (.t 0)),
    (none, .boxc 3 T55 (.t 1)),
    (none, .v 4 (.move (.k (.int .i64 (0)))))])
  (.seq
  (.region 0 [
    (none, .v 5 (.move (.k (.int .i64 (0)))))])
  (.seq
  .skip
  (.seq
  (.seq
  (.region 0 [
    (none, .v 8 (.fadr T55 0 (.t 2))),
    (none, .load 9 (.int .u64) (.t 8)),
    (none, .v 10 (.fadr T55 0 (.t 3))),
    (none, .load 11 (.int .u64) (.t 10)),
    (none, .v 12 (.build T92 [(0, .t 9), (1, .t 11)])),
    (none, .v 13 (.fadr T55 1 (.t 2))),
    (none, .load 14 (.int .u32) (.t 13)),
    (none, .v 15 (.conv .u64 (.t 14))),
    (none, .v 16 (.fadr T55 1 (.t 3))),
    (none, .load 17 (.int .u32) (.t 16)),
    (none, .v 18 (.conv .u64 (.t 17))),
    (none, .v 19 (.build T92 [(0, .t 15), (1, .t 18)])),
    (none, .v 20 (.fadr T55 2 (.t 2))),
    (none, .load 21 (.int .u64) (.t 20)),
    (none, .v 22 (.fadr T55 2 (.t 3))),
    (none, .load 23 (.int .u64) (.t 22)),
    (none, .v 24 (.build T92 [(0, .t 21), (1, .t 23)])),
    (none, .v 25 (.fadr T55 3 (.t 2))),
    (none, .load 26 (.int .u16) (.t 25)),
    (none, .v 27 (.conv .u64 (.t 26))),
    (none, .v 28 (.fadr T55 3 (.t 3))),
    (none, .load 29 (.int .u16) (.t 28)),
    (none, .v 30 (.conv .u64 (.t 29))),
    (none, .v 31 (.build T92 [(0, .t 27), (1, .t 30)])),
    (none, .v 32 (.build T93 [(0, .t 12), (1, .t 19), (2, .t 24), (3, .t 31)])),
    (none, .v 33 (.move (.k (.int .i64 (0)))))])
  (.block 0
    (.loop [5, 32, 33]
      (.seq
      (.region 0 [
        (none, .v 34 (.cmp .lt (.t 33) (.k (.int .i64 (4)))))])
      (.seq
      (.cond (.t 34)
        .skip
        (.exit 0))
      (.seq
      (.block 1
        (.seq
        (.region 1 [
          (none, .v 35 (.aidx 4 T92 (.t 32) (.t 33))),
          (none, .alloc 7 0 T92),
          (none, .store T92 (.t 7) (.t 35))])
        (.block 2
          (.seq
          (.region 0 [
            (none, .v 37 (.iadr (some 2) (.int .u64) (.t 7) (.k (.int .i64 (0))))),
            (none, .load 38 (.int .u64) (.t 37)),
            (none, .v 39 (.iadr (some 2) (.int .u64) (.t 7) (.k (.int .i64 (1))))),
            (none, .load 40 (.int .u64) (.t 39)),
            (none, .v 41 (.cmp .lt (.t 38) (.t 40))),
            (none, .v 36 (.move (.t 41)))])
          (.cond (.t 36)
            (.seq
            (.region 0 [
              (none, .v 5 (.move (.k (.int .i64 (-1)))))])
            (.exit 0))
            (.seq
            (.region 0 [
              (none, .v 43 (.iadr (some 2) (.int .u64) (.t 7) (.k (.int .i64 (0))))),
              (none, .load 44 (.int .u64) (.t 43)),
              (none, .v 45 (.iadr (some 2) (.int .u64) (.t 7) (.k (.int .i64 (1))))),
              (none, .load 46 (.int .u64) (.t 45)),
              (none, .v 47 (.cmp .gt (.t 44) (.t 46))),
              (none, .v 42 (.move (.t 47)))])
            (.cond (.t 42)
              (.seq
              (.region 0 [
                (none, .v 5 (.move (.k (.int .i64 (1)))))])
              (.exit 0))
              .skip)))))))
      (.region 0 [
        (none, .v 48 (.add (.t 33) (.k (.int .i64 (1))))),
        (none, .v 33 (.move (.t 48)))])))))))
  (.seq
  (.region 0 [
    (none, .v 49 (.move (.t 5))),
    (none, .v 4 (.move (.t 49)))])
  .ret)))))
def nt_vector_Compare : Nat := 50
def rs_vector_Compare : List RV := [.tmp 4]
theorem mixed : prog.follows .mixedOrders = true := by kernel_rfl
theorem ok_l16_SpanEnds : funOK prog f_l16_SpanEnds nt_l16_SpanEnds rs_l16_SpanEnds ac_l16_SpanEnds = true := by kernel_rfl
theorem ok_l16_short : funOK prog f_l16_short nt_l16_short rs_l16_short ac_l16_short = true := by kernel_rfl
theorem ok_l16_few : funOK prog f_l16_few nt_l16_few rs_l16_few ac_l16_few = true := by kernel_rfl
theorem ok_span_Nodes : funOK prog f_span_Nodes nt_span_Nodes rs_span_Nodes ac_span_Nodes = true := by kernel_rfl
theorem ok_r16_Nodes : funOK prog f_r16_Nodes nt_r16_Nodes rs_r16_Nodes ac_r16_Nodes = true := by kernel_rfl
theorem ok_span_Check : funOK prog f_span_Check nt_span_Check rs_span_Check ac_span_Check = true := by kernel_rfl
theorem ok_r16_Check : funOK prog f_r16_Check nt_r16_Check rs_r16_Check ac_r16_Check = true := by kernel_rfl
theorem ok_l16_awake : funOK prog f_l16_awake nt_l16_awake rs_l16_awake ac_l16_awake = true := by kernel_rfl
theorem ok_span_Ends : funOK prog f_span_Ends nt_span_Ends rs_span_Ends ac_span_Ends = true := by kernel_rfl
theorem ok_r16_Ends : funOK prog f_r16_Ends nt_r16_Ends rs_r16_Ends ac_r16_Ends = true := by kernel_rfl
theorem ok_span_Tree : funOK prog f_span_Tree nt_span_Tree rs_span_Tree ac_span_Tree = true := by kernel_rfl
theorem ok_r16_Tree : funOK prog f_r16_Tree nt_r16_Tree rs_r16_Tree ac_r16_Tree = true := by kernel_rfl
theorem ok_l16_sameEnds : funOK prog f_l16_sameEnds nt_l16_sameEnds rs_l16_sameEnds ac_l16_sameEnds = true := by kernel_rfl
theorem ok_l16_sameInts : funOK prog f_l16_sameInts nt_l16_sameInts rs_l16_sameInts ac_l16_sameInts = true := by kernel_rfl
theorem ok_r16_Sides : funOK prog f_r16_Sides nt_r16_Sides rs_r16_Sides ac_r16_Sides = true := by kernel_rfl
theorem ok_r16_PortID : funOK prog f_r16_PortID nt_r16_PortID rs_r16_PortID ac_r16_PortID = true := by kernel_rfl
theorem ok_r06_Better : funOK prog f_r06_Better nt_r06_Better rs_r06_Better ac_r06_Better = true := by kernel_rfl
theorem ok_span_Nodes_1 : funOK prog f_span_Nodes_1 nt_span_Nodes_1 rs_span_Nodes_1 ac_span_Nodes_1 = true := by kernel_rfl
theorem ok_span_sides : funOK prog f_span_sides nt_span_sides rs_span_sides ac_span_sides = true := by kernel_rfl
theorem ok_span_rootPort : funOK prog f_span_rootPort nt_span_rootPort rs_span_rootPort ac_span_rootPort = true := by kernel_rfl
theorem ok_r16_roots : funOK prog f_r16_roots nt_r16_roots rs_r16_roots ac_r16_roots = true := by kernel_rfl
theorem ok_r06_Add : funOK prog f_r06_Add nt_r06_Add rs_r06_Add ac_r06_Add = true := by kernel_rfl
theorem ok_r16_Told : funOK prog f_r16_Told nt_r16_Told rs_r16_Told ac_r16_Told = true := by kernel_rfl
theorem ok_span_within : funOK prog f_span_within nt_span_within rs_span_within ac_span_within = true := by kernel_rfl
theorem ok_vector_Address : funOK prog f_vector_Address nt_vector_Address rs_vector_Address ac_vector_Address = true := by kernel_rfl
theorem ok_r06_SameAddress : funOK prog f_r06_SameAddress nt_r06_SameAddress rs_r06_SameAddress ac_r06_SameAddress = true := by kernel_rfl
theorem ok_l16_edge : funOK prog f_l16_edge nt_l16_edge rs_l16_edge ac_l16_edge = true := by kernel_rfl
theorem ok_span_told : funOK prog f_span_told nt_span_told rs_span_told ac_span_told = true := by kernel_rfl
theorem ok_vector_Better : funOK prog f_vector_Better nt_vector_Better rs_vector_Better ac_vector_Better = true := by kernel_rfl
theorem ok_vector_Add : funOK prog f_vector_Add nt_vector_Add rs_vector_Add ac_vector_Add = true := by kernel_rfl
theorem ok_vector_Compare : funOK prog f_vector_Compare nt_vector_Compare rs_vector_Compare ac_vector_Compare = true := by kernel_rfl
def orc : Orc where
  p := fun f args => match f with
    | 3 => pLSp args
    | 4 => pLSp args
    | 5 => pLSp args
    | 6 => pLSp args
    | 7 => pLSp args
    | 8 => pLSpT args
    | 9 => pLSp args
    | 10 => pShortI args
    | 11 => pFewE args
    | 12 => pNodes args
    | 13 => pNodes args
    | 14 => pSpCheck args
    | 15 => pSpCheck args
    | 16 => pSameNs args
    | 17 => pAwakeS args
    | 18 => pEnds args
    | 19 => pEnds args
    | 20 => pTree args
    | 21 => pTree args
    | 22 => pSameEs args
    | 23 => pSameIs args
    | 24 => pJoined args
    | 25 => pSidesD args
    | 26 => pPortID args
    | 27 => pBetter args
    | 29 => pSides2 args
    | 30 => pRootPort args
    | 31 => pRoots args
    | 32 => pAddV args
    | 33 => pTold2 args
    | 34 => pWithin args
    | 35 => pAddr args
    | 36 => pSameAddr args
    | 37 => pEdge args
    | 38 => pTold args
    | 39 => pBetter args
    | 40 => pAddV args
    | 41 => pCompare args
    | _ => .bad
  s := fun f args h => match f with
    | 28 => sLess args h
    | _ => .bad
  fu := fun f => match f with
    | _ => false
end Go.Vc.Seat
