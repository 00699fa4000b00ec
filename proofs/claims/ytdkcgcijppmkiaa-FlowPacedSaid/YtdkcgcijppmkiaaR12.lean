/- One text of a proof that a law answers true for every input. No condition. -/
import Derived.Test.YtdkcgcijppmkiaaProg
import Derived.Test.YtdkcgcijppmkiaaEvE
import Derived.KernelRfl
set_option linter.unusedVariables false
set_option linter.unusedSimpArgs false
set_option linter.constructorNameAsVariable false
namespace Go.Proofs.Ytdkcgcijppmkiaa.IR
open Go Go.Proofs.Ytdkcgcijppmkiaa.Ev
/-- sandglass/sandglasslaw12.FlowWaits -/
def e3 : IFunc := ⟨144, 4,
 .seq (.reg [.op (some 4) none (.box (.t 0)),
 .op (some 8) none (.mv (.c (.b false)))])
 (.seq (.seq (.reg [.op (some 18) none (.ldn 5 (.t 4)),
 .call (some 19) none (.c (.fn (.func 8) [] [])) [(.t 18)],
 .op (some 20) none (.un .not (.t 19))])
 (.cond (.t 20)
 (.seq (.reg [.call (some 21) none (.c (.fn (.func 9) [] [])) [],
 .op (some 8) none (.mv (.t 21))])
 (.ret))
 (.skip)))
 (.seq (.reg [.op (some 22) none (.ldn 5 (.t 4)),
 .call (some 23) none (.c (.fn (.func 10) [] [])) [(.c (.i .u64 1)), (.c (.i .u64 1)), (.t 22)],
 .op (some 9) none (.box (.c (.agg [(.i .u64 0), (.i .u64 0), (.i .u64 0), (.i .i64 0), (.i .u64 0), (.i .u64 0), (.i .u64 0)]))),
 .op none none (.st 7 (.t 9) (.t 23))])
 (.seq (.reg [.op (some 24) none (.mv (.t 1)),
 .op (some 25) none (.ibin .rem (.t 24) (.c (.i .u64 1099511627777))),
 .op (some 26) none (.fad 2 (.t 9)),
 .op none none (.st 1 (.t 26) (.t 25))])
 (.seq (.reg [.op (some 27) none (.ldn 7 (.t 9)),
 .op (some 28) none (.ldn 5 (.t 4)),
 .call (some 29) none (.c (.fn (.func 11) [] [])) [(.t 27), (.t 28)],
 .op (some 30) none (.mv (.t 3)),
 .op (some 31) none (.conv .u64 (.t 30)),
 .op (some 10) none (.mv (.t 29)),
 .op (some 11) none (.mv (.c (.i .u64 0))),
 .op (some 12) none (.mv (.t 31))])
 (.seq (.seq (.reg [.op (some 32) none (.mv (.t 2)),
 .op (some 33) none (.mv (.t 2)),
 .op (some 34) none (.len 2 (.t 33)),
 .op (some 35) none (.mx true (.t 34) [(.c (.i .i64 30))]),
 .op (some 36) none (.slice 1 (.t 32) none (some (.t 35))),
 .op (some 37) none (.len 2 (.t 36)),
 .op (some 38) none (.mv (.c (.i .i64 0)))])
 (.block 0
 (.loop
 (.seq (.reg [.op (some 39) none (.ibin .lss (.t 38) (.t 37))])
 (.seq (.cond (.t 39)
 (.skip)
 (.exit 0))
 (.seq (.block 1
 (.seq (.reg [.op (some 40) none (.iad 1 (.t 36) (.t 38)),
 .op (some 41) none (.ld1 (.t 40)),
 .op (some 14) none (.mv (.t 41))])
 (.seq (.block 2
 (.loop
 (.seq (.seq (.reg [.op (some 42) none (.fad 3 (.t 9)),
 .op (some 43) none (.ld1 (.t 42)),
 .op (some 44) none (.ibin .leq (.t 43) (.c (.i .i64 0)))])
 (.cond (.t 44)
 (.skip)
 (.exit 2)))
 (.block 3
 (.reg [.op (some 45) none (.ldn 7 (.t 9)),
 .op (some 46) none (.ldn 5 (.t 4)),
 .call (some 47) none (.c (.fn (.func 12) [] [])) [(.t 45), (.t 46)],
 .op none none (.st 7 (.t 9) (.t 47))])))))
 (.seq (.reg [.op (some 48) none (.ldn 7 (.t 9)),
 .op (some 49) none (.mv (.t 12)),
 .call (some 50) none (.c (.fn (.func 13) [] [])) [(.t 48), (.t 49)],
 .op (some 12) none (.mv (.t 50))])
 (.seq (.reg [.op (some 51) none (.fad 3 (.t 9)),
 .op (some 52) none (.ld1 (.t 51)),
 .op (some 53) none (.ibin .sub (.t 52) (.c (.i .i64 1))),
 .op (some 54) none (.mv (.t 14)),
 .op (some 55) none (.conv .i64 (.t 54)),
 .op (some 56) none (.ibin .sub (.t 53) (.t 55)),
 .op (some 15) none (.mv (.t 56))])
 (.seq (.reg [.op (some 58) none (.ldn 7 (.t 9)),
 .op (some 59) none (.mv (.t 14)),
 .op (some 60) none (.conv .i64 (.t 59)),
 .op (some 61) none (.ibin .add (.c (.i .i64 1)) (.t 60)),
 .op (some 62) none (.mv (.t 12)),
 .op (some 63) none (.ldn 5 (.t 4)),
 .call (some 64) none (.c (.fn (.func 14) [] [])) [(.t 58), (.t 61), (.t 62), (.t 63)],
 .op (some 57) none (.mv (.t 64)),
 .op (some 65) none (.ext (.t 57) 0),
 .op (some 66) none (.ext (.t 57) 1),
 .op (some 16) none (.box (.c (.agg [(.i .u64 0), (.i .u64 0), (.i .u64 0), (.i .i64 0), (.i .u64 0), (.i .u64 0), (.i .u64 0)]))),
 .op none none (.st 7 (.t 16) (.t 65)),
 .op (some 17) none (.mv (.t 66))])
 (.seq (.seq (.reg [.op (some 67) none (.mv (.t 17)),
 .op (some 68) none (.ibin .neq (.t 67) (.c (.i .i64 0)))])
 (.cond (.t 68)
 (.seq (.reg [.op (some 8) none (.mv (.c (.b false)))])
 (.ret))
 (.skip)))
 (.seq (.reg [.op (some 69) none (.mv (.t 11)),
 .op (some 70) none (.mv (.t 14)),
 .op (some 71) none (.conv .u64 (.t 70)),
 .op (some 72) none (.ibin .add (.c (.i .u64 1)) (.t 71)),
 .op (some 73) none (.ibin .add (.t 69) (.t 72)),
 .op (some 11) none (.mv (.t 73))])
 (.seq (.block 4
 (.seq (.reg [.op (some 75) none (.mv (.t 10)),
 .op (some 76) none (.ibin .eql (.t 75) (.c (.i .u64 0))),
 .op (some 74) none (.mv (.t 76))])
 (.cond (.t 74)
 (.seq (.reg [.op (some 77) none (.fad 4 (.t 16)),
 .op (some 78) none (.ld1 (.t 77)),
 .op (some 79) none (.fad 4 (.t 9)),
 .op (some 80) none (.ld1 (.t 79)),
 .op (some 81) none (.ibin .neq (.t 78) (.t 80)),
 .op (some 82) none (.mv (.t 81)),
 .op (some 83) (some (82, false)) (.fad 5 (.t 16)),
 .op (some 84) (some (82, false)) (.ld1 (.t 83)),
 .op (some 85) (some (82, false)) (.ibin .neq (.t 84) (.c (.i .u64 0))),
 .op (some 86) none (.pick (.t 82) (.c (.b true)) (.t 85)),
 .op (some 87) none (.mv (.t 86)),
 .op (some 88) (some (87, false)) (.fad 3 (.t 16)),
 .op (some 89) (some (87, false)) (.ld1 (.t 88)),
 .op (some 90) (some (87, false)) (.mv (.t 15)),
 .op (some 91) (some (87, false)) (.ibin .neq (.t 89) (.t 90)),
 .op (some 92) none (.pick (.t 87) (.c (.b true)) (.t 91))])
 (.cond (.t 92)
 (.seq (.reg [.op (some 8) none (.mv (.c (.b false)))])
 (.ret))
 (.skip)))
 (.seq (.reg [.op (some 94) none (.mv (.t 10)),
 .op (some 95) none (.fad 4 (.t 4)),
 .op (some 96) none (.ld1 (.t 95)),
 .op (some 97) none (.ibin .lss (.t 94) (.t 96)),
 .op (some 98) none (.mv (.t 97)),
 .op (some 99) (some (98, false)) (.mv (.t 15)),
 .op (some 100) (some (98, false)) (.ibin .leq (.t 99) (.c (.i .i64 0))),
 .op (some 101) none (.pick (.t 98) (.c (.b true)) (.t 100)),
 .op (some 93) none (.mv (.t 101))])
 (.cond (.t 93)
 (.seq (.seq (.dreg [.op (some 102) none (.fad 4 (.t 16)),
 .op (some 103) none (.ld1 (.t 102)),
 .op (some 104) none (.fad 4 (.t 9)),
 .op (some 105) none (.ld1 (.t 104)),
 .op (some 106) none (.mv (.t 12)),
 .op (some 107) none (.mv (.t 11)),
 .op (some 108) none (.mv (.t 10)),
 .call (some 109) none (.c (.fn (.func 16) [] [])) [(.t 107), (.t 108)],
 .call (some 110) none (.c (.fn (.func 15) [] [])) [(.t 106), (.t 109)],
 .op (some 111) none (.mx false (.t 105) [(.t 110)]),
 .op (some 112) none (.ibin .neq (.t 103) (.t 111)),
 .op (some 113) none (.mv (.t 112)),
 .op (some 114) (some (113, false)) (.fad 5 (.t 16)),
 .op (some 115) (some (113, false)) (.ld1 (.t 114)),
 .op (some 116) (some (113, false)) (.ibin .neq (.t 115) (.c (.i .u64 0))),
 .op (some 117) none (.pick (.t 113) (.c (.b true)) (.t 116)),
 .op (some 118) none (.mv (.t 117)),
 .op (some 119) (some (118, false)) (.fad 3 (.t 16)),
 .op (some 120) (some (118, false)) (.ld1 (.t 119)),
 .op (some 121) (some (118, false)) (.ibin .gtr (.t 120) (.c (.i .i64 0))),
 .op (some 122) none (.pick (.t 118) (.c (.b true)) (.t 121))]
 [0, 1, 2, 3, 4, 5, 6, 7, 8, 9, 10, 11, 12, 13, 14, 15, 16, 17, 18, 19, 20] [0, 1, 0, 4, 0, 0, 0, 96, 240, 508, 1023, 2047, 4095, 8191, 16383, 32767, 65535, 131071, 262143, 524287, 1048575])
 (.cond (.t 122)
 (.seq (.reg [.op (some 8) none (.mv (.c (.b false)))])
 (.ret))
 (.skip)))
 (.reg [.op (some 11) none (.mv (.c (.i .u64 0)))]))
 (.seq (.reg [.op (some 124) none (.fad 4 (.t 16)),
 .op (some 125) none (.ld1 (.t 124)),
 .op (some 126) none (.fad 4 (.t 9)),
 .op (some 127) none (.ld1 (.t 126)),
 .op (some 128) none (.ibin .neq (.t 125) (.t 127)),
 .op (some 129) none (.mv (.t 128)),
 .op (some 130) (some (129, false)) (.fad 5 (.t 16)),
 .op (some 131) (some (129, false)) (.ld1 (.t 130)),
 .op (some 132) (some (129, false)) (.mv (.t 11)),
 .op (some 133) (some (129, false)) (.ibin .neq (.t 131) (.t 132)),
 .op (some 134) none (.pick (.t 129) (.c (.b true)) (.t 133)),
 .op (some 135) none (.mv (.t 134)),
 .op (some 136) (some (135, false)) (.fad 3 (.t 16)),
 .op (some 137) (some (135, false)) (.ld1 (.t 136)),
 .op (some 138) (some (135, false)) (.mv (.t 15)),
 .op (some 139) (some (135, false)) (.ibin .neq (.t 137) (.t 138)),
 .op (some 140) none (.pick (.t 135) (.c (.b true)) (.t 139)),
 .op (some 123) none (.mv (.t 140))])
 (.cond (.t 123)
 (.seq (.reg [.op (some 8) none (.mv (.c (.b false)))])
 (.ret))
 (.skip))))))))
 (.reg [.op (some 141) none (.ldn 7 (.t 16)),
 .op none none (.st 7 (.t 9) (.t 141))]))))))))))
 (.reg [.op (some 142) none (.ibin .add (.t 38) (.c (.i .i64 1))),
 .op (some 38) none (.mv (.t 142))])))))))
 (.seq (.reg [.call (some 143) none (.c (.fn (.func 9) [] [])) [],
 .op (some 8) none (.mv (.t 143))])
 (.ret))))))),
 [.t 8]⟩
def k3 : List Nat := [0, 1, 2, 3, 4, 8, 9, 10, 11, 12, 14, 15, 16, 17, 20, 36, 37, 38, 39, 44, 68, 74, 92, 93, 122, 123]
set_option maxRecDepth 100000 in
theorem c3 : compF Go.Proofs.Try.prog 4 Go.Proofs.Try.f3 = some e3 := by kernel_rfl
/-- sandglass/sandglasslaw12.FlowWrong -/
def e4 : IFunc := ⟨84, 5,
 .seq (.reg [.op (some 5) none (.box (.t 0)),
 .op (some 10) none (.mv (.c (.b false)))])
 (.seq (.seq (.reg [.op (some 15) none (.ldn 5 (.t 5)),
 .call (some 16) none (.c (.fn (.func 8) [] [])) [(.t 15)],
 .op (some 17) none (.un .not (.t 16))])
 (.cond (.t 17)
 (.seq (.reg [.call (some 18) none (.c (.fn (.func 9) [] [])) [],
 .op (some 10) none (.mv (.t 18))])
 (.ret))
 (.skip)))
 (.seq (.reg [.op (some 19) none (.mv (.t 1)),
 .op (some 20) none (.mv (.t 2)),
 .op (some 21) none (.ldn 5 (.t 5)),
 .call (some 22) none (.c (.fn (.func 10) [] [])) [(.t 19), (.t 20), (.t 21)],
 .op (some 11) none (.box (.c (.agg [(.i .u64 0), (.i .u64 0), (.i .u64 0), (.i .i64 0), (.i .u64 0), (.i .u64 0), (.i .u64 0)]))),
 .op none none (.st 7 (.t 11) (.t 22))])
 (.seq (.reg [.op (some 24) none (.ldn 7 (.t 11)),
 .op (some 25) none (.mv (.t 3)),
 .op (some 26) none (.mv (.t 4)),
 .op (some 27) none (.ldn 5 (.t 5)),
 .call (some 28) none (.c (.fn (.func 14) [] [])) [(.t 24), (.t 25), (.t 26), (.t 27)],
 .op (some 23) none (.mv (.t 28)),
 .op (some 29) none (.ext (.t 23) 0),
 .op (some 30) none (.ext (.t 23) 1),
 .op (some 12) none (.box (.c (.agg [(.i .u64 0), (.i .u64 0), (.i .u64 0), (.i .i64 0), (.i .u64 0), (.i .u64 0), (.i .u64 0)]))),
 .op none none (.st 7 (.t 12) (.t 29)),
 .op (some 13) none (.mv (.t 30))])
 (.seq (.seq (.reg [.op (some 31) none (.mv (.t 13)),
 .op (some 32) none (.ibin .eql (.t 31) (.c (.i .i64 0))),
 .op (some 33) none (.mv (.t 3)),
 .op (some 34) none (.ibin .geq (.t 33) (.c (.i .i64 1))),
 .op (some 35) none (.mv (.t 34)),
 .op (some 36) (some (35, true)) (.mv (.t 3)),
 .op (some 37) (some (35, true)) (.ibin .leq (.t 36) (.c (.i .i64 65536))),
 .op (some 38) none (.pick (.t 35) (.t 37) (.c (.b false))),
 .op (some 39) none (.eqn 1 true (.t 32) (.t 38)),
 .op (some 40) none (.mv (.t 39)),
 .op (some 41) (some (40, false)) (.mv (.t 13)),
 .op (some 42) (some (40, false)) (.ibin .neq (.t 41) (.c (.i .i64 0))),
 .op (some 43) (some (40, false)) (.mv (.t 42)),
 .op (some 44) (some (43, true)) (.mv (.t 13)),
 .op (some 45) (some (43, true)) (.ibin .neq (.t 44) (.c (.i .i64 2))),
 .op (some 46) (some (43, true)) (.mv (.t 45)),
 .op (some 47) (some (46, false)) (.ldn 7 (.t 12)),
 .op (some 48) (some (46, false)) (.ldn 7 (.t 11)),
 .op (some 49) (some (46, false)) (.eqs [0, 0, 0, 0, 0, 0, 0] true (.t 47) (.t 48)),
 .op (some 50) (some (43, true)) (.pick (.t 46) (.c (.b true)) (.t 49)),
 .op (some 51) (some (40, false)) (.pick (.t 43) (.t 50) (.c (.b false))),
 .op (some 52) none (.pick (.t 40) (.c (.b true)) (.t 51))])
 (.cond (.t 52)
 (.seq (.reg [.op (some 10) none (.mv (.c (.b false)))])
 (.ret))
 (.skip)))
 (.seq (.reg [.op (some 53) none (.ldn 7 (.t 11)),
 .op (some 54) none (.ldn 5 (.t 5)),
 .call (some 55) none (.c (.fn (.func 12) [] [])) [(.t 53), (.t 54)],
 .op (some 14) none (.box (.c (.agg [(.i .u64 0), (.i .u64 0), (.i .u64 0), (.i .i64 0), (.i .u64 0), (.i .u64 0), (.i .u64 0)]))),
 .op none none (.st 7 (.t 14) (.t 55))])
 (.seq (.reg [.op (some 56) none (.fad 3 (.t 14)),
 .op (some 57) none (.ld1 (.t 56)),
 .op (some 58) none (.fad 0 (.t 5)),
 .op (some 59) none (.ld1 (.t 58)),
 .op (some 60) none (.ibin .sub (.t 57) (.t 59)),
 .op (some 61) none (.fad 3 (.t 14)),
 .op none none (.st 1 (.t 61) (.t 60))])
 (.seq (.reg [.op (some 62) none (.ldn 7 (.t 11)),
 .op (some 63) none (.mv (.t 1)),
 .op (some 64) none (.mv (.t 2)),
 .op (some 65) none (.fad 1 (.t 5)),
 .op (some 66) none (.ld1 (.t 65)),
 .op (some 67) none (.build [(.i .u64 0), (.i .u64 0), (.i .u64 0), (.i .i64 0), (.i .u64 0), (.i .u64 0), (.i .u64 0)] [(0, 1, (.t 63)), (1, 1, (.t 64)), (3, 1, (.t 66))]),
 .op (some 68) none (.eqs [0, 0, 0, 0, 0, 0, 0] false (.t 62) (.t 67)),
 .op (some 69) none (.mv (.t 68)),
 .op (some 70) (some (69, true)) (.ldn 7 (.t 14)),
 .op (some 71) (some (69, true)) (.ldn 7 (.t 11)),
 .op (some 72) (some (69, true)) (.eqs [0, 0, 0, 0, 0, 0, 0] false (.t 70) (.t 71)),
 .op (some 73) none (.pick (.t 69) (.t 72) (.c (.b false))),
 .op (some 74) none (.mv (.t 73)),
 .op (some 75) (some (74, true)) (.ldn 7 (.t 11)),
 .op (some 76) (some (74, true)) (.mv (.t 4)),
 .call (some 77) (some (74, true)) (.c (.fn (.func 13) [] [])) [(.t 75), (.t 76)],
 .op (some 78) (some (74, true)) (.mv (.t 4)),
 .op (some 79) (some (74, true)) (.ibin .eql (.t 77) (.t 78)),
 .op (some 80) none (.pick (.t 74) (.t 79) (.c (.b false))),
 .op (some 81) none (.mv (.t 80)),
 .call (some 82) (some (81, true)) (.c (.fn (.func 9) [] [])) [],
 .op (some 83) none (.pick (.t 81) (.t 82) (.c (.b false))),
 .op (some 10) none (.mv (.t 83))])
 (.ret)))))))),
 [.t 10]⟩
def k4 : List Nat := [0, 1, 2, 3, 4, 5, 10, 11, 12, 13, 14, 17, 52]
set_option maxRecDepth 100000 in
theorem c4 : compF Go.Proofs.Try.prog 5 Go.Proofs.Try.f4 = some e4 := by kernel_rfl
/-- sandglass/sandglasslaw12.FlowRests -/
def e5 : IFunc := ⟨104, 4,
 .seq (.reg [.op (some 4) none (.box (.t 0)),
 .op (some 5) none (.box (.t 1)),
 .op (some 8) none (.mv (.c (.b false)))])
 (.seq (.seq (.reg [.op (some 13) none (.ldn 5 (.t 4)),
 .call (some 14) none (.c (.fn (.func 8) [] [])) [(.t 13)],
 .op (some 15) none (.un .not (.t 14)),
 .op (some 16) none (.mv (.t 15)),
 .op (some 17) (some (16, false)) (.fad 2 (.t 5)),
 .op (some 18) (some (16, false)) (.ld1 (.t 17)),
 .op (some 19) (some (16, false)) (.ibin .gtr (.t 18) (.c (.i .u64 1099511627776))),
 .op (some 20) none (.pick (.t 16) (.c (.b true)) (.t 19)),
 .op (some 21) none (.mv (.t 20)),
 .op (some 22) (some (21, false)) (.fad 3 (.t 5)),
 .op (some 23) (some (21, false)) (.ld1 (.t 22)),
 .op (some 24) (some (21, false)) (.ibin .gtr (.t 23) (.c (.i .i64 1048576))),
 .op (some 25) none (.pick (.t 21) (.c (.b true)) (.t 24)),
 .op (some 26) none (.mv (.t 25)),
 .op (some 27) (some (26, false)) (.fad 3 (.t 5)),
 .op (some 28) (some (26, false)) (.ld1 (.t 27)),
 .op (some 29) (some (26, false)) (.ibin .lss (.t 28) (.c (.i .i64 (-1048576)))),
 .op (some 30) none (.pick (.t 26) (.c (.b true)) (.t 29)),
 .op (some 31) none (.mv (.t 30)),
 .op (some 32) (some (31, false)) (.fad 5 (.t 5)),
 .op (some 33) (some (31, false)) (.ld1 (.t 32)),
 .op (some 34) (some (31, false)) (.ibin .gtr (.t 33) (.c (.i .u64 1048576))),
 .op (some 35) none (.pick (.t 31) (.c (.b true)) (.t 34))])
 (.cond (.t 35)
 (.seq (.reg [.call (some 36) none (.c (.fn (.func 9) [] [])) [],
 .op (some 8) none (.mv (.t 36))])
 (.ret))
 (.skip)))
 (.seq (.reg [.op (some 37) none (.ldn 7 (.t 5)),
 .op (some 38) none (.mv (.t 2)),
 .call (some 39) none (.c (.fn (.func 17) [] [])) [(.t 37), (.t 38)],
 .op (some 9) none (.box (.c (.agg [(.i .u64 0), (.i .u64 0), (.i .u64 0), (.i .i64 0), (.i .u64 0), (.i .u64 0), (.i .u64 0)]))),
 .op none none (.st 7 (.t 9) (.t 39))])
 (.seq (.reg [.op (some 40) none (.ldn 7 (.t 9)),
 .op (some 41) none (.mv (.t 3)),
 .op (some 42) none (.ldn 5 (.t 4)),
 .call (some 43) none (.c (.fn (.func 18) [] [])) [(.t 40), (.t 41), (.t 42)],
 .op (some 10) none (.box (.c (.agg [(.i .u64 0), (.i .u64 0), (.i .u64 0), (.i .i64 0), (.i .u64 0), (.i .u64 0), (.i .u64 0)]))),
 .op none none (.st 7 (.t 10) (.t 43))])
 (.seq (.seq (.reg [.op (some 44) none (.mv (.t 3)),
 .op (some 45) none (.mv (.t 2)),
 .op (some 46) none (.fad 2 (.t 4)),
 .op (some 47) none (.ld1 (.t 46)),
 .call (some 48) none (.c (.fn (.func 15) [] [])) [(.t 45), (.t 47)],
 .op (some 49) none (.ibin .lss (.t 44) (.t 48))])
 (.cond (.t 49)
 (.seq (.reg [.op (some 50) none (.ldn 7 (.t 10)),
 .op (some 51) none (.ldn 7 (.t 9)),
 .op (some 52) none (.eqs [0, 0, 0, 0, 0, 0, 0] false (.t 50) (.t 51)),
 .op (some 53) none (.mv (.t 52)),
 .op (some 54) (some (53, true)) (.fad 6 (.t 9)),
 .op (some 55) (some (53, true)) (.ld1 (.t 54)),
 .op (some 56) (some (53, true)) (.mv (.t 2)),
 .op (some 57) (some (53, true)) (.ibin .eql (.t 55) (.t 56)),
 .op (some 58) none (.pick (.t 53) (.t 57) (.c (.b false))),
 .op (some 59) none (.mv (.t 58)),
 .call (some 60) (some (59, true)) (.c (.fn (.func 9) [] [])) [],
 .op (some 61) none (.pick (.t 59) (.t 60) (.c (.b false))),
 .op (some 8) none (.mv (.t 61))])
 (.ret))
 (.skip)))
 (.seq (.reg [.op (some 62) none (.ldn 7 (.t 9)),
 .op (some 11) none (.box (.c (.agg [(.i .u64 0), (.i .u64 0), (.i .u64 0), (.i .i64 0), (.i .u64 0), (.i .u64 0), (.i .u64 0)]))),
 .op none none (.st 7 (.t 11) (.t 62))])
 (.seq (.reg [.op (some 63) none (.fad 3 (.t 5)),
 .op (some 64) none (.ld1 (.t 63)),
 .op (some 65) none (.fad 0 (.t 4)),
 .op (some 66) none (.ld1 (.t 65)),
 .op (some 67) none (.mx false (.t 64) [(.t 66)]),
 .op (some 68) none (.fad 3 (.t 11)),
 .op none none (.st 1 (.t 68) (.t 67)),
 .op (some 69) none (.fad 5 (.t 11)),
 .op none none (.st 1 (.t 69) (.c (.i .u64 0)))])
 (.seq (.seq (.reg [.op (some 70) none (.ldn 7 (.t 5)),
 .op (some 71) none (.ldn 5 (.t 4)),
 .call (some 72) none (.c (.fn (.func 11) [] [])) [(.t 70), (.t 71)],
 .op (some 12) none (.mv (.t 72))])
 (.seq (.reg [.op (some 73) none (.mv (.t 12)),
 .op (some 74) none (.ibin .gtr (.t 73) (.c (.i .u64 0))),
 .op (some 75) none (.mv (.t 74)),
 .op (some 76) (some (75, true)) (.fad 5 (.t 5)),
 .op (some 77) (some (75, true)) (.ld1 (.t 76)),
 .op (some 78) (some (75, true)) (.ibin .gtr (.t 77) (.c (.i .u64 0))),
 .op (some 79) none (.pick (.t 75) (.t 78) (.c (.b false)))])
 (.cond (.t 79)
 (.dreg [.op (some 80) none (.fad 4 (.t 5)),
 .op (some 81) none (.ld1 (.t 80)),
 .op (some 82) none (.mv (.t 2)),
 .op (some 83) none (.fad 5 (.t 5)),
 .op (some 84) none (.ld1 (.t 83)),
 .op (some 85) none (.mv (.t 12)),
 .call (some 86) none (.c (.fn (.func 16) [] [])) [(.t 84), (.t 85)],
 .call (some 87) none (.c (.fn (.func 15) [] [])) [(.t 82), (.t 86)],
 .op (some 88) none (.mx false (.t 81) [(.t 87)]),
 .op (some 89) none (.fad 4 (.t 11)),
 .op none none (.st 1 (.t 89) (.t 88))]
 [0, 1, 2, 3, 4, 5, 6, 7, 8, 9, 10] [0, 1, 0, 0, 8, 0, 56, 124, 255, 511, 1023])
 (.skip))))
 (.seq (.dreg [.op (some 90) none (.ldn 7 (.t 10)),
 .op (some 91) none (.ldn 7 (.t 11)),
 .op (some 92) none (.eqs [0, 0, 0, 0, 0, 0, 0] false (.t 90) (.t 91)),
 .op (some 93) none (.mv (.t 92)),
 .op (some 94) (some (93, true)) (.ldn 7 (.t 10)),
 .op (some 95) (some (93, true)) (.mv (.t 3)),
 .op (some 96) (some (93, true)) (.ldn 5 (.t 4)),
 .call (some 97) (some (93, true)) (.c (.fn (.func 18) [] [])) [(.t 94), (.t 95), (.t 96)],
 .op (some 98) (some (93, true)) (.ldn 7 (.t 10)),
 .op (some 99) (some (93, true)) (.eqs [0, 0, 0, 0, 0, 0, 0] false (.t 97) (.t 98)),
 .op (some 100) none (.pick (.t 93) (.t 99) (.c (.b false))),
 .op (some 101) none (.mv (.t 100)),
 .call (some 102) (some (101, true)) (.c (.fn (.func 9) [] [])) [],
 .op (some 103) none (.pick (.t 101) (.t 102) (.c (.b false))),
 .op (some 8) none (.mv (.t 103))]
 [0, 1, 2, 3, 4, 5, 6, 8, 7, 9, 10, 11, 12, 13, 14] [0, 0, 3, 7, 15, 15, 15, 127, 15, 511, 1023, 2047, 4095, 8191, 16383])
 (.ret))))))))),
 [.t 8]⟩
def k5 : List Nat := [0, 1, 2, 3, 4, 5, 8, 9, 10, 11, 12, 35, 49, 79]
set_option maxRecDepth 100000 in
theorem c5 : compF Go.Proofs.Try.prog 4 Go.Proofs.Try.f5 = some e5 := by kernel_rfl
/-- sandglass/sandglasslaw12.FlowTells -/
def e6 : IFunc := ⟨140, 5,
 .seq (.reg [.op (some 5) none (.box (.t 0)),
 .op (some 6) none (.box (.t 1)),
 .op (some 10) none (.mv (.c (.b false)))])
 (.seq (.seq (.dreg [.op (some 17) none (.ldn 5 (.t 5)),
 .call (some 18) none (.c (.fn (.func 8) [] [])) [(.t 17)],
 .op (some 19) none (.ldn 5 (.t 5)),
 .call (some 20) none (.c (.fn (.func 19) [] [])) [(.t 19)],
 .op (some 21) none (.eqn 1 true (.t 18) (.t 20))]
 [0, 2, 1, 3, 4] [0, 1, 0, 7, 15])
 (.cond (.t 21)
 (.seq (.reg [.op (some 10) none (.mv (.c (.b false)))])
 (.ret))
 (.skip)))
 (.seq (.seq (.reg [.op (some 22) none (.ldn 5 (.t 6)),
 .call (some 23) none (.c (.fn (.func 19) [] [])) [(.t 22)],
 .op (some 24) none (.un .not (.t 23)),
 .op (some 25) none (.mv (.t 24)),
 .op (some 26) (some (25, false)) (.mv (.t 4)),
 .op (some 27) (some (25, false)) (.len 2 (.t 26)),
 .op (some 28) (some (25, false)) (.ibin .gtr (.t 27) (.c (.i .i64 60))),
 .op (some 29) none (.pick (.t 25) (.c (.b true)) (.t 28))])
 (.cond (.t 29)
 (.seq (.reg [.call (some 30) none (.c (.fn (.func 9) [] [])) [],
 .op (some 10) none (.mv (.t 30))])
 (.ret))
 (.skip)))
 (.seq (.dreg [.op (some 31) none (.mv (.t 2)),
 .op (some 32) none (.mv (.t 3)),
 .op (some 33) none (.ldn 5 (.t 6)),
 .call (some 34) none (.c (.fn (.func 10) [] [])) [(.t 31), (.t 32), (.t 33)],
 .op (some 35) none (.mv (.t 2)),
 .op (some 36) none (.mv (.t 3)),
 .op (some 37) none (.ldn 5 (.t 6)),
 .call (some 38) none (.c (.fn (.func 20) [] [])) [(.t 35), (.t 36), (.t 37)],
 .op (some 11) none (.box (.c (.agg [(.i .u64 0), (.i .u64 0), (.i .u64 0), (.i .i64 0), (.i .u64 0), (.i .u64 0), (.i .u64 0)]))),
 .op (some 12) none (.box (.c (.agg [(.i .u64 0), (.i .u64 0), (.i .u64 0), (.i .i64 0), (.i .u64 0), (.i .u64 0), (.i .u64 0)]))),
 .op none none (.st 7 (.t 11) (.t 34)),
 .op none none (.st 7 (.t 12) (.t 38))]
 [0, 1, 2, 4, 5, 6, 8, 9, 3, 7, 10, 11] [0, 0, 0, 7, 0, 0, 0, 127, 0, 0, 1023, 2047])
 (.seq (.seq (.reg [.op (some 39) none (.mv (.t 4)),
 .op (some 40) none (.len 2 (.t 39)),
 .op (some 41) none (.mv (.c (.i .i64 0)))])
 (.block 0
 (.loop
 (.seq (.reg [.op (some 42) none (.ibin .lss (.t 41) (.t 40))])
 (.seq (.cond (.t 42)
 (.skip)
 (.exit 0))
 (.seq (.block 1
 (.seq (.reg [.op (some 43) none (.iad 3 (.t 39) (.t 41)),
 .op (some 44) none (.ldn 3 (.t 43)),
 .op (some 14) none (.box (.c (.agg [(.i .u8 0), (.i .i64 0), (.i .u64 0)]))),
 .op none none (.st 3 (.t 14) (.t 44))])
 (.seq (.reg [.op (some 15) none (.mv (.c (.i .i64 0))),
 .op (some 16) none (.mv (.c (.i .i64 0)))])
 (.seq (.seq (.reg [.op (some 45) none (.fad 0 (.t 14)),
 .op (some 46) none (.ld1 (.t 45))])
 (.block 2
 (.seq (.reg [.op (some 48) none (.ibin .eql (.t 46) (.c (.i .u8 1))),
 .op (some 47) none (.mv (.t 48))])
 (.cond (.t 47)
 (.seq (.reg [.op (some 50) none (.ldn 7 (.t 11)),
 .op (some 51) none (.fad 1 (.t 14)),
 .op (some 52) none (.ld1 (.t 51)),
 .op (some 53) none (.fad 2 (.t 14)),
 .op (some 54) none (.ld1 (.t 53)),
 .op (some 55) none (.ldn 5 (.t 6)),
 .call (some 56) none (.c (.fn (.func 14) [] [])) [(.t 50), (.t 52), (.t 54), (.t 55)],
 .op (some 49) none (.mv (.t 56)),
 .op (some 57) none (.ext (.t 49) 0),
 .op (some 58) none (.ext (.t 49) 1),
 .op none none (.st 7 (.t 11) (.t 57)),
 .op (some 15) none (.mv (.t 58))])
 (.reg [.op (some 60) none (.ldn 7 (.t 12)),
 .op (some 61) none (.fad 1 (.t 14)),
 .op (some 62) none (.ld1 (.t 61)),
 .op (some 63) none (.fad 2 (.t 14)),
 .op (some 64) none (.ld1 (.t 63)),
 .op (some 65) none (.ldn 5 (.t 6)),
 .call (some 66) none (.c (.fn (.func 21) [] [])) [(.t 60), (.t 62), (.t 64), (.t 65)],
 .op (some 59) none (.mv (.t 66)),
 .op (some 67) none (.ext (.t 59) 0),
 .op (some 68) none (.ext (.t 59) 1),
 .op none none (.st 7 (.t 12) (.t 67)),
 .op (some 16) none (.mv (.t 68))]))
 (.seq (.reg [.op (some 70) none (.ibin .eql (.t 46) (.c (.i .u8 2))),
 .op (some 69) none (.mv (.t 70))])
 (.cond (.t 69)
 (.dreg [.op (some 71) none (.ldn 7 (.t 11)),
 .op (some 72) none (.ldn 5 (.t 6)),
 .call (some 73) none (.c (.fn (.func 12) [] [])) [(.t 71), (.t 72)],
 .op (some 74) none (.ldn 7 (.t 12)),
 .op (some 75) none (.ldn 5 (.t 6)),
 .call (some 76) none (.c (.fn (.func 22) [] [])) [(.t 74), (.t 75)],
 .op none none (.st 7 (.t 11) (.t 73)),
 .op none none (.st 7 (.t 12) (.t 76))]
 [0, 1, 3, 4, 2, 5, 6, 7] [0, 0, 3, 0, 0, 31, 63, 127])
 (.seq (.reg [.op (some 78) none (.ibin .eql (.t 46) (.c (.i .u8 3))),
 .op (some 77) none (.mv (.t 78))])
 (.cond (.t 77)
 (.dreg [.op (some 79) none (.ldn 7 (.t 11)),
 .op (some 80) none (.fad 2 (.t 14)),
 .op (some 81) none (.ld1 (.t 80)),
 .call (some 82) none (.c (.fn (.func 17) [] [])) [(.t 79), (.t 81)],
 .op (some 83) none (.ldn 7 (.t 12)),
 .op (some 84) none (.fad 2 (.t 14)),
 .op (some 85) none (.ld1 (.t 84)),
 .call (some 86) none (.c (.fn (.func 23) [] [])) [(.t 83), (.t 85)],
 .op none none (.st 7 (.t 11) (.t 82)),
 .op none none (.st 7 (.t 12) (.t 86))]
 [0, 1, 2, 4, 5, 6, 3, 7, 8, 9] [0, 0, 2, 7, 0, 0, 32, 127, 255, 511])
 (.seq (.reg [.op (some 88) none (.ibin .eql (.t 46) (.c (.i .u8 4))),
 .op (some 87) none (.mv (.t 88))])
 (.cond (.t 87)
 (.dreg [.op (some 89) none (.ldn 7 (.t 11)),
 .op (some 90) none (.fad 2 (.t 14)),
 .op (some 91) none (.ld1 (.t 90)),
 .op (some 92) none (.ldn 5 (.t 6)),
 .call (some 93) none (.c (.fn (.func 18) [] [])) [(.t 89), (.t 91), (.t 92)],
 .op (some 94) none (.ldn 7 (.t 12)),
 .op (some 95) none (.fad 2 (.t 14)),
 .op (some 96) none (.ld1 (.t 95)),
 .op (some 97) none (.ldn 5 (.t 6)),
 .call (some 98) none (.c (.fn (.func 24) [] [])) [(.t 94), (.t 96), (.t 97)],
 .op none none (.st 7 (.t 11) (.t 93)),
 .op none none (.st 7 (.t 12) (.t 98))]
 [0, 1, 2, 3, 5, 6, 7, 8, 4, 9, 10, 11] [0, 0, 2, 0, 15, 0, 0, 64, 0, 511, 1023, 2047])
 (.seq (.reg [.op (some 100) none (.ibin .eql (.t 46) (.c (.i .u8 5))),
 .op (some 99) none (.mv (.t 100))])
 (.cond (.t 99)
 (.seq (.reg [.op (some 101) none (.fad 1 (.t 14)),
 .op (some 102) none (.ld1 (.t 101)),
 .op (some 103) none (.mx false (.t 102) [(.c (.i .i64 0))]),
 .op (some 104) none (.conv .u64 (.t 103)),
 .op (some 105) none (.ibin .rem (.t 104) (.c (.i .u64 1099511627777))),
 .op (some 106) none (.fad 2 (.t 11)),
 .op none none (.st 1 (.t 106) (.t 105))])
 (.reg [.op (some 107) none (.fad 2 (.t 11)),
 .op (some 108) none (.ld1 (.t 107)),
 .op (some 109) none (.fad 2 (.t 12)),
 .op none none (.st 1 (.t 109) (.t 108))]))
 (.skip)))))))))))))
 (.seq (.dreg [.op (some 110) none (.ldn 7 (.t 11)),
 .op (some 111) none (.ldn 7 (.t 12)),
 .op (some 112) none (.eqs [0, 0, 0, 0, 0, 0, 0] true (.t 110) (.t 111)),
 .op (some 113) none (.mv (.t 112)),
 .op (some 114) (some (113, false)) (.mv (.t 15)),
 .op (some 115) (some (113, false)) (.mv (.t 16)),
 .op (some 116) (some (113, false)) (.ibin .neq (.t 114) (.t 115)),
 .op (some 117) none (.pick (.t 113) (.c (.b true)) (.t 116)),
 .op (some 118) none (.mv (.t 117)),
 .op (some 119) (some (118, false)) (.ldn 7 (.t 11)),
 .op (some 120) (some (118, false)) (.ldn 5 (.t 6)),
 .call (some 121) (some (118, false)) (.c (.fn (.func 11) [] [])) [(.t 119), (.t 120)],
 .op (some 122) (some (118, false)) (.ldn 7 (.t 12)),
 .op (some 123) (some (118, false)) (.ldn 5 (.t 6)),
 .call (some 124) (some (118, false)) (.c (.fn (.func 25) [] [])) [(.t 122), (.t 123)],
 .op (some 125) (some (118, false)) (.ibin .neq (.t 121) (.t 124)),
 .op (some 126) none (.pick (.t 118) (.c (.b true)) (.t 125)),
 .op (some 127) none (.mv (.t 126)),
 .op (some 128) (some (127, false)) (.ldn 7 (.t 11)),
 .op (some 129) (some (127, false)) (.fad 2 (.t 14)),
 .op (some 130) (some (127, false)) (.ld1 (.t 129)),
 .call (some 131) (some (127, false)) (.c (.fn (.func 13) [] [])) [(.t 128), (.t 130)],
 .op (some 132) (some (127, false)) (.ldn 7 (.t 12)),
 .op (some 133) (some (127, false)) (.fad 2 (.t 14)),
 .op (some 134) (some (127, false)) (.ld1 (.t 133)),
 .call (some 135) (some (127, false)) (.c (.fn (.func 26) [] [])) [(.t 132), (.t 134)],
 .op (some 136) (some (127, false)) (.ibin .neq (.t 131) (.t 135)),
 .op (some 137) none (.pick (.t 127) (.c (.b true)) (.t 136))]
 [0, 1, 2, 3, 4, 5, 6, 7, 8, 9, 10, 12, 13, 11, 14, 15, 16, 17, 18, 19, 20, 22, 23, 24, 21, 25, 26, 27] [0, 0, 3, 7, 15, 15, 63, 127, 255, 511, 511, 2047, 511, 511, 16383, 32767, 65535, 131071, 262143, 262143, 786431, 2097151, 262143, 262143, 8650751, 33554431, 67108863, 134217727])
 (.cond (.t 137)
 (.seq (.reg [.op (some 10) none (.mv (.c (.b false)))])
 (.ret))
 (.skip)))))))
 (.reg [.op (some 138) none (.ibin .add (.t 41) (.c (.i .i64 1))),
 .op (some 41) none (.mv (.t 138))])))))))
 (.seq (.reg [.call (some 139) none (.c (.fn (.func 9) [] [])) [],
 .op (some 10) none (.mv (.t 139))])
 (.ret)))))),
 [.t 10]⟩
def k6 : List Nat := [0, 1, 2, 3, 4, 5, 6, 10, 11, 12, 14, 15, 16, 21, 29, 39, 40, 41, 42, 46, 47, 69, 77, 87, 99, 137]
set_option maxRecDepth 100000 in
theorem c6 : compF Go.Proofs.Try.prog 5 Go.Proofs.Try.f6 = some e6 := by kernel_rfl
/-- sandglass/sandglasslaw12.FlowPaced -/
def e7 : IFunc := ⟨204, 8,
 .seq (.reg [.op (some 16) none (.mv (.c (.b false)))])
 (.seq (.reg [.op (some 34) none (.mv (.t 0)),
 .op (some 35) none (.mv (.t 1)),
 .op (some 36) none (.mv (.t 2)),
 .op (some 37) none (.mv (.t 3)),
 .call (some 38) none (.c (.fn (.func 27) [] [])) [(.t 34), (.t 35), (.t 36), (.t 37), (.c (.i .u64 0))],
 .op (some 17) none (.box (.c (.agg [(.i .i64 0), (.i .i64 0), (.i .u64 0), (.i .u64 0), (.i .u64 0)]))),
 .op none none (.st 5 (.t 17) (.t 38))])
 (.seq (.reg [.op (some 39) none (.ldn 5 (.t 17)),
 .call (some 40) none (.c (.fn (.func 10) [] [])) [(.c (.i .u64 1)), (.c (.i .u64 1)), (.t 39)],
 .op (some 18) none (.box (.c (.agg [(.i .u64 0), (.i .u64 0), (.i .u64 0), (.i .i64 0), (.i .u64 0), (.i .u64 0), (.i .u64 0)]))),
 .op none none (.st 7 (.t 18) (.t 40))])
 (.seq (.reg [.op (some 41) none (.mv (.t 4)),
 .op (some 42) none (.ibin .rem (.t 41) (.c (.i .u64 1099511627776))),
 .op (some 43) none (.ibin .add (.c (.i .u64 1)) (.t 42)),
 .op (some 44) none (.fad 2 (.t 18)),
 .op none none (.st 1 (.t 44) (.t 43))])
 (.seq (.reg [.op (some 45) none (.ldn 7 (.t 18)),
 .op (some 46) none (.ldn 5 (.t 17)),
 .call (some 47) none (.c (.fn (.func 11) [] [])) [(.t 45), (.t 46)],
 .op (some 19) none (.mv (.t 47))])
 (.seq (.reg [.op (some 48) none (.mv (.t 19)),
 .op (some 49) none (.fad 4 (.t 17)),
 .op none none (.st 1 (.t 49) (.t 48))])
 (.seq (.reg [.op (some 20) none (.mv (.c .nils))])
 (.seq (.reg [.op (some 21) none (.mv (.c (.i .u64 0))),
 .op (some 22) none (.mv (.c (.i .i64 0)))])
 (.seq (.seq (.reg [.op (some 50) none (.mv (.t 5)),
 .op (some 51) none (.mv (.t 5)),
 .op (some 52) none (.len 2 (.t 51)),
 .op (some 53) none (.mx true (.t 52) [(.c (.i .i64 30))]),
 .op (some 54) none (.slice 1 (.t 50) none (some (.t 53))),
 .op (some 55) none (.len 2 (.t 54)),
 .op (some 56) none (.mv (.c (.i .i64 0)))])
 (.block 0
 (.loop
 (.seq (.reg [.op (some 57) none (.ibin .lss (.t 56) (.t 55))])
 (.seq (.cond (.t 57)
 (.skip)
 (.exit 0))
 (.seq (.block 1
 (.seq (.reg [.op (some 58) none (.mv (.t 56)),
 .op (some 59) none (.iad 1 (.t 54) (.t 56)),
 .op (some 60) none (.ld1 (.t 59)),
 .op (some 23) none (.mv (.t 58)),
 .op (some 24) none (.mv (.t 60))])
 (.seq (.seq (.reg [.op (some 61) none (.mv (.t 7)),
 .op (some 62) none (.len 2 (.t 61)),
 .op (some 63) none (.ibin .gtr (.t 62) (.c (.i .i64 0))),
 .op (some 64) none (.mv (.t 63)),
 .op (some 65) (some (64, true)) (.mv (.t 7)),
 .op (some 66) (some (64, true)) (.mv (.t 23)),
 .op (some 67) (some (64, true)) (.mv (.t 7)),
 .op (some 68) (some (64, true)) (.len 2 (.t 67)),
 .op (some 69) (some (64, true)) (.ibin .rem (.t 66) (.t 68)),
 .op (some 70) (some (64, true)) (.iad 1 (.t 65) (.t 69)),
 .op (some 71) (some (64, true)) (.ld1 (.t 70)),
 .op (some 72) (some (64, true)) (.ibin .rem (.t 71) (.c (.i .u8 4))),
 .op (some 73) (some (64, true)) (.ibin .eql (.t 72) (.c (.i .u8 0))),
 .op (some 74) none (.pick (.t 64) (.t 73) (.c (.b false)))])
 (.cond (.t 74)
 (.seq (.reg [.op (some 75) none (.ldn 7 (.t 18)),
 .op (some 76) none (.mv (.t 21)),
 .call (some 77) none (.c (.fn (.func 17) [] [])) [(.t 75), (.t 76)],
 .op none none (.st 7 (.t 18) (.t 77))])
 (.seq (.reg [.op (some 78) none (.mv (.t 21)),
 .op (some 79) none (.mv (.t 7)),
 .op (some 80) none (.mv (.t 23)),
 .op (some 81) none (.mv (.t 7)),
 .op (some 82) none (.len 2 (.t 81)),
 .op (some 83) none (.ibin .rem (.t 80) (.t 82)),
 .op (some 84) none (.iad 1 (.t 79) (.t 83)),
 .op (some 85) none (.ld1 (.t 84)),
 .op (some 86) none (.conv .u64 (.t 85)),
 .op (some 87) none (.ibin .mul (.t 86) (.c (.i .u64 1000))),
 .call (some 88) none (.c (.fn (.func 15) [] [])) [(.t 78), (.t 87)],
 .op (some 21) none (.mv (.t 88))])
 (.reg [.op (some 89) none (.ldn 7 (.t 18)),
 .op (some 90) none (.mv (.t 21)),
 .op (some 91) none (.ldn 5 (.t 17)),
 .call (some 92) none (.c (.fn (.func 18) [] [])) [(.t 89), (.t 90), (.t 91)],
 .op none none (.st 7 (.t 18) (.t 92))])))
 (.skip)))
 (.seq (.seq (.reg [.op (some 25) none (.mv (.c (.i .i64 0)))])
 (.block 2
 (.loop
 (.seq (.seq (.reg [.op (some 93) none (.fad 3 (.t 18)),
 .op (some 94) none (.ld1 (.t 93)),
 .op (some 95) none (.ibin .leq (.t 94) (.c (.i .i64 0)))])
 (.cond (.t 95)
 (.skip)
 (.exit 2)))
 (.seq (.block 3
 (.seq (.reg [.op (some 98) none (.ldn 7 (.t 18)),
 .op (some 99) none (.ldn 5 (.t 17)),
 .call (some 100) none (.c (.fn (.func 12) [] [])) [(.t 98), (.t 99)],
 .op none none (.st 7 (.t 18) (.t 100))])
 (.seq (.reg [.op (some 101) none (.mv (.t 25)),
 .op (some 102) none (.ibin .gtr (.t 101) (.c (.i .i64 65536)))])
 (.cond (.t 102)
 (.seq (.reg [.op (some 16) none (.mv (.c (.b false)))])
 (.ret))
 (.skip)))))
 (.reg [.op (some 96) none (.mv (.t 25)),
 .op (some 97) none (.ibin .add (.t 96) (.c (.i .i64 1))),
 .op (some 25) none (.mv (.t 97))]))))))
 (.seq (.reg [.op (some 103) none (.ldn 7 (.t 18)),
 .op (some 104) none (.mv (.t 21)),
 .call (some 105) none (.c (.fn (.func 13) [] [])) [(.t 103), (.t 104)],
 .op (some 21) none (.mv (.t 105))])
 (.seq (.seq (.reg [.op (some 106) none (.mv (.t 6)),
 .op (some 107) none (.len 2 (.t 106)),
 .op (some 108) none (.ibin .gtr (.t 107) (.c (.i .i64 0)))])
 (.cond (.t 108)
 (.reg [.op (some 109) none (.mv (.t 21)),
 .op (some 110) none (.mv (.t 6)),
 .op (some 111) none (.mv (.t 23)),
 .op (some 112) none (.mv (.t 6)),
 .op (some 113) none (.len 2 (.t 112)),
 .op (some 114) none (.ibin .rem (.t 111) (.t 113)),
 .op (some 115) none (.iad 1 (.t 110) (.t 114)),
 .op (some 116) none (.ld1 (.t 115)),
 .op (some 117) none (.conv .u64 (.t 116)),
 .call (some 118) none (.c (.fn (.func 15) [] [])) [(.t 109), (.t 117)],
 .op (some 21) none (.mv (.t 118))])
 (.skip)))
 (.seq (.reg [.op (some 119) none (.mv (.t 24)),
 .op (some 120) none (.conv .i64 (.t 119)),
 .op (some 121) none (.ibin .add (.c (.i .i64 1)) (.t 120)),
 .op (some 26) none (.mv (.t 121))])
 (.seq (.reg [.op (some 123) none (.ldn 7 (.t 18)),
 .op (some 124) none (.mv (.t 26)),
 .op (some 125) none (.mv (.t 21)),
 .op (some 126) none (.ldn 5 (.t 17)),
 .call (some 127) none (.c (.fn (.func 14) [] [])) [(.t 123), (.t 124), (.t 125), (.t 126)],
 .op (some 122) none (.mv (.t 127)),
 .op (some 128) none (.ext (.t 122) 0),
 .op (some 129) none (.ext (.t 122) 1),
 .op (some 27) none (.box (.c (.agg [(.i .u64 0), (.i .u64 0), (.i .u64 0), (.i .i64 0), (.i .u64 0), (.i .u64 0), (.i .u64 0)]))),
 .op none none (.st 7 (.t 27) (.t 128)),
 .op (some 28) none (.mv (.t 129))])
 (.seq (.seq (.reg [.op (some 130) none (.mv (.t 28)),
 .op (some 131) none (.ibin .neq (.t 130) (.c (.i .i64 0))),
 .op (some 132) none (.mv (.t 131)),
 .op (some 133) (some (132, false)) (.fad 4 (.t 27)),
 .op (some 134) (some (132, false)) (.ld1 (.t 133)),
 .op (some 135) (some (132, false)) (.fad 4 (.t 18)),
 .op (some 136) (some (132, false)) (.ld1 (.t 135)),
 .op (some 137) (some (132, false)) (.ibin .lss (.t 134) (.t 136)),
 .op (some 138) none (.pick (.t 132) (.c (.b true)) (.t 137))])
 (.cond (.t 138)
 (.seq (.reg [.op (some 16) none (.mv (.c (.b false)))])
 (.ret))
 (.skip)))
 (.seq (.reg [.op (some 139) none (.ldn 7 (.t 27)),
 .op none none (.st 7 (.t 18) (.t 139))])
 (.seq (.reg [.op (some 140) none (.mv (.t 20)),
 .op (some 141) none (.mv (.t 26)),
 .op (some 142) none (.mv (.t 21)),
 .op (some 143) none (.build [(.i .i64 0), (.i .u64 0)] [(0, 1, (.t 141)), (1, 1, (.t 142))]),
 .op (some 144) none (.bslice 2 1 [(.i .i64 0), (.i .u64 0)] [(0, 2, (.t 143))]),
 .op (some 145) none (.app 2 16 (.t 140) (.t 144)),
 .op (some 20) none (.mv (.t 145))])
 (.reg [.op (some 146) none (.mv (.t 22)),
 .op (some 147) none (.mv (.t 26)),
 .op (some 148) none (.mx false (.t 146) [(.t 147)]),
 .op (some 22) none (.mv (.t 148))]))))))))))))
 (.reg [.op (some 149) none (.ibin .add (.t 56) (.c (.i .i64 1))),
 .op (some 56) none (.mv (.t 149))])))))))
 (.seq (.reg [.op (some 150) none (.fad 0 (.t 17)),
 .op (some 151) none (.ld1 (.t 150)),
 .op (some 152) none (.fad 1 (.t 17)),
 .op (some 153) none (.ld1 (.t 152)),
 .op (some 154) none (.mx false (.t 151) [(.t 153)]),
 .op (some 155) none (.ibin .sub (.t 154) (.c (.i .i64 1))),
 .op (some 156) none (.mv (.t 22)),
 .op (some 157) none (.ibin .add (.t 155) (.t 156)),
 .op (some 158) none (.conv .u64 (.t 157)),
 .op (some 29) none (.mv (.t 158))])
 (.seq (.seq (.reg [.op (some 159) none (.mv (.t 20)),
 .op (some 160) none (.len 2 (.t 159)),
 .op (some 161) none (.mv (.c (.i .i64 0)))])
 (.block 4
 (.loop
 (.seq (.reg [.op (some 162) none (.ibin .lss (.t 161) (.t 160))])
 (.seq (.cond (.t 162)
 (.skip)
 (.exit 4))
 (.seq (.block 5
 (.seq (.reg [.op (some 163) none (.mv (.t 161)),
 .op (some 30) none (.mv (.t 163))])
 (.seq (.reg [.op (some 31) none (.mv (.c (.i .u64 0)))])
 (.seq (.reg [.op (some 164) none (.mv (.t 20)),
 .op (some 165) none (.mv (.t 30)),
 .op (some 166) none (.slice 2 (.t 164) (some (.t 165)) none),
 .op (some 167) none (.len 2 (.t 166)),
 .op (some 168) none (.mv (.c (.i .i64 0)))])
 (.block 6
 (.loop
 (.seq (.reg [.op (some 169) none (.ibin .lss (.t 168) (.t 167))])
 (.seq (.cond (.t 169)
 (.skip)
 (.exit 6))
 (.seq (.block 7
 (.seq (.reg [.op (some 170) none (.iad 2 (.t 166) (.t 168)),
 .op (some 171) none (.ldn 2 (.t 170)),
 .op (some 33) none (.box (.c (.agg [(.i .i64 0), (.i .u64 0)]))),
 .op none none (.st 2 (.t 33) (.t 171))])
 (.seq (.reg [.op (some 172) none (.mv (.t 31)),
 .op (some 173) none (.fad 0 (.t 33)),
 .op (some 174) none (.ld1 (.t 173)),
 .op (some 175) none (.conv .u64 (.t 174)),
 .op (some 176) none (.ibin .add (.t 172) (.t 175)),
 .op (some 31) none (.mv (.t 176))])
 (.seq (.dreg [.op (some 177) none (.fad 1 (.t 33)),
 .op (some 178) none (.ld1 (.t 177)),
 .op (some 179) none (.mv (.t 20)),
 .op (some 180) none (.mv (.t 30)),
 .op (some 181) none (.iad 2 (.t 179) (.t 180)),
 .op (some 182) none (.fad 1 (.t 181)),
 .op (some 183) none (.ld1 (.t 182)),
 .op (some 184) none (.ibin .lss (.t 178) (.t 183)),
 .op (some 185) none (.mv (.t 184)),
 .op (some 186) (some (185, false)) (.mv (.t 31)),
 .op (some 187) (some (185, false)) (.fad 1 (.t 33)),
 .op (some 188) (some (185, false)) (.ld1 (.t 187)),
 .op (some 189) (some (185, false)) (.mv (.t 20)),
 .op (some 190) (some (185, false)) (.mv (.t 30)),
 .op (some 191) (some (185, false)) (.iad 2 (.t 189) (.t 190)),
 .op (some 192) (some (185, false)) (.fad 1 (.t 191)),
 .op (some 193) (some (185, false)) (.ld1 (.t 192)),
 .op (some 194) (some (185, false)) (.ibin .sub (.t 188) (.t 193)),
 .op (some 195) (some (185, false)) (.mv (.t 19)),
 .call (some 196) (some (185, false)) (.c (.fn (.func 28) [] [])) [(.t 194), (.t 195)],
 .op (some 197) (some (185, false)) (.mv (.t 29)),
 .call (some 198) (some (185, false)) (.c (.fn (.func 15) [] [])) [(.t 196), (.t 197)],
 .op (some 199) (some (185, false)) (.ibin .gtr (.t 186) (.t 198)),
 .op (some 200) none (.pick (.t 185) (.c (.b true)) (.t 199))]
 [0, 1, 2, 3, 4, 5, 6, 7, 8, 9, 10, 11, 12, 13, 14, 15, 16, 17, 18, 20, 19, 21, 22, 23] [0, 1, 0, 0, 12, 28, 60, 127, 255, 511, 511, 1535, 511, 511, 12799, 29183, 61951, 130559, 511, 523775, 511, 2096639, 4194303, 8388607])
 (.cond (.t 200)
 (.seq (.reg [.op (some 16) none (.mv (.c (.b false)))])
 (.ret))
 (.skip))))))
 (.reg [.op (some 201) none (.ibin .add (.t 168) (.c (.i .i64 1))),
 .op (some 168) none (.mv (.t 201))]))))))))))
 (.reg [.op (some 202) none (.ibin .add (.t 161) (.c (.i .i64 1))),
 .op (some 161) none (.mv (.t 202))])))))))
 (.seq (.reg [.call (some 203) none (.c (.fn (.func 9) [] [])) [],
 .op (some 16) none (.mv (.t 203))])
 (.ret)))))))))))),
 [.t 16]⟩
def k7 : List Nat := [0, 1, 2, 3, 4, 5, 6, 7, 16, 17, 18, 19, 20, 21, 22, 23, 24, 25, 26, 27, 28, 29, 30, 31, 33, 54, 55, 56, 57, 74, 95, 102, 108, 138, 160, 161, 162, 166, 167, 168, 169, 200]
set_option maxRecDepth 100000 in
theorem c7 : compF Go.Proofs.Try.prog 8 Go.Proofs.Try.f7 = some e7 := by kernel_rfl
/-- sandglass/flow.Right -/
def e8 : IFunc := ⟨29, 1,
 .seq (.reg [.op (some 1) none (.box (.t 0)),
 .op (some 2) none (.mv (.c (.b false)))])
 (.seq (.reg [.op (some 3) none (.fad 0 (.t 1)),
 .op (some 4) none (.ld1 (.t 3)),
 .op (some 5) none (.ibin .geq (.t 4) (.c (.i .i64 1))),
 .op (some 6) none (.mv (.t 5)),
 .op (some 7) (some (6, true)) (.fad 0 (.t 1)),
 .op (some 8) (some (6, true)) (.ld1 (.t 7)),
 .op (some 9) (some (6, true)) (.ibin .leq (.t 8) (.c (.i .i64 1048576))),
 .op (some 10) none (.pick (.t 6) (.t 9) (.c (.b false))),
 .op (some 11) none (.mv (.t 10)),
 .op (some 12) (some (11, true)) (.fad 1 (.t 1)),
 .op (some 13) (some (11, true)) (.ld1 (.t 12)),
 .op (some 14) (some (11, true)) (.ibin .geq (.t 13) (.c (.i .i64 1))),
 .op (some 15) none (.pick (.t 11) (.t 14) (.c (.b false))),
 .op (some 16) none (.mv (.t 15)),
 .op (some 17) (some (16, true)) (.fad 1 (.t 1)),
 .op (some 18) (some (16, true)) (.ld1 (.t 17)),
 .op (some 19) (some (16, true)) (.ibin .leq (.t 18) (.c (.i .i64 1048576))),
 .op (some 20) none (.pick (.t 16) (.t 19) (.c (.b false))),
 .op (some 21) none (.mv (.t 20)),
 .op (some 22) (some (21, true)) (.fad 3 (.t 1)),
 .op (some 23) (some (21, true)) (.ld1 (.t 22)),
 .op (some 24) (some (21, true)) (.fad 4 (.t 1)),
 .op (some 25) (some (21, true)) (.ld1 (.t 24)),
 .op (some 26) (some (21, true)) (.mx false (.t 23) [(.t 25)]),
 .op (some 27) (some (21, true)) (.ibin .leq (.t 26) (.c (.i .u64 1099511627776))),
 .op (some 28) none (.pick (.t 21) (.t 27) (.c (.b false))),
 .op (some 2) none (.mv (.t 28))])
 (.ret)),
 [.t 2]⟩
def k8 : List Nat := [0, 1, 2]
set_option maxRecDepth 100000 in
theorem c8 : compF Go.Proofs.Try.prog 1 Go.Proofs.Try.f8 = some e8 := by kernel_rfl
/-- sandglass/sandglasslaw12.awake -/
def e9 : IFunc := ⟨121, 0,
 .seq (.reg [.op (some 0) none (.mv (.c (.b false)))])
 (.seq (.reg [.op (some 13) none (.build [(.i .i64 0), (.i .i64 0), (.i .u64 0), (.i .u64 0), (.i .u64 0)] [(0, 1, (.c (.i .i64 1000))), (1, 1, (.c (.i .i64 1500))), (4, 1, (.c (.i .u64 10)))]),
 .op (some 1) none (.box (.c (.agg [(.i .i64 0), (.i .i64 0), (.i .u64 0), (.i .u64 0), (.i .u64 0)]))),
 .op none none (.st 5 (.t 1) (.t 13))])
 (.seq (.reg [.op (some 14) none (.ldn 5 (.t 1)),
 .call (some 15) none (.c (.fn (.func 10) [] [])) [(.c (.i .u64 1)), (.c (.i .u64 2)), (.t 14)],
 .op (some 2) none (.box (.c (.agg [(.i .u64 0), (.i .u64 0), (.i .u64 0), (.i .i64 0), (.i .u64 0), (.i .u64 0), (.i .u64 0)]))),
 .op none none (.st 7 (.t 2) (.t 15))])
 (.seq (.reg [.op (some 16) none (.fad 2 (.t 2)),
 .op none none (.st 1 (.t 16) (.c (.i .u64 1000000)))])
 (.seq (.reg [.op (some 18) none (.ldn 7 (.t 2)),
 .op (some 19) none (.ldn 5 (.t 1)),
 .call (some 20) none (.c (.fn (.func 14) [] [])) [(.t 18), (.c (.i .i64 1000)), (.c (.i .u64 7)), (.t 19)],
 .op (some 17) none (.mv (.t 20)),
 .op (some 21) none (.ext (.t 17) 0),
 .op (some 22) none (.ext (.t 17) 1),
 .op (some 3) none (.box (.c (.agg [(.i .u64 0), (.i .u64 0), (.i .u64 0), (.i .i64 0), (.i .u64 0), (.i .u64 0), (.i .u64 0)]))),
 .op none none (.st 7 (.t 3) (.t 21)),
 .op (some 4) none (.mv (.t 22))])
 (.seq (.reg [.op (some 24) none (.ldn 7 (.t 3)),
 .op (some 25) none (.ldn 5 (.t 1)),
 .call (some 26) none (.c (.fn (.func 14) [] [])) [(.t 24), (.c (.i .i64 600)), (.c (.i .u64 8)), (.t 25)],
 .op (some 23) none (.mv (.t 26)),
 .op (some 27) none (.ext (.t 23) 0),
 .op (some 28) none (.ext (.t 23) 1),
 .op (some 5) none (.box (.c (.agg [(.i .u64 0), (.i .u64 0), (.i .u64 0), (.i .i64 0), (.i .u64 0), (.i .u64 0), (.i .u64 0)]))),
 .op none none (.st 7 (.t 5) (.t 27)),
 .op (some 6) none (.mv (.t 28))])
 (.seq (.reg [.op (some 29) none (.ldn 7 (.t 5)),
 .op (some 30) none (.ldn 5 (.t 1)),
 .call (some 31) none (.c (.fn (.func 12) [] [])) [(.t 29), (.t 30)],
 .op (some 7) none (.box (.c (.agg [(.i .u64 0), (.i .u64 0), (.i .u64 0), (.i .i64 0), (.i .u64 0), (.i .u64 0), (.i .u64 0)]))),
 .op none none (.st 7 (.t 7) (.t 31))])
 (.seq (.reg [.op (some 32) none (.ldn 5 (.t 1)),
 .call (some 33) none (.c (.fn (.func 10) [] [])) [(.c (.i .u64 1)), (.c (.i .u64 2)), (.t 32)],
 .op (some 8) none (.box (.c (.agg [(.i .u64 0), (.i .u64 0), (.i .u64 0), (.i .i64 0), (.i .u64 0), (.i .u64 0), (.i .u64 0)]))),
 .op none none (.st 7 (.t 8) (.t 33))])
 (.seq (.reg [.op (some 34) none (.fad 2 (.t 8)),
 .op none none (.st 1 (.t 34) (.c (.i .u64 5)))])
 (.seq (.reg [.op (some 36) none (.ldn 7 (.t 8)),
 .op (some 37) none (.ldn 5 (.t 1)),
 .call (some 38) none (.c (.fn (.func 14) [] [])) [(.t 36), (.c (.i .i64 10)), (.c (.i .u64 100)), (.t 37)],
 .op (some 35) none (.mv (.t 38)),
 .op (some 39) none (.ext (.t 35) 0),
 .op (some 40) none (.ext (.t 35) 1),
 .op (some 9) none (.box (.c (.agg [(.i .u64 0), (.i .u64 0), (.i .u64 0), (.i .i64 0), (.i .u64 0), (.i .u64 0), (.i .u64 0)]))),
 .op none none (.st 7 (.t 9) (.t 39)),
 .op (some 10) none (.mv (.t 40))])
 (.seq (.reg [.op (some 42) none (.ldn 7 (.t 2)),
 .op (some 43) none (.ldn 5 (.t 1)),
 .call (some 44) none (.c (.fn (.func 14) [] [])) [(.t 42), (.c (.i .i64 0)), (.c (.i .u64 0)), (.t 43)],
 .op (some 41) none (.mv (.t 44)),
 .op (some 45) none (.ext (.t 41) 0),
 .op (some 46) none (.ext (.t 41) 1),
 .op (some 11) none (.box (.c (.agg [(.i .u64 0), (.i .u64 0), (.i .u64 0), (.i .i64 0), (.i .u64 0), (.i .u64 0), (.i .u64 0)]))),
 .op none none (.st 7 (.t 11) (.t 45)),
 .op (some 12) none (.mv (.t 46))])
 (.seq (.reg [.op (some 47) none (.fad 3 (.t 2)),
 .op (some 48) none (.ld1 (.t 47)),
 .op (some 49) none (.ibin .eql (.t 48) (.c (.i .i64 1500))),
 .op (some 50) none (.mv (.t 49)),
 .op (some 51) (some (50, true)) (.fad 0 (.t 2)),
 .op (some 52) (some (50, true)) (.ld1 (.t 51)),
 .op (some 53) (some (50, true)) (.ibin .eql (.t 52) (.c (.i .u64 1))),
 .op (some 54) none (.pick (.t 50) (.t 53) (.c (.b false))),
 .op (some 55) none (.mv (.t 54)),
 .op (some 56) (some (55, true)) (.fad 1 (.t 2)),
 .op (some 57) (some (55, true)) (.ld1 (.t 56)),
 .op (some 58) (some (55, true)) (.ibin .eql (.t 57) (.c (.i .u64 2))),
 .op (some 59) none (.pick (.t 55) (.t 58) (.c (.b false))),
 .op (some 60) none (.mv (.t 59)),
 .op (some 61) (some (60, true)) (.mv (.t 4)),
 .op (some 62) (some (60, true)) (.ibin .eql (.t 61) (.c (.i .i64 0))),
 .op (some 63) none (.pick (.t 60) (.t 62) (.c (.b false))),
 .op (some 64) none (.mv (.t 63)),
 .op (some 65) (some (64, true)) (.fad 3 (.t 3)),
 .op (some 66) (some (64, true)) (.ld1 (.t 65)),
 .op (some 67) (some (64, true)) (.ibin .eql (.t 66) (.c (.i .i64 500))),
 .op (some 68) none (.pick (.t 64) (.t 67) (.c (.b false))),
 .op (some 69) none (.mv (.t 68)),
 .op (some 70) (some (69, true)) (.fad 5 (.t 3)),
 .op (some 71) (some (69, true)) (.ld1 (.t 70)),
 .op (some 72) (some (69, true)) (.ibin .eql (.t 71) (.c (.i .u64 1000))),
 .op (some 73) none (.pick (.t 69) (.t 72) (.c (.b false))),
 .op (some 74) none (.mv (.t 73)),
 .op (some 75) (some (74, true)) (.fad 4 (.t 3)),
 .op (some 76) (some (74, true)) (.ld1 (.t 75)),
 .op (some 77) (some (74, true)) (.ibin .eql (.t 76) (.c (.i .u64 0))),
 .op (some 78) none (.pick (.t 74) (.t 77) (.c (.b false))),
 .op (some 79) none (.mv (.t 78)),
 .op (some 80) (some (79, true)) (.mv (.t 6)),
 .op (some 81) (some (79, true)) (.ibin .eql (.t 80) (.c (.i .i64 0))),
 .op (some 82) none (.pick (.t 79) (.t 81) (.c (.b false))),
 .op (some 83) none (.mv (.t 82)),
 .op (some 84) (some (83, true)) (.fad 3 (.t 5)),
 .op (some 85) (some (83, true)) (.ld1 (.t 84)),
 .op (some 86) (some (83, true)) (.ibin .eql (.t 85) (.c (.i .i64 (-100)))),
 .op (some 87) none (.pick (.t 83) (.t 86) (.c (.b false))),
 .op (some 88) none (.mv (.t 87)),
 .op (some 89) (some (88, true)) (.fad 4 (.t 5)),
 .op (some 90) (some (88, true)) (.ld1 (.t 89)),
 .op (some 91) (some (88, true)) (.ibin .eql (.t 90) (.c (.i .u64 1600008))),
 .op (some 92) none (.pick (.t 88) (.t 91) (.c (.b false))),
 .op (some 93) none (.mv (.t 92)),
 .op (some 94) (some (93, true)) (.fad 5 (.t 5)),
 .op (some 95) (some (93, true)) (.ld1 (.t 94)),
 .op (some 96) (some (93, true)) (.ibin .eql (.t 95) (.c (.i .u64 0))),
 .op (some 97) none (.pick (.t 93) (.t 96) (.c (.b false))),
 .op (some 98) none (.mv (.t 97)),
 .op (some 99) (some (98, true)) (.fad 3 (.t 7)),
 .op (some 100) (some (98, true)) (.ld1 (.t 99)),
 .op (some 101) (some (98, true)) (.ibin .eql (.t 100) (.c (.i .i64 900))),
 .op (some 102) none (.pick (.t 98) (.t 101) (.c (.b false))),
 .op (some 103) none (.mv (.t 102)),
 .op (some 104) (some (103, true)) (.mv (.t 10)),
 .op (some 105) (some (103, true)) (.ibin .eql (.t 104) (.c (.i .i64 0))),
 .op (some 106) none (.pick (.t 103) (.t 105) (.c (.b false))),
 .op (some 107) none (.mv (.t 106)),
 .op (some 108) (some (107, true)) (.fad 3 (.t 9)),
 .op (some 109) (some (107, true)) (.ld1 (.t 108)),
 .op (some 110) (some (107, true)) (.ibin .eql (.t 109) (.c (.i .i64 0))),
 .op (some 111) none (.pick (.t 107) (.t 110) (.c (.b false))),
 .op (some 112) none (.mv (.t 111)),
 .op (some 113) (some (112, true)) (.fad 4 (.t 9)),
 .op (some 114) (some (112, true)) (.ld1 (.t 113)),
 .op (some 115) (some (112, true)) (.ibin .eql (.t 114) (.c (.i .u64 2000000100))),
 .op (some 116) none (.pick (.t 112) (.t 115) (.c (.b false))),
 .op (some 117) none (.mv (.t 116)),
 .op (some 118) (some (117, true)) (.mv (.t 12)),
 .op (some 119) (some (117, true)) (.ibin .eql (.t 118) (.c (.i .i64 2))),
 .op (some 120) none (.pick (.t 117) (.t 119) (.c (.b false))),
 .op (some 0) none (.mv (.t 120))])
 (.ret)))))))))))),
 [.t 0]⟩
def k9 : List Nat := [0, 1, 2, 3, 4, 5, 6, 7, 8, 9, 10, 12]
set_option maxRecDepth 100000 in
theorem c9 : compF Go.Proofs.Try.prog 0 Go.Proofs.Try.f9 = some e9 := by kernel_rfl
/-- sandglass/flow.Born -/
def e10 : IFunc := ⟨12, 3,
 .seq (.reg [.op (some 5) none (.box (.t 2)),
 .op (some 6) none (.box (.c (.agg [(.i .u64 0), (.i .u64 0), (.i .u64 0), (.i .i64 0), (.i .u64 0), (.i .u64 0), (.i .u64 0)])))])
 (.seq (.reg [.op (some 7) none (.mv (.t 0)),
 .op (some 8) none (.mv (.t 1)),
 .op (some 9) none (.fad 1 (.t 5)),
 .op (some 10) none (.ld1 (.t 9)),
 .op (some 11) none (.build [(.i .u64 0), (.i .u64 0), (.i .u64 0), (.i .i64 0), (.i .u64 0), (.i .u64 0), (.i .u64 0)] [(0, 1, (.t 7)), (1, 1, (.t 8)), (3, 1, (.t 10))]),
 .op none none (.st 7 (.t 6) (.t 11))])
 (.ret)),
 [.cn 6 7]⟩
def k10 : List Nat := [0, 1, 2, 5, 6]
set_option maxRecDepth 100000 in
theorem c10 : compF Go.Proofs.Try.prog 3 Go.Proofs.Try.f10 = some e10 := by kernel_rfl
/-- sandglass/flow.Rate -/
def e11 : IFunc := ⟨10, 2,
 .seq (.reg [.op (some 2) none (.box (.t 0)),
 .op (some 3) none (.box (.t 1)),
 .op (some 4) none (.mv (.c (.i .u64 0)))])
 (.seq (.reg [.op (some 5) none (.fad 2 (.t 2)),
 .op (some 6) none (.ld1 (.t 5)),
 .op (some 7) none (.fad 3 (.t 3)),
 .op (some 8) none (.ld1 (.t 7)),
 .call (some 9) none (.c (.fn (.func 29) [] [])) [(.t 6), (.t 8)],
 .op (some 4) none (.mv (.t 9))])
 (.ret)),
 [.t 4]⟩
def k11 : List Nat := [0, 1, 2, 3, 4]
set_option maxRecDepth 100000 in
theorem c11 : compF Go.Proofs.Try.prog 2 Go.Proofs.Try.f11 = some e11 := by kernel_rfl
/-- sandglass/flow.Fill -/
def e12 : IFunc := ⟨12, 2,
 .seq (.reg [.op (some 2) none (.box (.t 0)),
 .op (some 3) none (.box (.t 1)),
 .op (some 4) none (.box (.c (.agg [(.i .u64 0), (.i .u64 0), (.i .u64 0), (.i .i64 0), (.i .u64 0), (.i .u64 0), (.i .u64 0)])))])
 (.seq (.reg [.op (some 5) none (.fad 3 (.t 2)),
 .op (some 6) none (.ld1 (.t 5)),
 .op (some 7) none (.fad 0 (.t 3)),
 .op (some 8) none (.ld1 (.t 7)),
 .op (some 9) none (.ibin .add (.t 6) (.t 8)),
 .op (some 10) none (.fad 3 (.t 2)),
 .op none none (.st 1 (.t 10) (.t 9))])
 (.seq (.reg [.op (some 11) none (.ldn 7 (.t 2)),
 .op none none (.st 7 (.t 4) (.t 11))])
 (.ret))),
 [.cn 4 7]⟩
def k12 : List Nat := [0, 1, 2, 3, 4]
set_option maxRecDepth 100000 in
theorem c12 : compF Go.Proofs.Try.prog 2 Go.Proofs.Try.f12 = some e12 := by kernel_rfl
/-- sandglass/flow.Ready -/
def e13 : IFunc := ⟨9, 2,
 .seq (.reg [.op (some 2) none (.box (.t 0)),
 .op (some 4) none (.mv (.c (.i .u64 0)))])
 (.seq (.reg [.op (some 5) none (.fad 4 (.t 2)),
 .op (some 6) none (.ld1 (.t 5)),
 .op (some 7) none (.mv (.t 1)),
 .op (some 8) none (.mx false (.t 6) [(.t 7)]),
 .op (some 4) none (.mv (.t 8))])
 (.ret)),
 [.t 4]⟩
def k13 : List Nat := [0, 1, 2, 4]
set_option maxRecDepth 100000 in
theorem c13 : compF Go.Proofs.Try.prog 2 Go.Proofs.Try.f13 = some e13 := by kernel_rfl
/-- sandglass/flow.Charge -/
def e14 : IFunc := ⟨27, 4,
 .seq (.reg [.op (some 4) none (.box (.t 0)),
 .op (some 7) none (.box (.t 3)),
 .op (some 8) none (.box (.c (.agg [(.i .u64 0), (.i .u64 0), (.i .u64 0), (.i .i64 0), (.i .u64 0), (.i .u64 0), (.i .u64 0)]))),
 .op (some 9) none (.mv (.c (.i .i64 0)))])
 (.seq (.seq (.reg [.op (some 11) none (.mv (.t 1)),
 .op (some 12) none (.ibin .lss (.t 11) (.c (.i .i64 1))),
 .op (some 13) none (.mv (.t 12)),
 .op (some 14) (some (13, false)) (.mv (.t 1)),
 .op (some 15) (some (13, false)) (.ibin .gtr (.t 14) (.c (.i .i64 65536))),
 .op (some 16) none (.pick (.t 13) (.c (.b true)) (.t 15))])
 (.cond (.t 16)
 (.seq (.reg [.op (some 17) none (.ldn 7 (.t 4)),
 .op none none (.st 7 (.t 8) (.t 17)),
 .op (some 9) none (.mv (.c (.i .i64 2)))])
 (.ret))
 (.skip)))
 (.seq (.reg [.op (some 10) none (.mv (.c (.fn (.func 30) [] [])))])
 (.seq (.reg [.op (some 18) none (.mv (.t 10)),
 .op (some 19) none (.ldn 7 (.t 4)),
 .op (some 20) none (.ldn 5 (.t 7)),
 .op (some 21) none (.build [(.i .u64 0), (.i .u64 0), (.i .u64 0), (.i .i64 0), (.i .u64 0), (.i .u64 0), (.i .u64 0), (.i .i64 0), (.i .i64 0), (.i .u64 0), (.i .u64 0), (.i .u64 0)] [(0, 7, (.t 19)), (7, 5, (.t 20))]),
 .op (some 22) none (.mv (.t 1)),
 .op (some 23) none (.conv .u64 (.t 22)),
 .op (some 24) none (.mv (.t 2)),
 .call (some 25) none (.t 18) [(.t 21), (.t 23), (.t 24)],
 .op (some 26) none (.fldn 0 7 (.t 25)),
 .op none none (.st 7 (.t 8) (.t 26)),
 .op (some 9) none (.mv (.c (.i .i64 0)))])
 (.ret)))),
 [.cn 8 7, .t 9]⟩
def k14 : List Nat := [0, 1, 2, 3, 4, 7, 8, 9, 10, 16]
set_option maxRecDepth 100000 in
theorem c14 : compF Go.Proofs.Try.prog 4 Go.Proofs.Try.f14 = some e14 := by kernel_rfl
/-- sandglass/flow.Rest -/
def e17 : IFunc := ⟨8, 2,
 .seq (.reg [.op (some 2) none (.box (.t 0)),
 .op (some 4) none (.box (.c (.agg [(.i .u64 0), (.i .u64 0), (.i .u64 0), (.i .i64 0), (.i .u64 0), (.i .u64 0), (.i .u64 0)])))])
 (.seq (.reg [.op (some 5) none (.mv (.t 1)),
 .op (some 6) none (.fad 6 (.t 2)),
 .op none none (.st 1 (.t 6) (.t 5))])
 (.seq (.reg [.op (some 7) none (.ldn 7 (.t 2)),
 .op none none (.st 7 (.t 4) (.t 7))])
 (.ret))),
 [.cn 4 7]⟩
def k17 : List Nat := [0, 1, 2, 4]
set_option maxRecDepth 100000 in
theorem c17 : compF Go.Proofs.Try.prog 2 Go.Proofs.Try.f17 = some e17 := by kernel_rfl
/-- sandglass/flow.Wake -/
def e18 : IFunc := ⟨15, 3,
 .seq (.reg [.op (some 3) none (.box (.t 0)),
 .op (some 5) none (.box (.t 2)),
 .op (some 6) none (.box (.c (.agg [(.i .u64 0), (.i .u64 0), (.i .u64 0), (.i .i64 0), (.i .u64 0), (.i .u64 0), (.i .u64 0)])))])
 (.seq (.reg [.op (some 7) none (.mv (.c (.fn (.func 33) [] [])))])
 (.seq (.reg [.op (some 8) none (.mv (.t 7)),
 .op (some 9) none (.ldn 7 (.t 3)),
 .op (some 10) none (.ldn 5 (.t 5)),
 .op (some 11) none (.build [(.i .u64 0), (.i .u64 0), (.i .u64 0), (.i .i64 0), (.i .u64 0), (.i .u64 0), (.i .u64 0), (.i .i64 0), (.i .i64 0), (.i .u64 0), (.i .u64 0), (.i .u64 0)] [(0, 7, (.t 9)), (7, 5, (.t 10))]),
 .op (some 12) none (.mv (.t 1)),
 .call (some 13) none (.t 8) [(.t 11), (.t 12)],
 .op (some 14) none (.fldn 0 7 (.t 13)),
 .op none none (.st 7 (.t 6) (.t 14))])
 (.ret))),
 [.cn 6 7]⟩
def k18 : List Nat := [0, 1, 2, 3, 5, 6, 7]
set_option maxRecDepth 100000 in
theorem c18 : compF Go.Proofs.Try.prog 3 Go.Proofs.Try.f18 = some e18 := by kernel_rfl
/-- sandglass/sandglassref12.Right -/
def e19 : IFunc := ⟨29, 1,
 .seq (.reg [.op (some 1) none (.box (.t 0)),
 .op (some 2) none (.mv (.c (.b false)))])
 (.seq (.seq (.reg [.op (some 3) none (.fad 0 (.t 1)),
 .op (some 4) none (.ld1 (.t 3)),
 .op (some 5) none (.ibin .lss (.t 4) (.c (.i .i64 1))),
 .op (some 6) none (.mv (.t 5)),
 .op (some 7) (some (6, false)) (.fad 0 (.t 1)),
 .op (some 8) (some (6, false)) (.ld1 (.t 7)),
 .op (some 9) (some (6, false)) (.ibin .gtr (.t 8) (.c (.i .i64 1048576))),
 .op (some 10) none (.pick (.t 6) (.c (.b true)) (.t 9)),
 .op (some 11) none (.mv (.t 10)),
 .op (some 12) (some (11, false)) (.fad 1 (.t 1)),
 .op (some 13) (some (11, false)) (.ld1 (.t 12)),
 .op (some 14) (some (11, false)) (.ibin .lss (.t 13) (.c (.i .i64 1))),
 .op (some 15) none (.pick (.t 11) (.c (.b true)) (.t 14)),
 .op (some 16) none (.mv (.t 15)),
 .op (some 17) (some (16, false)) (.fad 1 (.t 1)),
 .op (some 18) (some (16, false)) (.ld1 (.t 17)),
 .op (some 19) (some (16, false)) (.ibin .gtr (.t 18) (.c (.i .i64 1048576))),
 .op (some 20) none (.pick (.t 16) (.c (.b true)) (.t 19))])
 (.cond (.t 20)
 (.seq (.reg [.op (some 2) none (.mv (.c (.b false)))])
 (.ret))
 (.skip)))
 (.seq (.reg [.op (some 21) none (.fad 3 (.t 1)),
 .op (some 22) none (.ld1 (.t 21)),
 .op (some 23) none (.ibin .leq (.t 22) (.c (.i .u64 1099511627776))),
 .op (some 24) none (.mv (.t 23)),
 .op (some 25) (some (24, true)) (.fad 4 (.t 1)),
 .op (some 26) (some (24, true)) (.ld1 (.t 25)),
 .op (some 27) (some (24, true)) (.ibin .leq (.t 26) (.c (.i .u64 1099511627776))),
 .op (some 28) none (.pick (.t 24) (.t 27) (.c (.b false))),
 .op (some 2) none (.mv (.t 28))])
 (.ret))),
 [.t 2]⟩
def k19 : List Nat := [0, 1, 2, 20]
set_option maxRecDepth 100000 in
theorem c19 : compF Go.Proofs.Try.prog 1 Go.Proofs.Try.f19 = some e19 := by kernel_rfl
/-- sandglass/sandglassref12.Born -/
def e20 : IFunc := ⟨16, 3,
 .seq (.reg [.op (some 5) none (.box (.t 2)),
 .op (some 6) none (.box (.c (.agg [(.i .u64 0), (.i .u64 0), (.i .u64 0), (.i .i64 0), (.i .u64 0), (.i .u64 0), (.i .u64 0)])))])
 (.seq (.reg [.op (some 7) none (.box (.c (.agg [(.i .u64 0), (.i .u64 0), (.i .u64 0), (.i .i64 0), (.i .u64 0), (.i .u64 0), (.i .u64 0)])))])
 (.seq (.dreg [.op (some 8) none (.mv (.t 0)),
 .op (some 9) none (.mv (.t 1)),
 .op (some 10) none (.fad 1 (.t 5)),
 .op (some 11) none (.ld1 (.t 10)),
 .op (some 12) none (.fad 0 (.t 7)),
 .op none none (.st 1 (.t 12) (.t 8)),
 .op (some 13) none (.fad 1 (.t 7)),
 .op none none (.st 1 (.t 13) (.t 9)),
 .op (some 14) none (.fad 3 (.t 7)),
 .op none none (.st 1 (.t 14) (.t 11))]
 [0, 1, 2, 3, 4, 5, 6, 7, 8, 9] [0, 0, 0, 4, 1, 17, 51, 115, 255, 511])
 (.seq (.reg [.op (some 15) none (.ldn 7 (.t 7)),
 .op none none (.st 7 (.t 6) (.t 15))])
 (.ret)))),
 [.cn 6 7]⟩
def k20 : List Nat := [0, 1, 2, 5, 6, 7]
set_option maxRecDepth 100000 in
theorem c20 : compF Go.Proofs.Try.prog 3 Go.Proofs.Try.f20 = some e20 := by kernel_rfl
/-- sandglass/sandglassref12.Charge -/
def e21 : IFunc := ⟨58, 4,
 .seq (.reg [.op (some 4) none (.box (.t 0)),
 .op (some 7) none (.box (.t 3)),
 .op (some 8) none (.box (.c (.agg [(.i .u64 0), (.i .u64 0), (.i .u64 0), (.i .i64 0), (.i .u64 0), (.i .u64 0), (.i .u64 0)]))),
 .op (some 9) none (.mv (.c (.i .i64 0)))])
 (.seq (.seq (.reg [.op (some 12) none (.mv (.t 1)),
 .op (some 13) none (.ibin .lss (.t 12) (.c (.i .i64 1))),
 .op (some 14) none (.mv (.t 13)),
 .op (some 15) (some (14, false)) (.mv (.t 1)),
 .op (some 16) (some (14, false)) (.ibin .gtr (.t 15) (.c (.i .i64 65536))),
 .op (some 17) none (.pick (.t 14) (.c (.b true)) (.t 16))])
 (.cond (.t 17)
 (.seq (.reg [.op (some 18) none (.ldn 7 (.t 4)),
 .op none none (.st 7 (.t 8) (.t 18)),
 .op (some 9) none (.mv (.c (.i .i64 2)))])
 (.ret))
 (.skip)))
 (.seq (.reg [.op (some 19) none (.fad 3 (.t 4)),
 .op (some 20) none (.ld1 (.t 19)),
 .op (some 21) none (.mv (.t 1)),
 .op (some 22) none (.ibin .sub (.t 20) (.t 21)),
 .op (some 23) none (.fad 3 (.t 4)),
 .op none none (.st 1 (.t 23) (.t 22))])
 (.seq (.reg [.op (some 24) none (.ldn 7 (.t 4)),
 .op (some 25) none (.ldn 5 (.t 7)),
 .call (some 26) none (.c (.fn (.func 25) [] [])) [(.t 24), (.t 25)],
 .op (some 10) none (.mv (.t 26))])
 (.seq (.seq (.reg [.op (some 27) none (.mv (.t 10)),
 .op (some 28) none (.ibin .eql (.t 27) (.c (.i .u64 0)))])
 (.cond (.t 28)
 (.seq (.reg [.op (some 29) none (.ldn 7 (.t 4)),
 .op none none (.st 7 (.t 8) (.t 29)),
 .op (some 9) none (.mv (.c (.i .i64 0)))])
 (.ret))
 (.skip)))
 (.seq (.reg [.op (some 30) none (.fad 5 (.t 4)),
 .op (some 31) none (.ld1 (.t 30)),
 .op (some 32) none (.mv (.t 1)),
 .op (some 33) none (.conv .u64 (.t 32)),
 .op (some 34) none (.ibin .add (.t 31) (.t 33)),
 .op (some 35) none (.fad 5 (.t 4)),
 .op none none (.st 1 (.t 35) (.t 34))])
 (.seq (.reg [.op (some 36) none (.mv (.t 10)),
 .op (some 37) none (.fad 4 (.t 7)),
 .op (some 38) none (.ld1 (.t 37)),
 .op (some 39) none (.ibin .lss (.t 36) (.t 38)),
 .op (some 11) none (.mv (.t 39))])
 (.seq (.seq (.reg [.op (some 40) none (.mv (.t 11)),
 .op (some 41) none (.mv (.t 40)),
 .op (some 42) (some (41, false)) (.fad 3 (.t 4)),
 .op (some 43) (some (41, false)) (.ld1 (.t 42)),
 .op (some 44) (some (41, false)) (.ibin .leq (.t 43) (.c (.i .i64 0))),
 .op (some 45) none (.pick (.t 41) (.c (.b true)) (.t 44))])
 (.cond (.t 45)
 (.reg [.op (some 46) none (.ldn 7 (.t 4)),
 .op (some 47) none (.mv (.t 2)),
 .op (some 48) none (.mv (.t 10)),
 .call (some 49) none (.c (.fn (.func 34) [] [])) [(.t 46), (.t 47), (.t 48)],
 .op none none (.st 7 (.t 4) (.t 49))])
 (.skip)))
 (.seq (.seq (.reg [.op (some 50) none (.mv (.t 11)),
 .op (some 51) none (.mv (.t 50)),
 .op (some 52) (some (51, true)) (.fad 3 (.t 4)),
 .op (some 53) (some (51, true)) (.ld1 (.t 52)),
 .op (some 54) (some (51, true)) (.ibin .gtr (.t 53) (.c (.i .i64 0))),
 .op (some 55) none (.pick (.t 51) (.t 54) (.c (.b false)))])
 (.cond (.t 55)
 (.reg [.op (some 56) none (.fad 3 (.t 4)),
 .op none none (.st 1 (.t 56) (.c (.i .i64 0)))])
 (.skip)))
 (.seq (.reg [.op (some 57) none (.ldn 7 (.t 4)),
 .op none none (.st 7 (.t 8) (.t 57)),
 .op (some 9) none (.mv (.c (.i .i64 0)))])
 (.ret)))))))))),
 [.cn 8 7, .t 9]⟩
def k21 : List Nat := [0, 1, 2, 3, 4, 7, 8, 9, 10, 11, 17, 28, 45, 55]
set_option maxRecDepth 100000 in
theorem c21 : compF Go.Proofs.Try.prog 4 Go.Proofs.Try.f21 = some e21 := by kernel_rfl
/-- sandglass/sandglassref12.Fill -/
def e22 : IFunc := ⟨12, 2,
 .seq (.reg [.op (some 2) none (.box (.t 0)),
 .op (some 3) none (.box (.t 1)),
 .op (some 4) none (.box (.c (.agg [(.i .u64 0), (.i .u64 0), (.i .u64 0), (.i .i64 0), (.i .u64 0), (.i .u64 0), (.i .u64 0)])))])
 (.seq (.reg [.op (some 5) none (.fad 3 (.t 2)),
 .op (some 6) none (.ld1 (.t 5)),
 .op (some 7) none (.fad 0 (.t 3)),
 .op (some 8) none (.ld1 (.t 7)),
 .op (some 9) none (.ibin .add (.t 6) (.t 8)),
 .op (some 10) none (.fad 3 (.t 2)),
 .op none none (.st 1 (.t 10) (.t 9))])
 (.seq (.reg [.op (some 11) none (.ldn 7 (.t 2)),
 .op none none (.st 7 (.t 4) (.t 11))])
 (.ret))),
 [.cn 4 7]⟩
def k22 : List Nat := [0, 1, 2, 3, 4]
set_option maxRecDepth 100000 in
theorem c22 : compF Go.Proofs.Try.prog 2 Go.Proofs.Try.f22 = some e22 := by kernel_rfl
/-- sandglass/sandglassref12.Rest -/
def e23 : IFunc := ⟨8, 2,
 .seq (.reg [.op (some 2) none (.box (.t 0)),
 .op (some 4) none (.box (.c (.agg [(.i .u64 0), (.i .u64 0), (.i .u64 0), (.i .i64 0), (.i .u64 0), (.i .u64 0), (.i .u64 0)])))])
 (.seq (.reg [.op (some 5) none (.mv (.t 1)),
 .op (some 6) none (.fad 6 (.t 2)),
 .op none none (.st 1 (.t 6) (.t 5))])
 (.seq (.reg [.op (some 7) none (.ldn 7 (.t 2)),
 .op none none (.st 7 (.t 4) (.t 7))])
 (.ret))),
 [.cn 4 7]⟩
def k23 : List Nat := [0, 1, 2, 4]
set_option maxRecDepth 100000 in
theorem c23 : compF Go.Proofs.Try.prog 2 Go.Proofs.Try.f23 = some e23 := by kernel_rfl
/-- sandglass/sandglassref12.Wake -/
def e24 : IFunc := ⟨41, 3,
 .seq (.reg [.op (some 3) none (.box (.t 0)),
 .op (some 5) none (.box (.t 2)),
 .op (some 6) none (.box (.c (.agg [(.i .u64 0), (.i .u64 0), (.i .u64 0), (.i .i64 0), (.i .u64 0), (.i .u64 0), (.i .u64 0)])))])
 (.seq (.seq (.reg [.op (some 8) none (.mv (.t 1)),
 .op (some 9) none (.fad 6 (.t 3)),
 .op (some 10) none (.ld1 (.t 9)),
 .op (some 11) none (.fad 2 (.t 5)),
 .op (some 12) none (.ld1 (.t 11)),
 .call (some 13) none (.c (.fn (.func 35) [] [])) [(.t 10), (.t 12)],
 .op (some 14) none (.ibin .lss (.t 8) (.t 13))])
 (.cond (.t 14)
 (.seq (.reg [.op (some 15) none (.ldn 7 (.t 3)),
 .op none none (.st 7 (.t 6) (.t 15))])
 (.ret))
 (.skip)))
 (.seq (.reg [.op (some 16) none (.ldn 7 (.t 3)),
 .op (some 17) none (.ldn 5 (.t 5)),
 .call (some 18) none (.c (.fn (.func 25) [] [])) [(.t 16), (.t 17)],
 .op (some 7) none (.mv (.t 18))])
 (.seq (.seq (.reg [.op (some 19) none (.mv (.t 7)),
 .op (some 20) none (.ibin .gtr (.t 19) (.c (.i .u64 0))),
 .op (some 21) none (.mv (.t 20)),
 .op (some 22) (some (21, true)) (.fad 5 (.t 3)),
 .op (some 23) (some (21, true)) (.ld1 (.t 22)),
 .op (some 24) (some (21, true)) (.ibin .gtr (.t 23) (.c (.i .u64 0))),
 .op (some 25) none (.pick (.t 21) (.t 24) (.c (.b false)))])
 (.cond (.t 25)
 (.reg [.op (some 26) none (.ldn 7 (.t 3)),
 .op (some 27) none (.fad 6 (.t 3)),
 .op (some 28) none (.ld1 (.t 27)),
 .op (some 29) none (.mv (.t 7)),
 .call (some 30) none (.c (.fn (.func 34) [] [])) [(.t 26), (.t 28), (.t 29)],
 .op none none (.st 7 (.t 3) (.t 30))])
 (.skip)))
 (.seq (.reg [.op (some 31) none (.fad 5 (.t 3)),
 .op none none (.st 1 (.t 31) (.c (.i .u64 0)))])
 (.seq (.seq (.reg [.op (some 32) none (.fad 3 (.t 3)),
 .op (some 33) none (.ld1 (.t 32)),
 .op (some 34) none (.fad 0 (.t 5)),
 .op (some 35) none (.ld1 (.t 34)),
 .op (some 36) none (.ibin .lss (.t 33) (.t 35))])
 (.cond (.t 36)
 (.reg [.op (some 37) none (.fad 0 (.t 5)),
 .op (some 38) none (.ld1 (.t 37)),
 .op (some 39) none (.fad 3 (.t 3)),
 .op none none (.st 1 (.t 39) (.t 38))])
 (.skip)))
 (.seq (.reg [.op (some 40) none (.ldn 7 (.t 3)),
 .op none none (.st 7 (.t 6) (.t 40))])
 (.ret))))))),
 [.cn 6 7]⟩
def k24 : List Nat := [0, 1, 2, 3, 5, 6, 7, 14, 25, 36]
set_option maxRecDepth 100000 in
theorem c24 : compF Go.Proofs.Try.prog 3 Go.Proofs.Try.f24 = some e24 := by kernel_rfl
/-- sandglass/sandglassref12.Rate -/
def e25 : IFunc := ⟨10, 2,
 .seq (.reg [.op (some 2) none (.box (.t 0)),
 .op (some 3) none (.box (.t 1)),
 .op (some 4) none (.mv (.c (.i .u64 0)))])
 (.seq (.reg [.op (some 5) none (.fad 2 (.t 2)),
 .op (some 6) none (.ld1 (.t 5)),
 .op (some 7) none (.fad 3 (.t 3)),
 .op (some 8) none (.ld1 (.t 7)),
 .call (some 9) none (.c (.fn (.func 36) [] [])) [(.t 6), (.t 8)],
 .op (some 4) none (.mv (.t 9))])
 (.ret)),
 [.t 4]⟩
def k25 : List Nat := [0, 1, 2, 3, 4]
set_option maxRecDepth 100000 in
theorem c25 : compF Go.Proofs.Try.prog 2 Go.Proofs.Try.f25 = some e25 := by kernel_rfl
/-- sandglass/sandglassref12.Ready -/
def e26 : IFunc := ⟨12, 2,
 .seq (.reg [.op (some 2) none (.box (.t 0)),
 .op (some 4) none (.mv (.c (.i .u64 0)))])
 (.seq (.seq (.reg [.op (some 5) none (.fad 4 (.t 2)),
 .op (some 6) none (.ld1 (.t 5)),
 .op (some 7) none (.mv (.t 1)),
 .op (some 8) none (.ibin .gtr (.t 6) (.t 7))])
 (.cond (.t 8)
 (.seq (.reg [.op (some 9) none (.fad 4 (.t 2)),
 .op (some 10) none (.ld1 (.t 9)),
 .op (some 4) none (.mv (.t 10))])
 (.ret))
 (.skip)))
 (.seq (.reg [.op (some 11) none (.mv (.t 1)),
 .op (some 4) none (.mv (.t 11))])
 (.ret))),
 [.t 4]⟩
def k26 : List Nat := [0, 1, 2, 4, 8]
set_option maxRecDepth 100000 in
theorem c26 : compF Go.Proofs.Try.prog 2 Go.Proofs.Try.f26 = some e26 := by kernel_rfl
/-- sandglass/sandglasslaw12.Pace -/
def e27 : IFunc := ⟨24, 5,
 .seq (.reg [.op (some 10) none (.box (.c (.agg [(.i .i64 0), (.i .i64 0), (.i .u64 0), (.i .u64 0), (.i .u64 0)])))])
 (.seq (.reg [.op (some 11) none (.mv (.t 0)),
 .op (some 12) none (.conv .i64 (.t 11)),
 .op (some 13) none (.ibin .add (.c (.i .i64 1)) (.t 12)),
 .op (some 14) none (.mv (.t 1)),
 .op (some 15) none (.conv .i64 (.t 14)),
 .op (some 16) none (.ibin .add (.c (.i .i64 1)) (.t 15)),
 .op (some 17) none (.mv (.t 2)),
 .op (some 18) none (.conv .u64 (.t 17)),
 .op (some 19) none (.mv (.t 3)),
 .op (some 20) none (.ibin .rem (.t 19) (.c (.i .u64 1099511627777))),
 .op (some 21) none (.mv (.t 4)),
 .op (some 22) none (.ibin .rem (.t 21) (.c (.i .u64 1099511627777))),
 .op (some 23) none (.build [(.i .i64 0), (.i .i64 0), (.i .u64 0), (.i .u64 0), (.i .u64 0)] [(0, 1, (.t 13)), (1, 1, (.t 16)), (2, 1, (.t 18)), (3, 1, (.t 20)), (4, 1, (.t 22))]),
 .op none none (.st 5 (.t 10) (.t 23))])
 (.ret)),
 [.cn 10 5]⟩
def k27 : List Nat := [0, 1, 2, 3, 4, 10]
set_option maxRecDepth 100000 in
theorem c27 : compF Go.Proofs.Try.prog 5 Go.Proofs.Try.f27 = some e27 := by kernel_rfl
/-- (sandglass/flow.step).charged -/
def e30 : IFunc := ⟨50, 3,
 .seq (.reg [.op (some 3) none (.box (.t 0)),
 .op (some 6) none (.box (.c (.agg [(.i .u64 0), (.i .u64 0), (.i .u64 0), (.i .i64 0), (.i .u64 0), (.i .u64 0), (.i .u64 0), (.i .i64 0), (.i .i64 0), (.i .u64 0), (.i .u64 0), (.i .u64 0)])))])
 (.seq (.reg [.op (some 8) none (.fad 0 (.t 3)),
 .op (some 9) none (.fad 3 (.t 8)),
 .op (some 10) none (.ld1 (.t 9)),
 .op (some 11) none (.mv (.t 1)),
 .op (some 12) none (.conv .i64 (.t 11)),
 .op (some 13) none (.ibin .sub (.t 10) (.t 12)),
 .op (some 14) none (.fad 0 (.t 3)),
 .op (some 15) none (.fad 3 (.t 14)),
 .op none none (.st 1 (.t 15) (.t 13))])
 (.seq (.reg [.op (some 16) none (.fad 0 (.t 3)),
 .op (some 17) none (.ldn 7 (.t 16)),
 .op (some 18) none (.fad 7 (.t 3)),
 .op (some 19) none (.ldn 5 (.t 18)),
 .call (some 20) none (.c (.fn (.func 11) [] [])) [(.t 17), (.t 19)],
 .op (some 7) none (.mv (.t 20))])
 (.seq (.seq (.reg [.op (some 21) none (.mv (.t 7)),
 .op (some 22) none (.ibin .eql (.t 21) (.c (.i .u64 0)))])
 (.cond (.t 22)
 (.seq (.reg [.op (some 23) none (.ldn 12 (.t 3)),
 .op none none (.st 12 (.t 6) (.t 23))])
 (.ret))
 (.skip)))
 (.seq (.reg [.op (some 24) none (.fad 0 (.t 3)),
 .op (some 25) none (.fad 5 (.t 24)),
 .op (some 26) none (.ld1 (.t 25)),
 .op (some 27) none (.mv (.t 1)),
 .op (some 28) none (.ibin .add (.t 26) (.t 27)),
 .op (some 29) none (.fad 0 (.t 3)),
 .op (some 30) none (.fad 5 (.t 29)),
 .op none none (.st 1 (.t 30) (.t 28))])
 (.seq (.seq (.reg [.op (some 31) none (.mv (.t 7)),
 .op (some 32) none (.fad 7 (.t 3)),
 .op (some 33) none (.fad 4 (.t 32)),
 .op (some 34) none (.ld1 (.t 33)),
 .op (some 35) none (.ibin .lss (.t 31) (.t 34))])
 (.cond (.t 35)
 (.reg [.op (some 36) none (.fad 0 (.t 3)),
 .op (some 37) none (.fad 3 (.t 36)),
 .op (some 38) none (.ld1 (.t 37)),
 .op (some 39) none (.mx true (.t 38) [(.c (.i .i64 0))]),
 .op (some 40) none (.fad 0 (.t 3)),
 .op (some 41) none (.fad 3 (.t 40)),
 .op none none (.st 1 (.t 41) (.t 39))])
 (.skip)))
 (.seq (.seq (.reg [.op (some 42) none (.fad 0 (.t 3)),
 .op (some 43) none (.fad 3 (.t 42)),
 .op (some 44) none (.ld1 (.t 43)),
 .op (some 45) none (.ibin .leq (.t 44) (.c (.i .i64 0)))])
 (.cond (.t 45)
 (.seq (.reg [.op (some 46) none (.ldn 12 (.t 3)),
 .op (some 47) none (.mv (.t 2)),
 .call (some 48) none (.c (.fn (.func 39) [] [])) [(.t 46), (.t 47)],
 .op none none (.st 12 (.t 6) (.t 48))])
 (.ret))
 (.skip)))
 (.seq (.reg [.op (some 49) none (.ldn 12 (.t 3)),
 .op none none (.st 12 (.t 6) (.t 49))])
 (.ret)))))))),
 [.cn 6 12]⟩
def k30 : List Nat := [0, 1, 2, 3, 6, 7, 22, 35, 45]
set_option maxRecDepth 100000 in
theorem c30 : compF Go.Proofs.Try.prog 3 Go.Proofs.Try.f30 = some e30 := by kernel_rfl
/-- (sandglass/flow.step).woken -/
def e33 : IFunc := ⟨30, 2,
 .seq (.reg [.op (some 2) none (.box (.t 0)),
 .op (some 4) none (.box (.c (.agg [(.i .u64 0), (.i .u64 0), (.i .u64 0), (.i .i64 0), (.i .u64 0), (.i .u64 0), (.i .u64 0), (.i .i64 0), (.i .i64 0), (.i .u64 0), (.i .u64 0), (.i .u64 0)])))])
 (.seq (.seq (.reg [.op (some 5) none (.mv (.t 1)),
 .op (some 6) none (.fad 0 (.t 2)),
 .op (some 7) none (.fad 6 (.t 6)),
 .op (some 8) none (.ld1 (.t 7)),
 .op (some 9) none (.fad 7 (.t 2)),
 .op (some 10) none (.fad 2 (.t 9)),
 .op (some 11) none (.ld1 (.t 10)),
 .call (some 12) none (.c (.fn (.func 15) [] [])) [(.t 8), (.t 11)],
 .op (some 13) none (.ibin .lss (.t 5) (.t 12))])
 (.cond (.t 13)
 (.seq (.reg [.op (some 14) none (.ldn 12 (.t 2)),
 .op none none (.st 12 (.t 4) (.t 14))])
 (.ret))
 (.skip)))
 (.seq (.reg [.op (some 15) none (.ldn 12 (.t 2)),
 .op (some 16) none (.fad 0 (.t 2)),
 .op (some 17) none (.fad 6 (.t 16)),
 .op (some 18) none (.ld1 (.t 17)),
 .call (some 19) none (.c (.fn (.func 39) [] [])) [(.t 15), (.t 18)],
 .op none none (.st 12 (.t 2) (.t 19))])
 (.seq (.reg [.op (some 20) none (.fad 0 (.t 2)),
 .op (some 21) none (.fad 3 (.t 20)),
 .op (some 22) none (.ld1 (.t 21)),
 .op (some 23) none (.fad 7 (.t 2)),
 .op (some 24) none (.fad 0 (.t 23)),
 .op (some 25) none (.ld1 (.t 24)),
 .op (some 26) none (.mx false (.t 22) [(.t 25)]),
 .op (some 27) none (.fad 0 (.t 2)),
 .op (some 28) none (.fad 3 (.t 27)),
 .op none none (.st 1 (.t 28) (.t 26))])
 (.seq (.reg [.op (some 29) none (.ldn 12 (.t 2)),
 .op none none (.st 12 (.t 4) (.t 29))])
 (.ret))))),
 [.cn 4 12]⟩
def k33 : List Nat := [0, 1, 2, 4, 13]
set_option maxRecDepth 100000 in
theorem c33 : compF Go.Proofs.Try.prog 2 Go.Proofs.Try.f33 = some e33 := by kernel_rfl
/-- sandglass/sandglassref12.pay -/
def e34 : IFunc := ⟨22, 3,
 .seq (.reg [.op (some 3) none (.box (.t 0)),
 .op (some 6) none (.box (.c (.agg [(.i .u64 0), (.i .u64 0), (.i .u64 0), (.i .i64 0), (.i .u64 0), (.i .u64 0), (.i .u64 0)])))])
 (.seq (.reg [.op (some 8) none (.mv (.t 1)),
 .op (some 9) none (.fad 5 (.t 3)),
 .op (some 10) none (.ld1 (.t 9)),
 .op (some 11) none (.mv (.t 2)),
 .call (some 12) none (.c (.fn (.func 42) [] [])) [(.t 10), (.t 11)],
 .call (some 13) none (.c (.fn (.func 35) [] [])) [(.t 8), (.t 12)],
 .op (some 7) none (.mv (.t 13))])
 (.seq (.seq (.reg [.op (some 14) none (.mv (.t 7)),
 .op (some 15) none (.fad 4 (.t 3)),
 .op (some 16) none (.ld1 (.t 15)),
 .op (some 17) none (.ibin .gtr (.t 14) (.t 16))])
 (.cond (.t 17)
 (.reg [.op (some 18) none (.mv (.t 7)),
 .op (some 19) none (.fad 4 (.t 3)),
 .op none none (.st 1 (.t 19) (.t 18))])
 (.skip)))
 (.seq (.reg [.op (some 20) none (.fad 5 (.t 3)),
 .op none none (.st 1 (.t 20) (.c (.i .u64 0)))])
 (.seq (.reg [.op (some 21) none (.ldn 7 (.t 3)),
 .op none none (.st 7 (.t 6) (.t 21))])
 (.ret))))),
 [.cn 6 7]⟩
def k34 : List Nat := [0, 1, 2, 3, 6, 7, 17]
set_option maxRecDepth 100000 in
theorem c34 : compF Go.Proofs.Try.prog 3 Go.Proofs.Try.f34 = some e34 := by kernel_rfl
/-- sandglass/span.least[uint64] -/
def e38 : IFunc := ⟨19, 2,
 .seq (.reg [.op (some 4) none (.mv (.c (.i .u64 0)))])
 (.seq (.reg [.op (some 5) none (.mv (.c (.i .u64 0)))])
 (.seq (.block 0
 (.seq (.reg [.op (some 7) none (.mv (.t 0)),
 .op (some 8) none (.mv (.t 5)),
 .op (some 9) none (.ibin .eql (.t 7) (.t 8)),
 .op (some 6) none (.mv (.t 9))])
 (.cond (.t 6)
 (.seq (.reg [.op (some 10) none (.mv (.t 1)),
 .op (some 4) none (.mv (.t 10))])
 (.ret))
 (.seq (.reg [.op (some 12) none (.mv (.t 1)),
 .op (some 13) none (.mv (.t 5)),
 .op (some 14) none (.ibin .eql (.t 12) (.t 13)),
 .op (some 11) none (.mv (.t 14))])
 (.cond (.t 11)
 (.seq (.reg [.op (some 15) none (.mv (.t 0)),
 .op (some 4) none (.mv (.t 15))])
 (.ret))
 (.skip))))))
 (.seq (.reg [.op (some 16) none (.mv (.t 0)),
 .op (some 17) none (.mv (.t 1)),
 .op (some 18) none (.mx true (.t 16) [(.t 17)]),
 .op (some 4) none (.mv (.t 18))])
 (.ret)))),
 [.t 4]⟩
def k38 : List Nat := [0, 1, 4, 5, 6, 11]
set_option maxRecDepth 100000 in
theorem c38 : compF Go.Proofs.Try.prog 2 Go.Proofs.Try.f38 = some e38 := by kernel_rfl
/-- (sandglass/flow.step).pays -/
def e39 : IFunc := ⟨35, 2,
 .seq (.reg [.op (some 2) none (.box (.t 0)),
 .op (some 4) none (.box (.c (.agg [(.i .u64 0), (.i .u64 0), (.i .u64 0), (.i .i64 0), (.i .u64 0), (.i .u64 0), (.i .u64 0), (.i .i64 0), (.i .i64 0), (.i .u64 0), (.i .u64 0), (.i .u64 0)])))])
 (.seq (.seq (.reg [.op (some 6) none (.fad 0 (.t 2)),
 .op (some 7) none (.ldn 7 (.t 6)),
 .op (some 8) none (.fad 7 (.t 2)),
 .op (some 9) none (.ldn 5 (.t 8)),
 .call (some 10) none (.c (.fn (.func 11) [] [])) [(.t 7), (.t 9)],
 .op (some 5) none (.mv (.t 10))])
 (.seq (.reg [.op (some 11) none (.mv (.t 5)),
 .op (some 12) none (.ibin .gtr (.t 11) (.c (.i .u64 0))),
 .op (some 13) none (.mv (.t 12)),
 .op (some 14) (some (13, true)) (.fad 0 (.t 2)),
 .op (some 15) (some (13, true)) (.fad 5 (.t 14)),
 .op (some 16) (some (13, true)) (.ld1 (.t 15)),
 .op (some 17) (some (13, true)) (.ibin .gtr (.t 16) (.c (.i .u64 0))),
 .op (some 18) none (.pick (.t 13) (.t 17) (.c (.b false)))])
 (.cond (.t 18)
 (.dreg [.op (some 19) none (.fad 0 (.t 2)),
 .op (some 20) none (.fad 4 (.t 19)),
 .op (some 21) none (.ld1 (.t 20)),
 .op (some 22) none (.mv (.t 1)),
 .op (some 23) none (.fad 0 (.t 2)),
 .op (some 24) none (.fad 5 (.t 23)),
 .op (some 25) none (.ld1 (.t 24)),
 .op (some 26) none (.mv (.t 5)),
 .call (some 27) none (.c (.fn (.func 16) [] [])) [(.t 25), (.t 26)],
 .call (some 28) none (.c (.fn (.func 15) [] [])) [(.t 22), (.t 27)],
 .op (some 29) none (.mx false (.t 21) [(.t 28)]),
 .op (some 30) none (.fad 0 (.t 2)),
 .op (some 31) none (.fad 4 (.t 30)),
 .op none none (.st 1 (.t 31) (.t 29))]
 [0, 1, 2, 3, 4, 5, 6, 7, 8, 9, 10, 11, 12, 13] [0, 1, 3, 0, 0, 16, 48, 0, 240, 504, 1023, 2047, 4095, 8191])
 (.skip))))
 (.seq (.reg [.op (some 32) none (.fad 0 (.t 2)),
 .op (some 33) none (.fad 5 (.t 32)),
 .op none none (.st 1 (.t 33) (.c (.i .u64 0)))])
 (.seq (.reg [.op (some 34) none (.ldn 12 (.t 2)),
 .op none none (.st 12 (.t 4) (.t 34))])
 (.ret)))),
 [.cn 4 12]⟩
def k39 : List Nat := [0, 1, 2, 4, 5, 18]
set_option maxRecDepth 100000 in
theorem c39 : compF Go.Proofs.Try.prog 2 Go.Proofs.Try.f39 = some e39 := by kernel_rfl
end Go.Proofs.Ytdkcgcijppmkiaa.IR
