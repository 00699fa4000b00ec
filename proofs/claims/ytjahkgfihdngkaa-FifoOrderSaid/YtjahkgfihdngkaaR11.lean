/- One text of a proof that a law answers true for every input. No condition. -/
import Derived.Test.YtjahkgfihdngkaaProg
import Derived.Test.YtjahkgfihdngkaaEvE
import Derived.KernelRfl
set_option linter.unusedVariables false
set_option linter.unusedSimpArgs false
set_option linter.constructorNameAsVariable false
namespace Go.Proofs.Ytjahkgfihdngkaa.IR
open Go Go.Proofs.Ytjahkgfihdngkaa.Ev
/-- gosem.cut.init -/
def e2 : IFunc := ⟨1, 0,
 .reg [.call (some 0) none (.c (.fn (.func 1) [] [])) []],
 []⟩
def k2 : List Nat := []
set_option maxRecDepth 100000 in
theorem c2 : compF Go.Proofs.Try.prog 0 Go.Proofs.Try.f2 = some e2 := by kernel_rfl
/-- sandglass/sandglasslaw11.FifoTells -/
def e3 : IFunc := ⟨166, 2,
 .seq (.reg [.op (some 4) none (.mv (.c (.b false)))])
 (.seq (.reg [.op (some 28) none (.mv (.t 0)),
 .call (some 29) none (.c (.fn (.func 9) [] [])) [(.t 28)],
 .op (some 27) none (.mv (.t 29)),
 .op (some 30) none (.ext (.t 27) 0),
 .op (some 31) none (.ext (.t 27) 1),
 .op (some 5) none (.mv (.t 30)),
 .op (some 6) none (.mv (.t 31))])
 (.seq (.reg [.op (some 33) none (.mv (.t 0)),
 .call (some 34) none (.c (.fn (.func 10) [] [])) [(.t 33)],
 .op (some 32) none (.mv (.t 34)),
 .op (some 35) none (.ext (.t 32) 0),
 .op (some 36) none (.ext (.t 32) 1),
 .op (some 7) none (.box (.c (.agg [(.i .i64 0), .nils]))),
 .op none none (.st 2 (.t 7) (.t 35)),
 .op (some 8) none (.mv (.t 36))])
 (.seq (.seq (.reg [.op (some 37) none (.mv (.t 6)),
 .op (some 38) none (.ibin .eql (.t 37) (.c (.i .i64 0))),
 .op (some 39) none (.mv (.t 8)),
 .op (some 40) none (.eqn 1 true (.t 38) (.t 39)),
 .op (some 41) none (.mv (.t 40)),
 .op (some 42) (some (41, false)) (.mv (.t 8)),
 .op (some 43) (some (41, false)) (.un .not (.t 42)),
 .op (some 44) (some (41, false)) (.mv (.t 43)),
 .op (some 45) (some (44, true)) (.mv (.t 6)),
 .op (some 46) (some (44, true)) (.ibin .neq (.t 45) (.c (.i .i64 2))),
 .op (some 47) (some (44, true)) (.mv (.t 46)),
 .op (some 48) (some (47, false)) (.mv (.t 5)),
 .op (some 49) (some (47, false)) (.eqn 2 true (.t 48) (.c .nilp)),
 .op (some 50) (some (44, true)) (.pick (.t 47) (.c (.b true)) (.t 49)),
 .op (some 51) (some (41, false)) (.pick (.t 44) (.t 50) (.c (.b false))),
 .op (some 52) none (.pick (.t 41) (.c (.b true)) (.t 51))])
 (.cond (.t 52)
 (.seq (.reg [.op (some 4) none (.mv (.c (.b false)))])
 (.ret))
 (.skip)))
 (.seq (.seq (.reg [.op (some 53) none (.mv (.t 8)),
 .op (some 54) none (.un .not (.t 53)),
 .op (some 55) none (.mv (.t 54)),
 .op (some 56) (some (55, false)) (.mv (.t 0)),
 .op (some 57) (some (55, false)) (.ibin .gtr (.t 56) (.c (.i .i64 40))),
 .op (some 58) none (.pick (.t 55) (.c (.b true)) (.t 57)),
 .op (some 59) none (.mv (.t 58)),
 .op (some 60) (some (59, false)) (.mv (.t 1)),
 .op (some 61) (some (59, false)) (.len 2 (.t 60)),
 .op (some 62) (some (59, false)) (.ibin .gtr (.t 61) (.c (.i .i64 80))),
 .op (some 63) none (.pick (.t 59) (.c (.b true)) (.t 62))])
 (.cond (.t 63)
 (.seq (.reg [.call (some 64) none (.c (.fn (.func 11) [] [])) [],
 .op (some 4) none (.mv (.t 64))])
 (.ret))
 (.skip)))
 (.seq (.seq (.reg [.op (some 65) none (.mv (.t 1)),
 .op (some 66) none (.len 2 (.t 65)),
 .op (some 67) none (.mv (.c (.i .i64 0)))])
 (.block 0
 (.loop
 (.seq (.reg [.op (some 68) none (.ibin .lss (.t 67) (.t 66))])
 (.seq (.cond (.t 68)
 (.skip)
 (.exit 0))
 (.seq (.block 1
 (.seq (.reg [.op (some 69) none (.iad 4 (.t 65) (.t 67)),
 .op (some 70) none (.ldn 4 (.t 69)),
 .op (some 10) none (.box (.c (.agg [(.i .u8 0), (.i .u64 0), (.i .u64 0), (.i .u64 0)]))),
 .op none none (.st 4 (.t 10) (.t 70))])
 (.seq (.seq (.reg [.op (some 71) none (.fad 0 (.t 10)),
 .op (some 72) none (.ld1 (.t 71))])
 (.block 2
 (.seq (.reg [.op (some 74) none (.ibin .eql (.t 72) (.c (.i .u8 1))),
 .op (some 73) none (.mv (.t 74))])
 (.cond (.t 73)
 (.seq (.reg [.op (some 75) none (.mv (.t 5)),
 .op (some 76) none (.fad 1 (.t 10)),
 .op (some 77) none (.ld1 (.t 76)),
 .op (some 78) none (.fad 2 (.t 10)),
 .op (some 79) none (.ldn 2 (.t 78)),
 .call (some 80) none (.c (.fn (.func 12) [] [])) [(.t 75), (.t 77), (.t 79)],
 .op (some 11) none (.mv (.t 80))])
 (.seq (.reg [.op (some 82) none (.ldn 2 (.t 7)),
 .op (some 83) none (.fad 1 (.t 10)),
 .op (some 84) none (.ld1 (.t 83)),
 .op (some 85) none (.fad 2 (.t 10)),
 .op (some 86) none (.ldn 2 (.t 85)),
 .call (some 87) none (.c (.fn (.func 13) [] [])) [(.t 82), (.t 84), (.t 86)],
 .op (some 81) none (.mv (.t 87)),
 .op (some 88) none (.ext (.t 81) 0),
 .op (some 89) none (.ext (.t 81) 1),
 .op (some 12) none (.box (.c (.agg [(.i .i64 0), .nils]))),
 .op none none (.st 2 (.t 12) (.t 88)),
 .op (some 13) none (.mv (.t 89))])
 (.seq (.reg [.op (some 90) none (.ldn 2 (.t 12)),
 .op none none (.st 2 (.t 7) (.t 90))])
 (.seq (.reg [.op (some 91) none (.mv (.t 11)),
 .op (some 92) none (.mv (.t 13)),
 .op (some 93) none (.ibin .neq (.t 91) (.t 92))])
 (.cond (.t 93)
 (.seq (.reg [.op (some 4) none (.mv (.c (.b false)))])
 (.ret))
 (.skip))))))
 (.seq (.reg [.op (some 95) none (.ibin .eql (.t 72) (.c (.i .u8 2))),
 .op (some 94) none (.mv (.t 95))])
 (.cond (.t 94)
 (.seq (.reg [.op (some 97) none (.mv (.t 5)),
 .call (some 98) none (.c (.fn (.func 14) [] [])) [(.t 97)],
 .op (some 96) none (.mv (.t 98)),
 .op (some 99) none (.ext (.t 96) 0),
 .op (some 100) none (.ext (.t 96) 1),
 .op (some 101) none (.ext (.t 96) 2),
 .op (some 15) none (.box (.c (.agg [(.i .u64 0), (.i .u64 0)]))),
 .op (some 14) none (.mv (.t 99)),
 .op none none (.st 2 (.t 15) (.t 100)),
 .op (some 16) none (.mv (.t 101))])
 (.seq (.reg [.op (some 103) none (.ldn 2 (.t 7)),
 .call (some 104) none (.c (.fn (.func 15) [] [])) [(.t 103)],
 .op (some 102) none (.mv (.t 104)),
 .op (some 105) none (.ext (.t 102) 0),
 .op (some 106) none (.ext (.t 102) 1),
 .op (some 107) none (.ext (.t 102) 2),
 .op (some 108) none (.ext (.t 102) 3),
 .op (some 17) none (.box (.c (.agg [(.i .i64 0), .nils]))),
 .op (some 19) none (.box (.c (.agg [(.i .u64 0), (.i .u64 0)]))),
 .op none none (.st 2 (.t 17) (.t 105)),
 .op (some 18) none (.mv (.t 106)),
 .op none none (.st 2 (.t 19) (.t 107)),
 .op (some 20) none (.mv (.t 108))])
 (.seq (.reg [.op (some 109) none (.ldn 2 (.t 17)),
 .op none none (.st 2 (.t 7) (.t 109))])
 (.seq (.reg [.op (some 110) none (.mv (.t 14)),
 .op (some 111) none (.mv (.t 18)),
 .op (some 112) none (.ibin .neq (.t 110) (.t 111)),
 .op (some 113) none (.mv (.t 112)),
 .op (some 114) (some (113, false)) (.ldn 2 (.t 15)),
 .op (some 115) (some (113, false)) (.ldn 2 (.t 19)),
 .op (some 116) (some (113, false)) (.eqs [0, 0] true (.t 114) (.t 115)),
 .op (some 117) none (.pick (.t 113) (.c (.b true)) (.t 116)),
 .op (some 118) none (.mv (.t 117)),
 .op (some 119) (some (118, false)) (.mv (.t 16)),
 .op (some 120) (some (118, false)) (.mv (.t 20)),
 .op (some 121) (some (118, false)) (.eqn 1 true (.t 119) (.t 120)),
 .op (some 122) none (.pick (.t 118) (.c (.b true)) (.t 121))])
 (.cond (.t 122)
 (.seq (.reg [.op (some 4) none (.mv (.c (.b false)))])
 (.ret))
 (.skip))))))
 (.skip)))))))
 (.seq (.reg [.op (some 124) none (.mv (.t 5)),
 .call (some 125) none (.c (.fn (.func 16) [] [])) [(.t 124)],
 .op (some 123) none (.mv (.t 125)),
 .op (some 126) none (.ext (.t 123) 0),
 .op (some 127) none (.ext (.t 123) 1),
 .op (some 128) none (.ext (.t 123) 2),
 .op (some 22) none (.box (.c (.agg [(.i .u64 0), (.i .u64 0)]))),
 .op (some 21) none (.mv (.t 126)),
 .op none none (.st 2 (.t 22) (.t 127)),
 .op (some 23) none (.mv (.t 128))])
 (.seq (.reg [.op (some 130) none (.ldn 2 (.t 7)),
 .call (some 131) none (.c (.fn (.func 17) [] [])) [(.t 130)],
 .op (some 129) none (.mv (.t 131)),
 .op (some 132) none (.ext (.t 129) 0),
 .op (some 133) none (.ext (.t 129) 1),
 .op (some 134) none (.ext (.t 129) 2),
 .op (some 25) none (.box (.c (.agg [(.i .u64 0), (.i .u64 0)]))),
 .op (some 24) none (.mv (.t 132)),
 .op none none (.st 2 (.t 25) (.t 133)),
 .op (some 26) none (.mv (.t 134))])
 (.seq (.dreg [.op (some 135) none (.mv (.t 21)),
 .op (some 136) none (.mv (.t 24)),
 .op (some 137) none (.ibin .neq (.t 135) (.t 136)),
 .op (some 138) none (.mv (.t 137)),
 .op (some 139) (some (138, false)) (.ldn 2 (.t 22)),
 .op (some 140) (some (138, false)) (.ldn 2 (.t 25)),
 .op (some 141) (some (138, false)) (.eqs [0, 0] true (.t 139) (.t 140)),
 .op (some 142) none (.pick (.t 138) (.c (.b true)) (.t 141)),
 .op (some 143) none (.mv (.t 142)),
 .op (some 144) (some (143, false)) (.mv (.t 23)),
 .op (some 145) (some (143, false)) (.mv (.t 26)),
 .op (some 146) (some (143, false)) (.eqn 1 true (.t 144) (.t 145)),
 .op (some 147) none (.pick (.t 143) (.c (.b true)) (.t 146)),
 .op (some 148) none (.mv (.t 147)),
 .op (some 149) (some (148, false)) (.mv (.t 5)),
 .call (some 150) (some (148, false)) (.c (.fn (.func 18) [] [])) [(.t 149)],
 .op (some 151) (some (148, false)) (.fad 1 (.t 7)),
 .op (some 152) (some (148, false)) (.ld1 (.t 151)),
 .op (some 153) (some (148, false)) (.len 2 (.t 152)),
 .op (some 154) (some (148, false)) (.ibin .neq (.t 150) (.t 153)),
 .op (some 155) none (.pick (.t 148) (.c (.b true)) (.t 154)),
 .op (some 156) none (.mv (.t 155)),
 .op (some 157) (some (156, false)) (.mv (.t 5)),
 .call (some 158) (some (156, false)) (.c (.fn (.func 20) [] [])) [(.t 157)],
 .op (some 159) (some (156, false)) (.ldn 2 (.t 7)),
 .call (some 160) (some (156, false)) (.c (.fn (.func 21) [] [])) [(.t 159)],
 .call (some 161) (some (156, false)) (.c (.fn (.func 19) [] [])) [(.t 158), (.t 160)],
 .op (some 162) (some (156, false)) (.un .not (.t 161)),
 .op (some 163) none (.pick (.t 156) (.c (.b true)) (.t 162))]
 [0, 1, 2, 3, 4, 5, 6, 7, 8, 9, 10, 11, 12, 13, 14, 16, 17, 18, 15, 19, 20, 21, 22, 24, 23, 25, 26, 27, 28] [0, 0, 3, 7, 15, 15, 63, 127, 255, 511, 511, 2047, 4095, 8191, 16383, 32767, 16383, 81919, 212991, 524287, 1048575, 2097151, 4194303, 8388607, 4194303, 33554431, 67108863, 134217727, 268435455])
 (.cond (.t 163)
 (.seq (.reg [.op (some 4) none (.mv (.c (.b false)))])
 (.ret))
 (.skip))))))))
 (.reg [.op (some 164) none (.ibin .add (.t 67) (.c (.i .i64 1))),
 .op (some 67) none (.mv (.t 164))])))))))
 (.seq (.reg [.call (some 165) none (.c (.fn (.func 11) [] [])) [],
 .op (some 4) none (.mv (.t 165))])
 (.ret))))))),
 [.t 4]⟩
def k3 : List Nat := [0, 1, 4, 5, 6, 7, 8, 10, 11, 12, 13, 14, 15, 16, 17, 18, 19, 20, 21, 22, 23, 24, 25, 26, 52, 63, 65, 66, 67, 68, 72, 73, 93, 94, 122, 163]
set_option maxRecDepth 100000 in
theorem c3 : compF Go.Proofs.Try.prog 2 Go.Proofs.Try.f3 = some e3 := by kernel_rfl
/-- sandglass/sandglasslaw11.FifoOrder -/
def e4 : IFunc := ⟨168, 2,
 .seq (.reg [.op (some 4) none (.mv (.c (.b false)))])
 (.seq (.reg [.op (some 30) none (.mv (.t 0)),
 .call (some 31) none (.c (.fn (.func 22) [] [])) [(.t 30)],
 .op (some 29) none (.mv (.t 31)),
 .op (some 32) none (.ext (.t 29) 0),
 .op (some 33) none (.ext (.t 29) 1),
 .op (some 5) none (.mv (.t 32)),
 .op (some 6) none (.mv (.t 33))])
 (.seq (.seq (.reg [.op (some 34) none (.mv (.t 6)),
 .op (some 35) none (.un .not (.t 34))])
 (.cond (.t 35)
 (.seq (.reg [.op (some 4) none (.mv (.c (.b false)))])
 (.ret))
 (.skip)))
 (.seq (.reg [.op (some 36) none (.mv (.t 5)),
 .call (some 37) none (.c (.fn (.func 20) [] [])) [(.t 36)],
 .op (some 7) none (.mv (.t 37))])
 (.seq (.reg [.op (some 39) none (.mv (.t 0)),
 .call (some 40) none (.c (.fn (.func 22) [] [])) [(.t 39)],
 .op (some 38) none (.mv (.t 40)),
 .op (some 41) none (.ext (.t 38) 0),
 .op (some 42) none (.ext (.t 38) 1),
 .op (some 8) none (.mv (.t 41)),
 .op (some 9) none (.mv (.t 42))])
 (.seq (.reg [.op (some 10) none (.box (.c (.agg [(.i .u64 0), (.i .u64 0)])))])
 (.seq (.seq (.reg [.op (some 43) none (.mv (.t 7)),
 .op (some 44) none (.len 2 (.t 43)),
 .op (some 45) none (.mv (.c (.i .i64 0)))])
 (.block 0
 (.loop
 (.seq (.reg [.op (some 46) none (.ibin .lss (.t 45) (.t 44))])
 (.seq (.cond (.t 46)
 (.skip)
 (.exit 0))
 (.seq (.block 1
 (.seq (.reg [.op (some 47) none (.mv (.t 45)),
 .op (some 48) none (.iad 1 (.t 43) (.t 45)),
 .op (some 49) none (.ld1 (.t 48)),
 .op (some 11) none (.mv (.t 47)),
 .op (some 12) none (.mv (.t 49))])
 (.seq (.reg [.op (some 51) none (.mv (.t 8)),
 .call (some 52) none (.c (.fn (.func 14) [] [])) [(.t 51)],
 .op (some 50) none (.mv (.t 52)),
 .op (some 53) none (.ext (.t 50) 0),
 .op (some 54) none (.ext (.t 50) 1),
 .op (some 55) none (.ext (.t 50) 2),
 .op (some 14) none (.box (.c (.agg [(.i .u64 0), (.i .u64 0)]))),
 .op (some 13) none (.mv (.t 53)),
 .op none none (.st 2 (.t 14) (.t 54)),
 .op (some 15) none (.mv (.t 55))])
 (.seq (.seq (.reg [.op (some 56) none (.mv (.t 15)),
 .op (some 57) none (.un .not (.t 56)),
 .op (some 58) none (.mv (.t 57)),
 .op (some 59) (some (58, false)) (.mv (.t 13)),
 .op (some 60) (some (58, false)) (.mv (.t 12)),
 .op (some 61) (some (58, false)) (.ibin .neq (.t 59) (.t 60)),
 .op (some 62) none (.pick (.t 58) (.c (.b true)) (.t 61)),
 .op (some 63) none (.mv (.t 62)),
 .op (some 64) (some (63, false)) (.mv (.t 11)),
 .op (some 65) (some (63, false)) (.ibin .gtr (.t 64) (.c (.i .i64 0))),
 .op (some 66) (some (63, false)) (.mv (.t 65)),
 .op (some 67) (some (66, true)) (.ldn 2 (.t 10)),
 .op (some 68) (some (66, true)) (.ldn 2 (.t 14)),
 .call (some 69) (some (66, true)) (.c (.fn (.func 23) [] [])) [(.t 67), (.t 68)],
 .op (some 70) (some (66, true)) (.un .not (.t 69)),
 .op (some 71) (some (63, false)) (.pick (.t 66) (.t 70) (.c (.b false))),
 .op (some 72) none (.pick (.t 63) (.c (.b true)) (.t 71))])
 (.cond (.t 72)
 (.seq (.reg [.op (some 4) none (.mv (.c (.b false)))])
 (.ret))
 (.skip)))
 (.reg [.op (some 73) none (.ldn 2 (.t 14)),
 .op none none (.st 2 (.t 10) (.t 73))])))))
 (.reg [.op (some 74) none (.ibin .add (.t 45) (.c (.i .i64 1))),
 .op (some 45) none (.mv (.t 74))])))))))
 (.seq (.seq (.reg [.op (some 75) none (.mv (.t 8)),
 .call (some 76) none (.c (.fn (.func 18) [] [])) [(.t 75)],
 .op (some 77) none (.ibin .neq (.t 76) (.c (.i .i64 0)))])
 (.cond (.t 77)
 (.seq (.reg [.op (some 4) none (.mv (.c (.b false)))])
 (.ret))
 (.skip)))
 (.seq (.reg [.any (some 78) none (.mkm none),
 .op (some 16) none (.mv (.t 78))])
 (.seq (.reg [.op (some 17) none (.mv (.c (.i .i64 0)))])
 (.seq (.seq (.reg [.op (some 18) none (.mv (.c (.i .i64 0)))])
 (.block 2
 (.loop
 (.seq (.seq (.reg [.op (some 79) none (.mv (.t 5)),
 .call (some 80) none (.c (.fn (.func 18) [] [])) [(.t 79)],
 .op (some 81) none (.ibin .gtr (.t 80) (.c (.i .i64 0))),
 .op (some 82) none (.mv (.t 81)),
 .op (some 83) (some (82, true)) (.mv (.t 18)),
 .op (some 84) (some (82, true)) (.ibin .lss (.t 83) (.c (.i .i64 200))),
 .op (some 85) none (.pick (.t 82) (.t 84) (.c (.b false)))])
 (.cond (.t 85)
 (.skip)
 (.exit 2)))
 (.seq (.block 3
 (.seq (.seq (.reg [.op (some 88) none (.mv (.t 17)),
 .op (some 89) none (.mv (.t 1)),
 .op (some 90) none (.len 2 (.t 89)),
 .op (some 91) none (.mx true (.t 90) [(.c (.i .i64 20))]),
 .op (some 92) none (.ibin .lss (.t 88) (.t 91))])
 (.cond (.t 92)
 (.seq (.reg [.op (some 93) none (.mv (.t 1)),
 .op (some 94) none (.mv (.t 17)),
 .op (some 95) none (.iad 4 (.t 93) (.t 94)),
 .op (some 96) none (.ldn 4 (.t 95)),
 .op (some 19) none (.box (.c (.agg [(.i .u8 0), (.i .u64 0), (.i .u64 0), (.i .u64 0)]))),
 .op none none (.st 4 (.t 19) (.t 96))])
 (.seq (.reg [.op (some 97) none (.mv (.t 17)),
 .op (some 98) none (.ibin .add (.t 97) (.c (.i .i64 1))),
 .op (some 17) none (.mv (.t 98))])
 (.seq (.reg [.op (some 99) none (.mv (.t 5)),
 .op (some 100) none (.fad 1 (.t 19)),
 .op (some 101) none (.ld1 (.t 100)),
 .op (some 102) none (.fad 2 (.t 19)),
 .op (some 103) none (.ldn 2 (.t 102)),
 .call (some 104) none (.c (.fn (.func 12) [] [])) [(.t 99), (.t 101), (.t 103)],
 .op (some 105) none (.ibin .eql (.t 104) (.c (.i .i64 0)))])
 (.cond (.t 105)
 (.reg [.op (some 106) none (.mv (.t 16)),
 .op (some 107) none (.fad 2 (.t 19)),
 .op (some 108) none (.ldn 2 (.t 107)),
 .op (some 109) none (.fad 1 (.t 19)),
 .op (some 110) none (.ld1 (.t 109)),
 .any none none (.mup (.st [.u64, .u64]) (.t 106) (.t 108) (.t 110))])
 (.skip)))))
 (.skip)))
 (.seq (.reg [.op (some 112) none (.mv (.t 5)),
 .call (some 113) none (.c (.fn (.func 16) [] [])) [(.t 112)],
 .op (some 111) none (.mv (.t 113)),
 .op (some 114) none (.ext (.t 111) 0),
 .op (some 115) none (.ext (.t 111) 1),
 .op (some 116) none (.ext (.t 111) 2),
 .op (some 21) none (.box (.c (.agg [(.i .u64 0), (.i .u64 0)]))),
 .op (some 20) none (.mv (.t 114)),
 .op none none (.st 2 (.t 21) (.t 115)),
 .op (some 22) none (.mv (.t 116))])
 (.seq (.reg [.op (some 118) none (.mv (.t 5)),
 .call (some 119) none (.c (.fn (.func 14) [] [])) [(.t 118)],
 .op (some 117) none (.mv (.t 119)),
 .op (some 120) none (.ext (.t 117) 0),
 .op (some 121) none (.ext (.t 117) 1),
 .op (some 122) none (.ext (.t 117) 2),
 .op (some 24) none (.box (.c (.agg [(.i .u64 0), (.i .u64 0)]))),
 .op (some 23) none (.mv (.t 120)),
 .op none none (.st 2 (.t 24) (.t 121)),
 .op (some 25) none (.mv (.t 122))])
 (.seq (.seq (.reg [.op (some 123) none (.mv (.t 22)),
 .op (some 124) none (.un .not (.t 123)),
 .op (some 125) none (.mv (.t 124)),
 .op (some 126) (some (125, false)) (.mv (.t 25)),
 .op (some 127) (some (125, false)) (.un .not (.t 126)),
 .op (some 128) none (.pick (.t 125) (.c (.b true)) (.t 127)),
 .op (some 129) none (.mv (.t 128)),
 .op (some 130) (some (129, false)) (.ldn 2 (.t 21)),
 .op (some 131) (some (129, false)) (.ldn 2 (.t 24)),
 .op (some 132) (some (129, false)) (.eqs [0, 0] true (.t 130) (.t 131)),
 .op (some 133) none (.pick (.t 129) (.c (.b true)) (.t 132))])
 (.cond (.t 133)
 (.seq (.reg [.op (some 4) none (.mv (.c (.b false)))])
 (.ret))
 (.skip)))
 (.seq (.seq (.reg [.op (some 134) none (.mv (.t 16)),
 .any (some 135) none (.rng (.t 134))])
 (.block 4
 (.loop
 (.seq (.reg [.any (some 136) none (.nxt (.t 135)),
 .op (some 137) none (.ext (.t 136) 0)])
 (.seq (.cond (.t 137)
 (.skip)
 (.exit 4))
 (.block 5
 (.seq (.reg [.op (some 138) none (.ent (.t 135)),
 .op (some 139) none (.ext (.t 138) 0),
 .op (some 26) none (.box (.c (.agg [(.i .u64 0), (.i .u64 0)]))),
 .op none none (.st 2 (.t 26) (.t 139))])
 (.seq (.reg [.op (some 140) none (.ldn 2 (.t 26)),
 .op (some 141) none (.ldn 2 (.t 21)),
 .call (some 142) none (.c (.fn (.func 23) [] [])) [(.t 140), (.t 141)]])
 (.cond (.t 142)
 (.seq (.reg [.op (some 4) none (.mv (.c (.b false)))])
 (.ret))
 (.skip))))))))))
 (.seq (.seq (.reg [.op (some 144) none (.mv (.t 16)),
 .op (some 145) none (.ldn 2 (.t 21)),
 .op (some 146) none (.lkp (.st [.u64, .u64]) true (.i .u64 0) (.t 144) (.t 145)),
 .op (some 143) none (.mv (.t 146)),
 .op (some 147) none (.ext (.t 143) 0),
 .op (some 148) none (.ext (.t 143) 1),
 .op (some 27) none (.mv (.t 147)),
 .op (some 28) none (.mv (.t 148))])
 (.seq (.reg [.op (some 149) none (.mv (.t 28)),
 .op (some 150) none (.mv (.t 149)),
 .op (some 151) (some (150, true)) (.mv (.t 27)),
 .op (some 152) (some (150, true)) (.mv (.t 23)),
 .op (some 153) (some (150, true)) (.ibin .neq (.t 151) (.t 152)),
 .op (some 154) none (.pick (.t 150) (.t 153) (.c (.b false)))])
 (.cond (.t 154)
 (.seq (.reg [.op (some 4) none (.mv (.c (.b false)))])
 (.ret))
 (.skip))))
 (.reg [.op (some 155) none (.mv (.t 16)),
 .op (some 156) none (.ldn 2 (.t 21)),
 .any none none (.mdl (.st [.u64, .u64]) (.t 155) (.t 156))]))))))))
 (.reg [.op (some 86) none (.mv (.t 18)),
 .op (some 87) none (.ibin .add (.t 86) (.c (.i .i64 1))),
 .op (some 18) none (.mv (.t 87))]))))))
 (.seq (.reg [.op (some 157) none (.mv (.t 5)),
 .call (some 158) none (.c (.fn (.func 18) [] [])) [(.t 157)],
 .op (some 159) none (.ibin .eql (.t 158) (.c (.i .i64 0))),
 .op (some 160) none (.mv (.t 159)),
 .op (some 161) (some (160, true)) (.mv (.t 16)),
 .op (some 162) (some (160, true)) (.len 3 (.t 161)),
 .op (some 163) (some (160, true)) (.ibin .eql (.t 162) (.c (.i .i64 0))),
 .op (some 164) none (.pick (.t 160) (.t 163) (.c (.b false))),
 .op (some 165) none (.mv (.t 164)),
 .call (some 166) (some (165, true)) (.c (.fn (.func 11) [] [])) [],
 .op (some 167) none (.pick (.t 165) (.t 166) (.c (.b false))),
 .op (some 4) none (.mv (.t 167))])
 (.ret)))))))))))),
 [.t 4]⟩
def k4 : List Nat := [0, 1, 4, 5, 6, 7, 8, 10, 11, 12, 13, 14, 15, 16, 17, 18, 19, 21, 22, 23, 24, 25, 26, 27, 28, 35, 43, 44, 45, 46, 72, 77, 85, 92, 105, 133, 135, 137, 142, 154]
set_option maxRecDepth 100000 in
theorem c4 : compF Go.Proofs.Try.prog 2 Go.Proofs.Try.f4 = some e4 := by kernel_rfl
/-- sandglass/sandglasslaw11.FifoTurn -/
def e5 : IFunc := ⟨154, 3,
 .seq (.reg [.op (some 6) none (.mv (.c (.b false)))])
 (.seq (.reg [.call (some 26) none (.c (.fn (.func 9) [] [])) [(.c (.i .i64 60))],
 .op (some 25) none (.mv (.t 26)),
 .op (some 27) none (.ext (.t 25) 0),
 .op (some 28) none (.ext (.t 25) 1),
 .op (some 7) none (.mv (.t 27)),
 .op (some 8) none (.mv (.t 28))])
 (.seq (.seq (.reg [.op (some 29) none (.mv (.t 8)),
 .op (some 30) none (.ibin .neq (.t 29) (.c (.i .i64 0)))])
 (.cond (.t 30)
 (.seq (.reg [.op (some 6) none (.mv (.c (.b false)))])
 (.ret))
 (.skip)))
 (.seq (.reg [.any (some 31) none (.mkm none),
 .op (some 9) none (.mv (.t 31))])
 (.seq (.seq (.reg [.op (some 32) none (.mv (.t 0)),
 .op (some 33) none (.mv (.t 0)),
 .op (some 34) none (.len 2 (.t 33)),
 .op (some 35) none (.mx true (.t 34) [(.c (.i .i64 30))]),
 .op (some 36) none (.slice 1 (.t 32) none (some (.t 35))),
 .op (some 37) none (.len 2 (.t 36)),
 .op (some 38) none (.mv (.c (.i .i64 0)))])
 (.block 0
 (.loop
 (.seq (.reg [.op (some 39) none (.ibin .lss (.t 38) (.t 37))])
 (.seq (.cond (.t 39)
 (.skip)
 (.exit 0))
 (.seq (.block 1
 (.seq (.reg [.op (some 40) none (.iad 1 (.t 36) (.t 38)),
 .op (some 41) none (.ld1 (.t 40)),
 .op (some 11) none (.mv (.t 41))])
 (.seq (.reg [.op (some 42) none (.mv (.t 7)),
 .op (some 43) none (.mv (.t 11)),
 .op (some 44) none (.conv .u64 (.t 43)),
 .op (some 45) none (.ibin .add (.t 44) (.c (.i .u64 1))),
 .op (some 46) none (.mv (.t 1)),
 .op (some 47) none (.mv (.t 11)),
 .op (some 48) none (.conv .u64 (.t 47)),
 .op (some 49) none (.build [(.i .u64 0), (.i .u64 0)] [(0, 1, (.t 46)), (1, 1, (.t 48))]),
 .call (some 50) none (.c (.fn (.func 12) [] [])) [(.t 42), (.t 45), (.t 49)],
 .op (some 12) none (.mv (.t 50))])
 (.seq (.reg [.op (some 51) none (.mv (.t 9)),
 .op (some 52) none (.mv (.t 11)),
 .op (some 53) none (.lkp (.int .u16) false (.i .i64 0) (.t 51) (.t 52)),
 .op (some 54) none (.ibin .add (.t 53) (.c (.i .i64 1))),
 .any none none (.mup (.int .u16) (.t 51) (.t 52) (.t 54))])
 (.seq (.reg [.op (some 55) none (.mv (.t 12)),
 .op (some 56) none (.ibin .eql (.t 55) (.c (.i .i64 60))),
 .op (some 57) none (.mv (.t 9)),
 .op (some 58) none (.mv (.t 11)),
 .op (some 59) none (.lkp (.int .u16) false (.i .i64 0) (.t 57) (.t 58)),
 .op (some 60) none (.ibin .gtr (.t 59) (.c (.i .i64 1))),
 .op (some 61) none (.eqn 1 true (.t 56) (.t 60)),
 .op (some 62) none (.mv (.t 61)),
 .op (some 63) (some (62, false)) (.mv (.t 12)),
 .op (some 64) (some (62, false)) (.ibin .neq (.t 63) (.c (.i .i64 0))),
 .op (some 65) (some (62, false)) (.mv (.t 64)),
 .op (some 66) (some (65, true)) (.mv (.t 12)),
 .op (some 67) (some (65, true)) (.ibin .neq (.t 66) (.c (.i .i64 60))),
 .op (some 68) (some (62, false)) (.pick (.t 65) (.t 67) (.c (.b false))),
 .op (some 69) none (.pick (.t 62) (.c (.b true)) (.t 68))])
 (.cond (.t 69)
 (.seq (.reg [.op (some 6) none (.mv (.c (.b false)))])
 (.ret))
 (.skip)))))))
 (.reg [.op (some 70) none (.ibin .add (.t 38) (.c (.i .i64 1))),
 .op (some 38) none (.mv (.t 70))])))))))
 (.seq (.reg [.op (some 13) none (.mv (.c (.i .u64 0)))])
 (.seq (.seq (.reg [.op (some 71) none (.mv (.t 9)),
 .any (some 72) none (.rng (.t 71))])
 (.block 2
 (.loop
 (.seq (.reg [.any (some 73) none (.nxt (.t 72)),
 .op (some 74) none (.ext (.t 73) 0)])
 (.seq (.cond (.t 74)
 (.skip)
 (.exit 2))
 (.block 3
 (.seq (.reg [.op (some 77) none (.mv (.t 7)),
 .call (some 78) none (.c (.fn (.func 14) [] [])) [(.t 77)],
 .op (some 76) none (.mv (.t 78)),
 .op (some 79) none (.ext (.t 76) 0),
 .op (some 80) none (.ext (.t 76) 1),
 .op (some 81) none (.ext (.t 76) 2),
 .op (some 15) none (.box (.c (.agg [(.i .u64 0), (.i .u64 0)]))),
 .op (some 14) none (.mv (.t 79)),
 .op none none (.st 2 (.t 15) (.t 80)),
 .op (some 16) none (.mv (.t 81))])
 (.seq (.seq (.reg [.op (some 82) none (.mv (.t 16)),
 .op (some 83) none (.un .not (.t 82)),
 .op (some 84) none (.mv (.t 83)),
 .op (some 85) (some (84, false)) (.fad 0 (.t 15)),
 .op (some 86) (some (84, false)) (.ld1 (.t 85)),
 .op (some 87) (some (84, false)) (.mv (.t 1)),
 .op (some 88) (some (84, false)) (.ibin .neq (.t 86) (.t 87)),
 .op (some 89) none (.pick (.t 84) (.c (.b true)) (.t 88)),
 .op (some 90) none (.mv (.t 89)),
 .op (some 91) (some (90, false)) (.mv (.t 14)),
 .op (some 92) (some (90, false)) (.fad 1 (.t 15)),
 .op (some 93) (some (90, false)) (.ld1 (.t 92)),
 .op (some 94) (some (90, false)) (.ibin .add (.t 93) (.c (.i .u64 1))),
 .op (some 95) (some (90, false)) (.ibin .neq (.t 91) (.t 94)),
 .op (some 96) none (.pick (.t 90) (.c (.b true)) (.t 95)),
 .op (some 97) none (.mv (.t 96)),
 .op (some 98) (some (97, false)) (.mv (.t 14)),
 .op (some 99) (some (97, false)) (.mv (.t 13)),
 .op (some 100) (some (97, false)) (.ibin .leq (.t 98) (.t 99)),
 .op (some 101) none (.pick (.t 97) (.c (.b true)) (.t 100))])
 (.cond (.t 101)
 (.seq (.reg [.op (some 6) none (.mv (.c (.b false)))])
 (.ret))
 (.skip)))
 (.reg [.op (some 102) none (.mv (.t 14)),
 .op (some 13) none (.mv (.t 102))])))))))))
 (.seq (.reg [.op (some 17) none (.mv (.c (.i .u64 0)))])
 (.seq (.reg [.op (some 103) none (.mv (.t 2)),
 .op (some 104) none (.len 2 (.t 103)),
 .op (some 105) none (.mx true (.t 104) [(.c (.i .i64 30))]),
 .op (some 18) none (.mv (.t 105))])
 (.seq (.seq (.reg [.op (some 106) none (.mv (.t 2)),
 .op (some 107) none (.mv (.t 18)),
 .op (some 108) none (.slice 1 (.t 106) none (some (.t 107))),
 .op (some 109) none (.len 2 (.t 108)),
 .op (some 110) none (.mv (.c (.i .i64 0)))])
 (.block 4
 (.loop
 (.seq (.reg [.op (some 111) none (.ibin .lss (.t 110) (.t 109))])
 (.seq (.cond (.t 111)
 (.skip)
 (.exit 4))
 (.seq (.block 5
 (.seq (.reg [.op (some 112) none (.mv (.t 110)),
 .op (some 113) none (.iad 1 (.t 108) (.t 110)),
 .op (some 114) none (.ld1 (.t 113)),
 .op (some 19) none (.mv (.t 112)),
 .op (some 20) none (.mv (.t 114))])
 (.seq (.reg [.op (some 115) none (.mv (.t 17)),
 .op (some 116) none (.mv (.t 20)),
 .op (some 117) none (.conv .u64 (.t 116)),
 .op (some 118) none (.ibin .add (.t 115) (.t 117)),
 .op (some 17) none (.mv (.t 118))])
 (.seq (.reg [.op (some 119) none (.mv (.t 7)),
 .op (some 120) none (.mv (.t 19)),
 .op (some 121) none (.conv .u64 (.t 120)),
 .op (some 122) none (.mv (.t 17)),
 .op (some 123) none (.mv (.t 19)),
 .op (some 124) none (.conv .u64 (.t 123)),
 .op (some 125) none (.build [(.i .u64 0), (.i .u64 0)] [(0, 1, (.t 122)), (1, 1, (.t 124))]),
 .call (some 126) none (.c (.fn (.func 12) [] [])) [(.t 119), (.t 121), (.t 125)],
 .op (some 127) none (.ibin .neq (.t 126) (.c (.i .i64 0)))])
 (.cond (.t 127)
 (.seq (.reg [.op (some 6) none (.mv (.c (.b false)))])
 (.ret))
 (.skip))))))
 (.reg [.op (some 128) none (.ibin .add (.t 110) (.c (.i .i64 1))),
 .op (some 110) none (.mv (.t 128))])))))))
 (.seq (.seq (.reg [.op (some 129) none (.mv (.t 18)),
 .op (some 130) none (.mv (.c (.i .i64 0)))])
 (.block 6
 (.loop
 (.seq (.reg [.op (some 131) none (.ibin .lss (.t 130) (.t 129))])
 (.seq (.cond (.t 131)
 (.skip)
 (.exit 6))
 (.seq (.block 7
 (.seq (.reg [.op (some 132) none (.mv (.t 130)),
 .op (some 21) none (.mv (.t 132))])
 (.seq (.reg [.op (some 134) none (.mv (.t 7)),
 .call (some 135) none (.c (.fn (.func 14) [] [])) [(.t 134)],
 .op (some 133) none (.mv (.t 135)),
 .op (some 136) none (.ext (.t 133) 0),
 .op (some 137) none (.ext (.t 133) 1),
 .op (some 138) none (.ext (.t 133) 2),
 .op (some 23) none (.box (.c (.agg [(.i .u64 0), (.i .u64 0)]))),
 .op (some 22) none (.mv (.t 136)),
 .op none none (.st 2 (.t 23) (.t 137)),
 .op (some 24) none (.mv (.t 138))])
 (.seq (.reg [.op (some 139) none (.mv (.t 22)),
 .op (some 140) none (.mv (.t 21)),
 .op (some 141) none (.conv .u64 (.t 140)),
 .op (some 142) none (.ibin .neq (.t 139) (.t 141)),
 .op (some 143) none (.mv (.t 142)),
 .op (some 144) (some (143, false)) (.mv (.t 24)),
 .op (some 145) (some (143, false)) (.un .not (.t 144)),
 .op (some 146) none (.pick (.t 143) (.c (.b true)) (.t 145))])
 (.cond (.t 146)
 (.seq (.reg [.op (some 6) none (.mv (.c (.b false)))])
 (.ret))
 (.skip))))))
 (.reg [.op (some 147) none (.ibin .add (.t 130) (.c (.i .i64 1))),
 .op (some 130) none (.mv (.t 147))])))))))
 (.seq (.reg [.op (some 148) none (.mv (.t 7)),
 .call (some 149) none (.c (.fn (.func 18) [] [])) [(.t 148)],
 .op (some 150) none (.ibin .eql (.t 149) (.c (.i .i64 0))),
 .op (some 151) none (.mv (.t 150)),
 .call (some 152) (some (151, true)) (.c (.fn (.func 11) [] [])) [],
 .op (some 153) none (.pick (.t 151) (.t 152) (.c (.b false))),
 .op (some 6) none (.mv (.t 153))])
 (.ret)))))))))))),
 [.t 6]⟩
def k5 : List Nat := [0, 1, 2, 6, 7, 8, 9, 11, 12, 13, 14, 15, 16, 17, 18, 19, 20, 21, 22, 24, 30, 36, 37, 38, 39, 69, 72, 74, 101, 108, 109, 110, 111, 127, 129, 130, 131, 146]
set_option maxRecDepth 100000 in
theorem c5 : compF Go.Proofs.Try.prog 3 Go.Proofs.Try.f5 = some e5 := by kernel_rfl
/-- sandglass/sandglasslaw11.FifoHead -/
def e6 : IFunc := ⟨142, 3,
 .seq (.reg [.op (some 5) none (.box (.t 2)),
 .op (some 6) none (.mv (.c (.b false)))])
 (.seq (.reg [.op (some 21) none (.mv (.t 0)),
 .op (some 22) none (.mv (.t 0)),
 .op (some 23) none (.len 2 (.t 22)),
 .op (some 24) none (.mx true (.t 23) [(.c (.i .i64 40))]),
 .op (some 25) none (.slice 4 (.t 21) none (some (.t 24))),
 .call (some 26) none (.c (.fn (.func 22) [] [])) [(.t 25)],
 .op (some 20) none (.mv (.t 26)),
 .op (some 27) none (.ext (.t 20) 0),
 .op (some 28) none (.ext (.t 20) 1),
 .op (some 7) none (.mv (.t 27)),
 .op (some 8) none (.mv (.t 28))])
 (.seq (.seq (.reg [.op (some 29) none (.mv (.t 8)),
 .op (some 30) none (.un .not (.t 29))])
 (.cond (.t 30)
 (.seq (.reg [.op (some 6) none (.mv (.c (.b false)))])
 (.ret))
 (.skip)))
 (.seq (.reg [.op (some 32) none (.mv (.t 7)),
 .call (some 33) none (.c (.fn (.func 16) [] [])) [(.t 32)],
 .op (some 31) none (.mv (.t 33)),
 .op (some 34) none (.ext (.t 31) 0),
 .op (some 35) none (.ext (.t 31) 1),
 .op (some 36) none (.ext (.t 31) 2),
 .op (some 10) none (.box (.c (.agg [(.i .u64 0), (.i .u64 0)]))),
 .op (some 9) none (.mv (.t 34)),
 .op none none (.st 2 (.t 10) (.t 35)),
 .op (some 11) none (.mv (.t 36))])
 (.seq (.reg [.op (some 37) none (.mv (.t 7)),
 .call (some 38) none (.c (.fn (.func 18) [] [])) [(.t 37)],
 .op (some 12) none (.mv (.t 38))])
 (.seq (.seq (.reg [.op (some 39) none (.mv (.t 7)),
 .op (some 40) none (.mv (.t 1)),
 .op (some 41) none (.ldn 2 (.t 5)),
 .call (some 42) none (.c (.fn (.func 12) [] [])) [(.t 39), (.t 40), (.t 41)],
 .op (some 13) none (.mv (.t 42))])
 (.seq (.reg [.op (some 43) none (.mv (.t 13))])
 (.block 0
 (.seq (.reg [.op (some 45) none (.ibin .eql (.t 43) (.c (.i .i64 0))),
 .op (some 44) none (.mv (.t 45))])
 (.cond (.t 44)
 (.seq (.reg [.op (some 47) none (.mv (.t 7)),
 .call (some 48) none (.c (.fn (.func 16) [] [])) [(.t 47)],
 .op (some 46) none (.mv (.t 48)),
 .op (some 49) none (.ext (.t 46) 0),
 .op (some 50) none (.ext (.t 46) 1),
 .op (some 51) none (.ext (.t 46) 2),
 .op (some 15) none (.box (.c (.agg [(.i .u64 0), (.i .u64 0)]))),
 .op (some 14) none (.mv (.t 49)),
 .op none none (.st 2 (.t 15) (.t 50)),
 .op (some 16) none (.mv (.t 51))])
 (.seq (.dreg [.op (some 52) none (.mv (.t 7)),
 .call (some 53) none (.c (.fn (.func 18) [] [])) [(.t 52)],
 .op (some 54) none (.mv (.t 12)),
 .op (some 55) none (.ibin .add (.t 54) (.c (.i .i64 1))),
 .op (some 56) none (.ibin .neq (.t 53) (.t 55)),
 .op (some 57) none (.mv (.t 56)),
 .op (some 58) (some (57, false)) (.mv (.t 16)),
 .op (some 59) (some (57, false)) (.un .not (.t 58)),
 .op (some 60) none (.pick (.t 57) (.c (.b true)) (.t 59)),
 .op (some 61) none (.mv (.t 60)),
 .op (some 62) (some (61, false)) (.mv (.t 11)),
 .op (some 63) (some (61, false)) (.un .not (.t 62)),
 .op (some 64) (some (61, false)) (.mv (.t 63)),
 .op (some 65) (some (64, false)) (.ldn 2 (.t 5)),
 .op (some 66) (some (64, false)) (.ldn 2 (.t 10)),
 .call (some 67) (some (64, false)) (.c (.fn (.func 23) [] [])) [(.t 65), (.t 66)],
 .op (some 68) (some (61, false)) (.pick (.t 64) (.c (.b true)) (.t 67)),
 .op (some 69) (some (61, false)) (.ldn 2 (.t 15)),
 .op (some 70) (some (61, false)) (.ldn 2 (.t 5)),
 .op (some 71) (some (61, false)) (.eqs [0, 0] false (.t 69) (.t 70)),
 .op (some 72) (some (61, false)) (.eqn 1 true (.t 68) (.t 71)),
 .op (some 73) none (.pick (.t 61) (.c (.b true)) (.t 72)),
 .op (some 74) none (.mv (.t 73)),
 .op (some 75) (some (74, false)) (.ldn 2 (.t 15)),
 .op (some 76) (some (74, false)) (.ldn 2 (.t 5)),
 .op (some 77) (some (74, false)) (.eqs [0, 0] false (.t 75) (.t 76)),
 .op (some 78) (some (74, false)) (.mv (.t 77)),
 .op (some 79) (some (78, true)) (.mv (.t 14)),
 .op (some 80) (some (78, true)) (.mv (.t 1)),
 .op (some 81) (some (78, true)) (.ibin .neq (.t 79) (.t 80)),
 .op (some 82) (some (74, false)) (.pick (.t 78) (.t 81) (.c (.b false))),
 .op (some 83) none (.pick (.t 74) (.c (.b true)) (.t 82)),
 .op (some 84) none (.mv (.t 83)),
 .op (some 85) (some (84, false)) (.ldn 2 (.t 15)),
 .op (some 86) (some (84, false)) (.ldn 2 (.t 5)),
 .op (some 87) (some (84, false)) (.eqs [0, 0] true (.t 85) (.t 86)),
 .op (some 88) (some (84, false)) (.mv (.t 87)),
 .op (some 89) (some (88, true)) (.mv (.t 14)),
 .op (some 90) (some (88, true)) (.mv (.t 9)),
 .op (some 91) (some (88, true)) (.ibin .neq (.t 89) (.t 90)),
 .op (some 92) (some (88, true)) (.mv (.t 91)),
 .op (some 93) (some (92, false)) (.ldn 2 (.t 15)),
 .op (some 94) (some (92, false)) (.ldn 2 (.t 10)),
 .op (some 95) (some (92, false)) (.eqs [0, 0] true (.t 93) (.t 94)),
 .op (some 96) (some (88, true)) (.pick (.t 92) (.c (.b true)) (.t 95)),
 .op (some 97) (some (84, false)) (.pick (.t 88) (.t 96) (.c (.b false))),
 .op (some 98) none (.pick (.t 84) (.c (.b true)) (.t 97))]
 [0, 2, 3, 1, 4, 5, 6, 7, 8, 9, 10, 11, 12, 13, 14, 17, 18, 19, 15, 16, 20, 21, 22, 23, 24, 25, 26, 27, 28, 29, 30, 31, 32, 33, 34, 35, 36, 37, 38, 39, 40, 41, 42, 43, 44, 45, 46] [0, 1, 0, 4, 15, 31, 63, 127, 255, 511, 1023, 2047, 4095, 8191, 8191, 32767, 65535, 1023, 1023, 394239, 1048575, 2097151, 4194303, 8388607, 8388607, 33554431, 67108863, 134217727, 134217727, 536870911, 1073741823, 2147483647, 4294967295, 8589934591, 8589934591, 34359738367, 68719476735, 137438953471, 137438953471, 549755813887, 1099511627775, 2199023255551, 2199023255551, 8796093022207, 17592186044415, 35184372088831, 70368744177663])
 (.cond (.t 98)
 (.seq (.reg [.op (some 6) none (.mv (.c (.b false)))])
 (.ret))
 (.skip))))
 (.seq (.seq (.reg [.op (some 100) none (.ibin .eql (.t 43) (.c (.i .i64 60))),
 .op (some 99) none (.mv (.t 100))])
 (.cond (.t 99)
 (.skip)
 (.reg [.op (some 101) none (.ibin .eql (.t 43) (.c (.i .i64 4))),
 .op (some 99) none (.mv (.t 101))])))
 (.cond (.t 99)
 (.seq (.reg [.op (some 103) none (.mv (.t 7)),
 .call (some 104) none (.c (.fn (.func 16) [] [])) [(.t 103)],
 .op (some 102) none (.mv (.t 104)),
 .op (some 105) none (.ext (.t 102) 0),
 .op (some 106) none (.ext (.t 102) 1),
 .op (some 107) none (.ext (.t 102) 2),
 .op (some 18) none (.box (.c (.agg [(.i .u64 0), (.i .u64 0)]))),
 .op (some 17) none (.mv (.t 105)),
 .op none none (.st 2 (.t 18) (.t 106)),
 .op (some 19) none (.mv (.t 107))])
 (.seq (.reg [.op (some 108) none (.mv (.t 7)),
 .call (some 109) none (.c (.fn (.func 18) [] [])) [(.t 108)],
 .op (some 110) none (.mv (.t 12)),
 .op (some 111) none (.ibin .neq (.t 109) (.t 110)),
 .op (some 112) none (.mv (.t 111)),
 .op (some 113) (some (112, false)) (.mv (.t 17)),
 .op (some 114) (some (112, false)) (.mv (.t 9)),
 .op (some 115) (some (112, false)) (.ibin .neq (.t 113) (.t 114)),
 .op (some 116) none (.pick (.t 112) (.c (.b true)) (.t 115)),
 .op (some 117) none (.mv (.t 116)),
 .op (some 118) (some (117, false)) (.ldn 2 (.t 18)),
 .op (some 119) (some (117, false)) (.ldn 2 (.t 10)),
 .op (some 120) (some (117, false)) (.eqs [0, 0] true (.t 118) (.t 119)),
 .op (some 121) none (.pick (.t 117) (.c (.b true)) (.t 120)),
 .op (some 122) none (.mv (.t 121)),
 .op (some 123) (some (122, false)) (.mv (.t 19)),
 .op (some 124) (some (122, false)) (.mv (.t 11)),
 .op (some 125) (some (122, false)) (.eqn 1 true (.t 123) (.t 124)),
 .op (some 126) none (.pick (.t 122) (.c (.b true)) (.t 125)),
 .op (some 127) none (.mv (.t 126)),
 .op (some 128) (some (127, false)) (.mv (.t 13)),
 .op (some 129) (some (127, false)) (.ibin .eql (.t 128) (.c (.i .i64 4))),
 .op (some 130) (some (127, false)) (.mv (.t 129)),
 .op (some 131) (some (130, true)) (.mv (.t 12)),
 .op (some 132) (some (130, true)) (.ibin .lss (.t 131) (.c (.i .i64 40))),
 .op (some 133) (some (127, false)) (.pick (.t 130) (.t 132) (.c (.b false))),
 .op (some 134) none (.pick (.t 127) (.c (.b true)) (.t 133))])
 (.cond (.t 134)
 (.seq (.reg [.op (some 6) none (.mv (.c (.b false)))])
 (.ret))
 (.skip))))
 (.seq (.reg [.op (some 6) none (.mv (.c (.b false)))])
 (.ret)))))))))
 (.seq (.reg [.op (some 135) none (.mv (.t 12)),
 .op (some 136) none (.ibin .gtr (.t 135) (.c (.i .i64 0))),
 .op (some 137) none (.mv (.t 11)),
 .op (some 138) none (.eqn 1 false (.t 136) (.t 137)),
 .op (some 139) none (.mv (.t 138)),
 .call (some 140) (some (139, true)) (.c (.fn (.func 11) [] [])) [],
 .op (some 141) none (.pick (.t 139) (.t 140) (.c (.b false))),
 .op (some 6) none (.mv (.t 141))])
 (.ret))))))),
 [.t 6]⟩
def k6 : List Nat := [0, 1, 2, 5, 6, 7, 8, 9, 10, 11, 12, 13, 14, 15, 16, 17, 18, 19, 30, 43, 44, 98, 99, 134]
set_option maxRecDepth 100000 in
theorem c6 : compF Go.Proofs.Try.prog 3 Go.Proofs.Try.f6 = some e6 := by kernel_rfl
/-- sandglass/sandglasslaw11.FifoNone -/
def e8 : IFunc := ⟨71, 2,
 .seq (.reg [.op (some 3) none (.box (.t 1)),
 .op (some 4) none (.mv (.c (.b false)))])
 (.seq (.seq (.reg [.op (some 13) none (.build [.nils, .nilp, (.i .i64 0)] []),
 .op (some 14) none (.box (.t 13)),
 .op (some 15) none (.bslice 1 2 [.nilp, .nilp] [(0, 1, (.c .nilp)), (1, 1, (.t 14))]),
 .op (some 16) none (.len 2 (.t 15)),
 .op (some 17) none (.mv (.c (.i .i64 0)))])
 (.block 0
 (.loop
 (.seq (.reg [.op (some 18) none (.ibin .lss (.t 17) (.t 16))])
 (.seq (.cond (.t 18)
 (.skip)
 (.exit 0))
 (.seq (.block 1
 (.seq (.reg [.op (some 19) none (.iad 1 (.t 15) (.t 17)),
 .op (some 20) none (.ld1 (.t 19)),
 .op (some 6) none (.mv (.t 20))])
 (.seq (.reg [.op (some 22) none (.mv (.t 6)),
 .call (some 23) none (.c (.fn (.func 16) [] [])) [(.t 22)],
 .op (some 21) none (.mv (.t 23)),
 .op (some 24) none (.ext (.t 21) 0),
 .op (some 25) none (.ext (.t 21) 1),
 .op (some 26) none (.ext (.t 21) 2),
 .op (some 8) none (.box (.c (.agg [(.i .u64 0), (.i .u64 0)]))),
 .op (some 7) none (.mv (.t 24)),
 .op none none (.st 2 (.t 8) (.t 25)),
 .op (some 9) none (.mv (.t 26))])
 (.seq (.reg [.op (some 28) none (.mv (.t 6)),
 .call (some 29) none (.c (.fn (.func 14) [] [])) [(.t 28)],
 .op (some 27) none (.mv (.t 29)),
 .op (some 30) none (.ext (.t 27) 0),
 .op (some 31) none (.ext (.t 27) 1),
 .op (some 32) none (.ext (.t 27) 2),
 .op (some 11) none (.box (.c (.agg [(.i .u64 0), (.i .u64 0)]))),
 .op (some 10) none (.mv (.t 30)),
 .op none none (.st 2 (.t 11) (.t 31)),
 .op (some 12) none (.mv (.t 32))])
 (.seq (.reg [.op (some 33) none (.mv (.t 6)),
 .op (some 34) none (.mv (.t 0)),
 .op (some 35) none (.ldn 2 (.t 3)),
 .call (some 36) none (.c (.fn (.func 12) [] [])) [(.t 33), (.t 34), (.t 35)],
 .op (some 37) none (.ibin .neq (.t 36) (.c (.i .i64 1))),
 .op (some 38) none (.mv (.t 37)),
 .op (some 39) (some (38, false)) (.mv (.t 9)),
 .op (some 40) none (.pick (.t 38) (.c (.b true)) (.t 39)),
 .op (some 41) none (.mv (.t 40)),
 .op (some 42) (some (41, false)) (.mv (.t 12)),
 .op (some 43) none (.pick (.t 41) (.c (.b true)) (.t 42)),
 .op (some 44) none (.mv (.t 43)),
 .op (some 45) (some (44, false)) (.mv (.t 7)),
 .op (some 46) (some (44, false)) (.mv (.t 10)),
 .op (some 47) (some (44, false)) (.ibin .add (.t 45) (.t 46)),
 .op (some 48) (some (44, false)) (.ibin .neq (.t 47) (.c (.i .u64 0))),
 .op (some 49) none (.pick (.t 44) (.c (.b true)) (.t 48)),
 .op (some 50) none (.mv (.t 49)),
 .op (some 51) (some (50, false)) (.ldn 2 (.t 8)),
 .op (some 52) (some (50, false)) (.ldn 2 (.t 11)),
 .op (some 53) (some (50, false)) (.eqs [0, 0] true (.t 51) (.t 52)),
 .op (some 54) none (.pick (.t 50) (.c (.b true)) (.t 53)),
 .op (some 55) none (.mv (.t 54)),
 .op (some 56) (some (55, false)) (.ldn 2 (.t 8)),
 .op (some 57) (some (55, false)) (.build [(.i .u64 0), (.i .u64 0)] []),
 .op (some 58) (some (55, false)) (.eqs [0, 0] true (.t 56) (.t 57)),
 .op (some 59) none (.pick (.t 55) (.c (.b true)) (.t 58)),
 .op (some 60) none (.mv (.t 59)),
 .op (some 61) (some (60, false)) (.mv (.t 6)),
 .call (some 62) (some (60, false)) (.c (.fn (.func 18) [] [])) [(.t 61)],
 .op (some 63) (some (60, false)) (.mv (.t 6)),
 .call (some 64) (some (60, false)) (.c (.fn (.func 20) [] [])) [(.t 63)],
 .op (some 65) (some (60, false)) (.len 2 (.t 64)),
 .op (some 66) (some (60, false)) (.ibin .add (.t 62) (.t 65)),
 .op (some 67) (some (60, false)) (.ibin .neq (.t 66) (.c (.i .i64 0))),
 .op (some 68) none (.pick (.t 60) (.c (.b true)) (.t 67))])
 (.cond (.t 68)
 (.seq (.reg [.op (some 4) none (.mv (.c (.b false)))])
 (.ret))
 (.skip)))))))
 (.reg [.op (some 69) none (.ibin .add (.t 17) (.c (.i .i64 1))),
 .op (some 17) none (.mv (.t 69))])))))))
 (.seq (.reg [.call (some 70) none (.c (.fn (.func 11) [] [])) [],
 .op (some 4) none (.mv (.t 70))])
 (.ret))),
 [.t 4]⟩
def k8 : List Nat := [0, 1, 3, 4, 6, 7, 8, 9, 10, 11, 12, 15, 16, 17, 18, 68]
set_option maxRecDepth 100000 in
theorem c8 : compF Go.Proofs.Try.prog 2 Go.Proofs.Try.f8 = some e8 := by kernel_rfl
/-- sandglass/fifo.New -/
def e9 : IFunc := ⟨18, 1,
 .seq (.reg [.op (some 2) none (.mv (.c .nilp)),
 .op (some 3) none (.mv (.c (.i .i64 0)))])
 (.seq (.reg [.op (some 7) none (.mv (.t 0)),
 .call (some 8) none (.c (.fn (.func 25) [] [])) [(.t 7)],
 .op (some 6) none (.mv (.t 8)),
 .op (some 9) none (.ext (.t 6) 0),
 .op (some 10) none (.ext (.t 6) 1),
 .op (some 4) none (.mv (.t 9)),
 .op (some 5) none (.mv (.t 10))])
 (.seq (.seq (.reg [.op (some 11) none (.mv (.t 5)),
 .op (some 12) none (.ibin .neq (.t 11) (.c (.i .i64 0)))])
 (.cond (.t 12)
 (.seq (.reg [.op (some 13) none (.mv (.t 5)),
 .op (some 2) none (.mv (.c .nilp)),
 .op (some 3) none (.mv (.t 13))])
 (.ret))
 (.skip)))
 (.seq (.reg [.op (some 14) none (.mv (.t 4)),
 .op (some 15) none (.mv (.t 0)),
 .op (some 16) none (.build [.nils, .nilp, (.i .i64 0)] [(1, 1, (.t 14)), (2, 1, (.t 15))]),
 .op (some 17) none (.box (.t 16)),
 .op (some 2) none (.mv (.t 17)),
 .op (some 3) none (.mv (.c (.i .i64 0)))])
 (.ret)))),
 [.t 2, .t 3]⟩
def k9 : List Nat := [0, 2, 3, 4, 5, 12]
set_option maxRecDepth 100000 in
theorem c9 : compF Go.Proofs.Try.prog 1 Go.Proofs.Try.f9 = some e9 := by kernel_rfl
/-- sandglass/sandglasslaw11.awake -/
def e11 : IFunc := ⟨120, 0,
 .seq (.reg [.op (some 0) none (.mv (.c (.b false)))])
 (.seq (.reg [.call (some 23) none (.c (.fn (.func 9) [] [])) [(.c (.i .i64 5))],
 .op (some 22) none (.mv (.t 23)),
 .op (some 24) none (.ext (.t 22) 0),
 .op (some 25) none (.ext (.t 22) 1),
 .op (some 1) none (.mv (.t 24)),
 .op (some 2) none (.mv (.t 25))])
 (.seq (.reg [.op (some 26) none (.mv (.t 1)),
 .op (some 27) none (.build [(.i .u64 0), (.i .u64 0)] [(0, 1, (.c (.i .u64 5))), (1, 1, (.c (.i .u64 1)))]),
 .call (some 28) none (.c (.fn (.func 12) [] [])) [(.t 26), (.c (.i .u64 7)), (.t 27)]])
 (.seq (.reg [.op (some 29) none (.mv (.t 1)),
 .op (some 30) none (.build [(.i .u64 0), (.i .u64 0)] [(0, 1, (.c (.i .u64 9))), (1, 1, (.c (.i .u64 2)))]),
 .call (some 31) none (.c (.fn (.func 12) [] [])) [(.t 29), (.c (.i .u64 8)), (.t 30)]])
 (.seq (.reg [.op (some 32) none (.mv (.t 1)),
 .op (some 33) none (.build [(.i .u64 0), (.i .u64 0)] [(0, 1, (.c (.i .u64 6))), (1, 1, (.c (.i .u64 3)))]),
 .call (some 34) none (.c (.fn (.func 12) [] [])) [(.t 32), (.c (.i .u64 9)), (.t 33)]])
 (.seq (.reg [.op (some 35) none (.mv (.t 1)),
 .call (some 36) none (.c (.fn (.func 20) [] [])) [(.t 35)],
 .op (some 3) none (.mv (.t 36))])
 (.seq (.reg [.op (some 38) none (.mv (.t 1)),
 .call (some 39) none (.c (.fn (.func 16) [] [])) [(.t 38)],
 .op (some 37) none (.mv (.t 39)),
 .op (some 40) none (.ext (.t 37) 0),
 .op (some 41) none (.ext (.t 37) 1),
 .op (some 42) none (.ext (.t 37) 2),
 .op (some 5) none (.box (.c (.agg [(.i .u64 0), (.i .u64 0)]))),
 .op (some 4) none (.mv (.t 40)),
 .op none none (.st 2 (.t 5) (.t 41)),
 .op (some 6) none (.mv (.t 42))])
 (.seq (.reg [.op (some 43) none (.mv (.t 1)),
 .op (some 44) none (.build [(.i .u64 0), (.i .u64 0)] [(0, 1, (.c (.i .u64 9))), (1, 1, (.c (.i .u64 2)))]),
 .call (some 45) none (.c (.fn (.func 12) [] [])) [(.t 43), (.c (.i .u64 1)), (.t 44)],
 .op (some 7) none (.mv (.t 45))])
 (.seq (.reg [.op (some 47) none (.mv (.t 1)),
 .call (some 48) none (.c (.fn (.func 14) [] [])) [(.t 47)],
 .op (some 46) none (.mv (.t 48)),
 .op (some 49) none (.ext (.t 46) 0),
 .op (some 50) none (.ext (.t 46) 1),
 .op (some 51) none (.ext (.t 46) 2),
 .op (some 9) none (.box (.c (.agg [(.i .u64 0), (.i .u64 0)]))),
 .op (some 8) none (.mv (.t 49)),
 .op none none (.st 2 (.t 9) (.t 50)),
 .op (some 10) none (.mv (.t 51))])
 (.seq (.reg [.op (some 53) none (.mv (.t 1)),
 .call (some 54) none (.c (.fn (.func 14) [] [])) [(.t 53)],
 .op (some 52) none (.mv (.t 54)),
 .op (some 55) none (.ext (.t 52) 0),
 .op (some 56) none (.ext (.t 52) 1),
 .op (some 57) none (.ext (.t 52) 2),
 .op (some 12) none (.box (.c (.agg [(.i .u64 0), (.i .u64 0)]))),
 .op (some 11) none (.mv (.t 55)),
 .op none none (.st 2 (.t 12) (.t 56)),
 .op (some 13) none (.mv (.t 57))])
 (.seq (.reg [.op (some 59) none (.mv (.t 1)),
 .call (some 60) none (.c (.fn (.func 14) [] [])) [(.t 59)],
 .op (some 58) none (.mv (.t 60)),
 .op (some 61) none (.ext (.t 58) 0),
 .op (some 62) none (.ext (.t 58) 1),
 .op (some 63) none (.ext (.t 58) 2),
 .op (some 15) none (.box (.c (.agg [(.i .u64 0), (.i .u64 0)]))),
 .op (some 14) none (.mv (.t 61)),
 .op none none (.st 2 (.t 15) (.t 62)),
 .op (some 16) none (.mv (.t 63))])
 (.seq (.reg [.op (some 65) none (.mv (.t 1)),
 .call (some 66) none (.c (.fn (.func 14) [] [])) [(.t 65)],
 .op (some 64) none (.mv (.t 66)),
 .op (some 67) none (.ext (.t 64) 0),
 .op (some 68) none (.ext (.t 64) 1),
 .op (some 69) none (.ext (.t 64) 2),
 .op (some 18) none (.box (.c (.agg [(.i .u64 0), (.i .u64 0)]))),
 .op (some 17) none (.mv (.t 67)),
 .op none none (.st 2 (.t 18) (.t 68)),
 .op (some 19) none (.mv (.t 69))])
 (.seq (.reg [.call (some 71) none (.c (.fn (.func 9) [] [])) [(.c (.i .i64 0))],
 .op (some 70) none (.mv (.t 71)),
 .op (some 72) none (.ext (.t 70) 0),
 .op (some 73) none (.ext (.t 70) 1),
 .op (some 20) none (.mv (.t 72)),
 .op (some 21) none (.mv (.t 73))])
 (.seq (.reg [.op (some 74) none (.mv (.t 2)),
 .op (some 75) none (.ibin .eql (.t 74) (.c (.i .i64 0))),
 .op (some 76) none (.mv (.t 75)),
 .op (some 77) (some (76, true)) (.mv (.t 3)),
 .op (some 78) (some (76, true)) (.bslice 1 3 [(.i .u64 0), (.i .u64 0), (.i .u64 0)] [(0, 1, (.c (.i .u64 7))), (1, 1, (.c (.i .u64 9))), (2, 1, (.c (.i .u64 8)))]),
 .call (some 79) (some (76, true)) (.c (.fn (.func 19) [] [])) [(.t 77), (.t 78)],
 .op (some 80) none (.pick (.t 76) (.t 79) (.c (.b false))),
 .op (some 81) none (.mv (.t 80)),
 .op (some 82) (some (81, true)) (.mv (.t 4)),
 .op (some 83) (some (81, true)) (.ibin .eql (.t 82) (.c (.i .u64 7))),
 .op (some 84) none (.pick (.t 81) (.t 83) (.c (.b false))),
 .op (some 85) none (.mv (.t 84)),
 .op (some 86) (some (85, true)) (.mv (.t 6)),
 .op (some 87) none (.pick (.t 85) (.t 86) (.c (.b false))),
 .op (some 88) none (.mv (.t 87)),
 .op (some 89) (some (88, true)) (.mv (.t 7)),
 .op (some 90) (some (88, true)) (.ibin .eql (.t 89) (.c (.i .i64 60))),
 .op (some 91) none (.pick (.t 88) (.t 90) (.c (.b false))),
 .op (some 92) none (.mv (.t 91)),
 .op (some 93) (some (92, true)) (.mv (.t 8)),
 .op (some 94) (some (92, true)) (.ibin .eql (.t 93) (.c (.i .u64 7))),
 .op (some 95) none (.pick (.t 92) (.t 94) (.c (.b false))),
 .op (some 96) none (.mv (.t 95)),
 .op (some 97) (some (96, true)) (.mv (.t 11)),
 .op (some 98) (some (96, true)) (.ibin .eql (.t 97) (.c (.i .u64 9))),
 .op (some 99) none (.pick (.t 96) (.t 98) (.c (.b false))),
 .op (some 100) none (.mv (.t 99)),
 .op (some 101) (some (100, true)) (.mv (.t 14)),
 .op (some 102) (some (100, true)) (.ibin .eql (.t 101) (.c (.i .u64 8))),
 .op (some 103) none (.pick (.t 100) (.t 102) (.c (.b false))),
 .op (some 104) none (.mv (.t 103)),
 .op (some 105) (some (104, true)) (.ldn 2 (.t 15)),
 .op (some 106) (some (104, true)) (.build [(.i .u64 0), (.i .u64 0)] [(0, 1, (.c (.i .u64 9))), (1, 1, (.c (.i .u64 2)))]),
 .op (some 107) (some (104, true)) (.eqs [0, 0] false (.t 105) (.t 106)),
 .op (some 108) none (.pick (.t 104) (.t 107) (.c (.b false))),
 .op (some 109) none (.mv (.t 108)),
 .op (some 110) (some (109, true)) (.mv (.t 16)),
 .op (some 111) none (.pick (.t 109) (.t 110) (.c (.b false))),
 .op (some 112) none (.mv (.t 111)),
 .op (some 113) (some (112, true)) (.mv (.t 19)),
 .op (some 114) (some (112, true)) (.un .not (.t 113)),
 .op (some 115) none (.pick (.t 112) (.t 114) (.c (.b false))),
 .op (some 116) none (.mv (.t 115)),
 .op (some 117) (some (116, true)) (.mv (.t 21)),
 .op (some 118) (some (116, true)) (.ibin .eql (.t 117) (.c (.i .i64 2))),
 .op (some 119) none (.pick (.t 116) (.t 118) (.c (.b false))),
 .op (some 0) none (.mv (.t 119))])
 (.ret)))))))))))))),
 [.t 0]⟩
def k11 : List Nat := [0, 1, 2, 3, 4, 6, 7, 8, 11, 14, 15, 16, 19, 21]
set_option maxRecDepth 100000 in
theorem c11 : compF Go.Proofs.Try.prog 0 Go.Proofs.Try.f11 = some e11 := by kernel_rfl
/-- (*sandglass/fifo.Fifo).Push -/
def e12 : IFunc := ⟨63, 3,
 .seq (.reg [.op (some 5) none (.box (.t 2)),
 .op (some 6) none (.mv (.c (.i .i64 0)))])
 (.seq (.block 0
 (.seq (.reg [.op (some 9) none (.mv (.t 0)),
 .call (some 10) none (.c (.fn (.func 26) [] [])) [(.t 9)],
 .op (some 8) none (.mv (.t 10))])
 (.cond (.t 8)
 (.seq (.reg [.op (some 6) none (.mv (.c (.i .i64 1)))])
 (.ret))
 (.seq (.reg [.op (some 12) none (.mv (.t 0)),
 .op (some 13) none (.ldn 2 (.t 5)),
 .call (some 14) none (.c (.fn (.func 27) [] [])) [(.t 12), (.t 13)],
 .op (some 11) none (.mv (.t 14))])
 (.cond (.t 11)
 (.seq (.reg [.op (some 6) none (.mv (.c (.i .i64 60)))])
 (.ret))
 (.seq (.dreg [.op (some 16) none (.mv (.t 0)),
 .call (some 17) none (.c (.fn (.func 18) [] [])) [(.t 16)],
 .op (some 18) none (.mv (.t 0)),
 .op (some 19) none (.nilchk (.t 18)),
 .op (some 20) none (.fad 2 (.t 19)),
 .op (some 21) none (.ld1 (.t 20)),
 .op (some 22) none (.ibin .geq (.t 17) (.t 21)),
 .op (some 15) none (.mv (.t 22))]
 [0, 2, 3, 4, 5, 1, 6, 7] [0, 1, 0, 4, 12, 28, 63, 127])
 (.cond (.t 15)
 (.seq (.reg [.op (some 6) none (.mv (.c (.i .i64 4)))])
 (.ret))
 (.skip))))))))
 (.seq (.seq (.reg [.op (some 23) none (.mv (.t 0)),
 .op (some 24) none (.nilchk (.t 23)),
 .op (some 25) none (.fad 0 (.t 24)),
 .op (some 26) none (.ld1 (.t 25)),
 .op (some 27) none (.len 2 (.t 26)),
 .op (some 7) none (.mv (.t 27))])
 (.seq (.dreg [.op (some 28) none (.mv (.t 7)),
 .op (some 29) none (.ibin .gtr (.t 28) (.c (.i .i64 0))),
 .op (some 30) none (.mv (.t 29)),
 .op (some 31) (some (30, true)) (.ldn 2 (.t 5)),
 .op (some 32) (some (30, true)) (.mv (.t 0)),
 .op (some 33) (some (30, true)) (.nilchk (.t 32)),
 .op (some 34) (some (30, true)) (.fad 0 (.t 33)),
 .op (some 35) (some (30, true)) (.ld1 (.t 34)),
 .op (some 36) (some (30, true)) (.mv (.t 7)),
 .op (some 37) (some (30, true)) (.ibin .sub (.t 36) (.c (.i .i64 1))),
 .op (some 38) (some (30, true)) (.iad 3 (.t 35) (.t 37)),
 .op (some 39) (some (30, true)) (.fad 1 (.t 38)),
 .op (some 40) (some (30, true)) (.ldn 2 (.t 39)),
 .call (some 41) (some (30, true)) (.c (.fn (.func 28) [] [])) [(.t 31), (.t 40)],
 .op (some 42) none (.pick (.t 30) (.t 41) (.c (.b false)))]
 [0, 1, 2, 3, 4, 5, 6, 7, 8, 9, 10, 11, 12, 13, 14] [0, 1, 3, 7, 7, 23, 55, 119, 7, 263, 1015, 2039, 4087, 8191, 16383])
 (.cond (.t 42)
 (.seq (.dreg [.op (some 43) none (.mv (.t 0)),
 .op (some 44) none (.nilchk (.t 43)),
 .op (some 45) none (.fad 1 (.t 44)),
 .op (some 46) none (.ld1 (.t 45)),
 .op (some 47) none (.ldn 2 (.t 5)),
 .op (some 48) none (.mv (.t 1)),
 .op (some 49) none (.conv .i64 (.t 48)),
 .call (some 50) none (.c (.fn (.func 29) [] [])) [(.t 46), (.t 47), (.t 49)],
 .op (some 6) none (.mv (.t 50))]
 [0, 1, 2, 3, 4, 5, 6, 7, 8] [0, 1, 3, 7, 0, 0, 32, 127, 255])
 (.ret))
 (.skip))))
 (.seq (.dreg [.op (some 51) none (.mv (.t 0)),
 .op (some 52) none (.mv (.t 0)),
 .op (some 53) none (.nilchk (.t 52)),
 .op (some 54) none (.fad 0 (.t 53)),
 .op (some 55) none (.ld1 (.t 54)),
 .op (some 56) none (.mv (.t 1)),
 .op (some 57) none (.ldn 2 (.t 5)),
 .op (some 58) none (.build [(.i .u64 0), (.i .u64 0), (.i .u64 0)] [(0, 1, (.t 56)), (1, 2, (.t 57))]),
 .op (some 59) none (.bslice 3 1 [(.i .u64 0), (.i .u64 0), (.i .u64 0)] [(0, 3, (.t 58))]),
 .op (some 60) none (.app 3 24 (.t 55) (.t 59)),
 .op (some 61) none (.nilchk (.t 51)),
 .op (some 62) none (.fad 0 (.t 61)),
 .op none none (.st 1 (.t 62) (.t 60))]
 [0, 1, 2, 3, 4, 5, 6, 7, 8, 9, 10, 11, 12] [0, 0, 2, 6, 14, 0, 0, 96, 224, 510, 1023, 2047, 4095])
 (.seq (.reg [.op (some 6) none (.mv (.c (.i .i64 0)))])
 (.ret))))),
 [.t 6]⟩
def k12 : List Nat := [0, 1, 2, 5, 6, 7, 8, 11, 15, 42]
set_option maxRecDepth 100000 in
theorem c12 : compF Go.Proofs.Try.prog 3 Go.Proofs.Try.f12 = some e12 := by kernel_rfl
/-- (*sandglass/fifo.Fifo).Pop -/
def e14 : IFunc := ⟨42, 1,
 .seq (.reg [.op (some 2) none (.mv (.c (.i .u64 0))),
 .op (some 3) none (.box (.c (.agg [(.i .u64 0), (.i .u64 0)]))),
 .op (some 4) none (.mv (.c (.b false)))])
 (.seq (.seq (.reg [.op (some 8) none (.mv (.t 0)),
 .call (some 9) none (.c (.fn (.func 26) [] [])) [(.t 8)]])
 (.cond (.t 9)
 (.seq (.reg [.op (some 10) none (.build [(.i .u64 0), (.i .u64 0)] []),
 .op (some 2) none (.mv (.c (.i .u64 0))),
 .op none none (.st 2 (.t 3) (.t 10)),
 .op (some 4) none (.mv (.c (.b false)))])
 (.ret))
 (.skip)))
 (.seq (.reg [.op (some 12) none (.mv (.t 0)),
 .call (some 13) none (.c (.fn (.func 31) [] [])) [(.t 12)],
 .op (some 11) none (.mv (.t 13)),
 .op (some 14) none (.ext (.t 11) 0),
 .op (some 15) none (.ext (.t 11) 1),
 .op (some 16) none (.ext (.t 11) 2),
 .op (some 5) none (.box (.c (.agg [(.i .u64 0), (.i .u64 0), (.i .u64 0)]))),
 .op none none (.st 3 (.t 5) (.t 14)),
 .op (some 6) none (.mv (.t 15)),
 .op (some 7) none (.mv (.t 16))])
 (.seq (.block 0
 (.seq (.reg [.op (some 26) none (.mv (.t 7)),
 .op (some 27) none (.un .not (.t 26)),
 .op (some 25) none (.mv (.t 27))])
 (.cond (.t 25)
 (.skip)
 (.seq (.reg [.op (some 29) none (.mv (.t 6)),
 .op (some 28) none (.mv (.t 29))])
 (.cond (.t 28)
 (.dreg [.op (some 30) none (.mv (.t 0)),
 .op (some 31) none (.nilchk (.t 30)),
 .op (some 32) none (.fad 1 (.t 31)),
 .op (some 33) none (.ld1 (.t 32)),
 .op (some 34) none (.fad 1 (.t 5)),
 .op (some 35) none (.ldn 2 (.t 34)),
 .call (some 36) none (.c (.fn (.func 32) [] [])) [(.t 33), (.t 35)]]
 [0, 1, 2, 3, 4, 5, 6] [0, 1, 3, 7, 0, 16, 63])
 (.reg [.op (some 17) none (.mv (.t 0)),
 .op (some 18) none (.mv (.t 0)),
 .op (some 19) none (.nilchk (.t 18)),
 .op (some 20) none (.fad 0 (.t 19)),
 .op (some 21) none (.ld1 (.t 20)),
 .op (some 22) none (.slice 3 (.t 21) (some (.c (.i .i64 1))) none),
 .op (some 23) none (.nilchk (.t 17)),
 .op (some 24) none (.fad 0 (.t 23)),
 .op none none (.st 1 (.t 24) (.t 22))]))))))
 (.seq (.dreg [.op (some 37) none (.fad 0 (.t 5)),
 .op (some 38) none (.ld1 (.t 37)),
 .op (some 39) none (.fad 1 (.t 5)),
 .op (some 40) none (.ldn 2 (.t 39)),
 .op (some 41) none (.mv (.t 7)),
 .op (some 2) none (.mv (.t 38)),
 .op none none (.st 2 (.t 3) (.t 40)),
 .op (some 4) none (.mv (.t 41))]
 [0, 1, 2, 3, 4, 5, 6, 7] [0, 1, 0, 4, 0, 3, 47, 127])
 (.ret))))),
 [.t 2, .cn 3 2, .t 4]⟩
def k14 : List Nat := [0, 2, 3, 4, 5, 6, 7, 9, 25, 28]
set_option maxRecDepth 100000 in
theorem c14 : compF Go.Proofs.Try.prog 1 Go.Proofs.Try.f14 = some e14 := by kernel_rfl
/-- (*sandglass/fifo.Fifo).Head -/
def e16 : IFunc := ⟨22, 1,
 .seq (.reg [.op (some 2) none (.mv (.c (.i .u64 0))),
 .op (some 3) none (.box (.c (.agg [(.i .u64 0), (.i .u64 0)]))),
 .op (some 4) none (.mv (.c (.b false)))])
 (.seq (.seq (.reg [.op (some 8) none (.mv (.t 0)),
 .call (some 9) none (.c (.fn (.func 26) [] [])) [(.t 8)]])
 (.cond (.t 9)
 (.seq (.reg [.op (some 10) none (.build [(.i .u64 0), (.i .u64 0)] []),
 .op (some 2) none (.mv (.c (.i .u64 0))),
 .op none none (.st 2 (.t 3) (.t 10)),
 .op (some 4) none (.mv (.c (.b false)))])
 (.ret))
 (.skip)))
 (.seq (.reg [.op (some 12) none (.mv (.t 0)),
 .call (some 13) none (.c (.fn (.func 31) [] [])) [(.t 12)],
 .op (some 11) none (.mv (.t 13)),
 .op (some 14) none (.ext (.t 11) 0),
 .op (some 15) none (.ext (.t 11) 1),
 .op (some 16) none (.ext (.t 11) 2),
 .op (some 5) none (.box (.c (.agg [(.i .u64 0), (.i .u64 0), (.i .u64 0)]))),
 .op none none (.st 3 (.t 5) (.t 14)),
 .op (some 6) none (.mv (.t 15)),
 .op (some 7) none (.mv (.t 16))])
 (.seq (.dreg [.op (some 17) none (.fad 0 (.t 5)),
 .op (some 18) none (.ld1 (.t 17)),
 .op (some 19) none (.fad 1 (.t 5)),
 .op (some 20) none (.ldn 2 (.t 19)),
 .op (some 21) none (.mv (.t 7)),
 .op (some 2) none (.mv (.t 18)),
 .op none none (.st 2 (.t 3) (.t 20)),
 .op (some 4) none (.mv (.t 21))]
 [0, 1, 2, 3, 4, 5, 6, 7] [0, 1, 0, 4, 0, 3, 47, 127])
 (.ret)))),
 [.t 2, .cn 3 2, .t 4]⟩
def k16 : List Nat := [0, 2, 3, 4, 5, 7, 9]
set_option maxRecDepth 100000 in
theorem c16 : compF Go.Proofs.Try.prog 1 Go.Proofs.Try.f16 = some e16 := by kernel_rfl
/-- (*sandglass/fifo.Fifo).Len -/
def e18 : IFunc := ⟨16, 1,
 .seq (.reg [.op (some 2) none (.mv (.c (.i .i64 0)))])
 (.seq (.seq (.reg [.op (some 3) none (.mv (.t 0)),
 .call (some 4) none (.c (.fn (.func 26) [] [])) [(.t 3)]])
 (.cond (.t 4)
 (.seq (.reg [.op (some 2) none (.mv (.c (.i .i64 0)))])
 (.ret))
 (.skip)))
 (.seq (.dreg [.op (some 5) none (.mv (.t 0)),
 .op (some 6) none (.nilchk (.t 5)),
 .op (some 7) none (.fad 0 (.t 6)),
 .op (some 8) none (.ld1 (.t 7)),
 .op (some 9) none (.len 2 (.t 8)),
 .op (some 10) none (.mv (.t 0)),
 .op (some 11) none (.nilchk (.t 10)),
 .op (some 12) none (.fad 1 (.t 11)),
 .op (some 13) none (.ld1 (.t 12)),
 .call (some 14) none (.c (.fn (.func 33) [] [])) [(.t 13)],
 .op (some 15) none (.ibin .add (.t 9) (.t 14)),
 .op (some 2) none (.mv (.t 15))]
 [0, 1, 2, 3, 4, 5, 6, 7, 8, 9, 10, 11] [0, 1, 3, 7, 15, 0, 32, 96, 224, 480, 1023, 2047])
 (.ret))),
 [.t 2]⟩
def k18 : List Nat := [0, 2, 4]
set_option maxRecDepth 100000 in
theorem c18 : compF Go.Proofs.Try.prog 1 Go.Proofs.Try.f18 = some e18 := by kernel_rfl
/-- sandglass/sandglasslaw11.Handles -/
def e19 : IFunc := ⟨26, 2,
 .seq (.reg [.op (some 4) none (.mv (.c (.b false)))])
 (.seq (.seq (.reg [.op (some 6) none (.mv (.t 0)),
 .op (some 7) none (.len 2 (.t 6)),
 .op (some 8) none (.mv (.t 1)),
 .op (some 9) none (.len 2 (.t 8)),
 .op (some 10) none (.ibin .neq (.t 7) (.t 9))])
 (.cond (.t 10)
 (.seq (.reg [.op (some 4) none (.mv (.c (.b false)))])
 (.ret))
 (.skip)))
 (.seq (.seq (.reg [.op (some 11) none (.mv (.t 0)),
 .op (some 12) none (.len 2 (.t 11)),
 .op (some 13) none (.mv (.c (.i .i64 0)))])
 (.block 0
 (.loop
 (.seq (.reg [.op (some 14) none (.ibin .lss (.t 13) (.t 12))])
 (.seq (.cond (.t 14)
 (.skip)
 (.exit 0))
 (.seq (.block 1
 (.seq (.reg [.op (some 15) none (.mv (.t 13)),
 .op (some 5) none (.mv (.t 15))])
 (.seq (.dreg [.op (some 16) none (.mv (.t 0)),
 .op (some 17) none (.mv (.t 5)),
 .op (some 18) none (.iad 1 (.t 16) (.t 17)),
 .op (some 19) none (.ld1 (.t 18)),
 .op (some 20) none (.mv (.t 1)),
 .op (some 21) none (.mv (.t 5)),
 .op (some 22) none (.iad 1 (.t 20) (.t 21)),
 .op (some 23) none (.ld1 (.t 22)),
 .op (some 24) none (.ibin .neq (.t 19) (.t 23))]
 [0, 1, 2, 3, 4, 5, 6, 7, 8] [0, 0, 3, 7, 0, 0, 48, 112, 255])
 (.cond (.t 24)
 (.seq (.reg [.op (some 4) none (.mv (.c (.b false)))])
 (.ret))
 (.skip)))))
 (.reg [.op (some 25) none (.ibin .add (.t 13) (.c (.i .i64 1))),
 .op (some 13) none (.mv (.t 25))])))))))
 (.seq (.reg [.op (some 4) none (.mv (.c (.b true)))])
 (.ret)))),
 [.t 4]⟩
def k19 : List Nat := [0, 1, 4, 5, 10, 12, 13, 14, 24]
set_option maxRecDepth 100000 in
theorem c19 : compF Go.Proofs.Try.prog 2 Go.Proofs.Try.f19 = some e19 := by kernel_rfl
/-- (*sandglass/fifo.Fifo).All -/
def e20 : IFunc := ⟨51, 1,
 .seq (.reg [.op (some 2) none (.mv (.c .nils))])
 (.seq (.seq (.reg [.op (some 9) none (.mv (.t 0)),
 .call (some 10) none (.c (.fn (.func 26) [] [])) [(.t 9)]])
 (.cond (.t 10)
 (.seq (.reg [.op (some 2) none (.mv (.c .nils))])
 (.ret))
 (.skip)))
 (.seq (.reg [.op (some 11) none (.mv (.t 0)),
 .op (some 12) none (.nilchk (.t 11)),
 .op (some 13) none (.fad 0 (.t 12)),
 .op (some 14) none (.ld1 (.t 13)),
 .call (some 15) none (.c (.fn (.func 34) [] [])) [(.t 14)],
 .op (some 3) none (.mv (.t 15))])
 (.seq (.seq (.reg [.op (some 16) none (.mv (.t 0)),
 .op (some 17) none (.nilchk (.t 16)),
 .op (some 18) none (.fad 1 (.t 17)),
 .op (some 19) none (.ld1 (.t 18)),
 .call (some 20) none (.c (.fn (.func 35) [] [])) [(.t 19)],
 .op (some 21) none (.len 2 (.t 20)),
 .op (some 22) none (.mv (.c (.i .i64 0)))])
 (.block 0
 (.loop
 (.seq (.reg [.op (some 23) none (.ibin .lss (.t 22) (.t 21))])
 (.seq (.cond (.t 23)
 (.skip)
 (.exit 0))
 (.seq (.block 1
 (.seq (.reg [.op (some 24) none (.iad 3 (.t 20) (.t 22)),
 .op (some 25) none (.ldn 3 (.t 24)),
 .op (some 5) none (.box (.c (.agg [(.i .u64 0), (.i .u64 0), (.i .i64 0)]))),
 .op none none (.st 3 (.t 5) (.t 25))])
 (.reg [.op (some 26) none (.mv (.t 3)),
 .op (some 27) none (.fad 2 (.t 5)),
 .op (some 28) none (.ld1 (.t 27)),
 .op (some 29) none (.conv .u64 (.t 28)),
 .op (some 30) none (.fad 0 (.t 5)),
 .op (some 31) none (.ldn 2 (.t 30)),
 .op (some 32) none (.build [(.i .u64 0), (.i .u64 0), (.i .u64 0)] [(0, 1, (.t 29)), (1, 2, (.t 31))]),
 .op (some 33) none (.bslice 3 1 [(.i .u64 0), (.i .u64 0), (.i .u64 0)] [(0, 3, (.t 32))]),
 .op (some 34) none (.app 3 24 (.t 26) (.t 33)),
 .op (some 3) none (.mv (.t 34))])))
 (.reg [.op (some 35) none (.ibin .add (.t 22) (.c (.i .i64 1))),
 .op (some 22) none (.mv (.t 35))])))))))
 (.seq (.reg [.op (some 36) none (.mv (.t 3)),
 .call (some 37) none (.c (.fn (.func 36) [] [])) [(.t 36), (.c (.fn (.func 37) [] []))]])
 (.seq (.reg [.op (some 6) none (.mv (.c .nils))])
 (.seq (.seq (.reg [.op (some 38) none (.mv (.t 3)),
 .op (some 39) none (.len 2 (.t 38)),
 .op (some 40) none (.mv (.c (.i .i64 0)))])
 (.block 2
 (.loop
 (.seq (.reg [.op (some 41) none (.ibin .lss (.t 40) (.t 39))])
 (.seq (.cond (.t 41)
 (.skip)
 (.exit 2))
 (.seq (.block 3
 (.seq (.reg [.op (some 42) none (.iad 3 (.t 38) (.t 40)),
 .op (some 43) none (.ldn 3 (.t 42)),
 .op (some 8) none (.box (.c (.agg [(.i .u64 0), (.i .u64 0), (.i .u64 0)]))),
 .op none none (.st 3 (.t 8) (.t 43))])
 (.reg [.op (some 44) none (.mv (.t 6)),
 .op (some 45) none (.fad 0 (.t 8)),
 .op (some 46) none (.ld1 (.t 45)),
 .op (some 47) none (.bslice 1 1 [(.i .u64 0)] [(0, 1, (.t 46))]),
 .op (some 48) none (.app 1 8 (.t 44) (.t 47)),
 .op (some 6) none (.mv (.t 48))])))
 (.reg [.op (some 49) none (.ibin .add (.t 40) (.c (.i .i64 1))),
 .op (some 40) none (.mv (.t 49))])))))))
 (.seq (.reg [.op (some 50) none (.mv (.t 6)),
 .op (some 2) none (.mv (.t 50))])
 (.ret)))))))),
 [.t 2]⟩
def k20 : List Nat := [0, 2, 3, 5, 6, 8, 10, 20, 21, 22, 23, 38, 39, 40, 41]
set_option maxRecDepth 100000 in
theorem c20 : compF Go.Proofs.Try.prog 1 Go.Proofs.Try.f20 = some e20 := by kernel_rfl
/-- sandglass/sandglasslaw11.played -/
def e22 : IFunc := ⟨40, 1,
 .seq (.reg [.op (some 2) none (.mv (.c .nilp)),
 .op (some 3) none (.mv (.c (.b false)))])
 (.seq (.reg [.call (some 9) none (.c (.fn (.func 9) [] [])) [(.c (.i .i64 40))],
 .op (some 8) none (.mv (.t 9)),
 .op (some 10) none (.ext (.t 8) 0),
 .op (some 11) none (.ext (.t 8) 1),
 .op (some 4) none (.mv (.t 10)),
 .op (some 5) none (.mv (.t 11))])
 (.seq (.seq (.reg [.op (some 12) none (.mv (.t 0)),
 .op (some 13) none (.mv (.t 0)),
 .op (some 14) none (.len 2 (.t 13)),
 .op (some 15) none (.mx true (.t 14) [(.c (.i .i64 60))]),
 .op (some 16) none (.slice 4 (.t 12) none (some (.t 15))),
 .op (some 17) none (.len 2 (.t 16)),
 .op (some 18) none (.mv (.c (.i .i64 0)))])
 (.block 0
 (.loop
 (.seq (.reg [.op (some 19) none (.ibin .lss (.t 18) (.t 17))])
 (.seq (.cond (.t 19)
 (.skip)
 (.exit 0))
 (.seq (.block 1
 (.seq (.reg [.op (some 20) none (.iad 4 (.t 16) (.t 18)),
 .op (some 21) none (.ldn 4 (.t 20)),
 .op (some 7) none (.box (.c (.agg [(.i .u8 0), (.i .u64 0), (.i .u64 0), (.i .u64 0)]))),
 .op none none (.st 4 (.t 7) (.t 21))])
 (.seq (.reg [.op (some 22) none (.fad 0 (.t 7)),
 .op (some 23) none (.ld1 (.t 22))])
 (.block 2
 (.seq (.reg [.op (some 25) none (.ibin .eql (.t 23) (.c (.i .u8 1))),
 .op (some 24) none (.mv (.t 25))])
 (.cond (.t 24)
 (.reg [.op (some 26) none (.mv (.t 4)),
 .op (some 27) none (.fad 1 (.t 7)),
 .op (some 28) none (.ld1 (.t 27)),
 .op (some 29) none (.fad 2 (.t 7)),
 .op (some 30) none (.ldn 2 (.t 29)),
 .call (some 31) none (.c (.fn (.func 12) [] [])) [(.t 26), (.t 28), (.t 30)]])
 (.seq (.reg [.op (some 33) none (.ibin .eql (.t 23) (.c (.i .u8 2))),
 .op (some 32) none (.mv (.t 33))])
 (.cond (.t 32)
 (.reg [.op (some 34) none (.mv (.t 4)),
 .call (some 35) none (.c (.fn (.func 14) [] [])) [(.t 34)]])
 (.skip)))))))))
 (.reg [.op (some 36) none (.ibin .add (.t 18) (.c (.i .i64 1))),
 .op (some 18) none (.mv (.t 36))])))))))
 (.seq (.reg [.op (some 37) none (.mv (.t 4)),
 .op (some 38) none (.mv (.t 5)),
 .op (some 39) none (.ibin .eql (.t 38) (.c (.i .i64 0))),
 .op (some 2) none (.mv (.t 37)),
 .op (some 3) none (.mv (.t 39))])
 (.ret)))),
 [.t 2, .t 3]⟩
def k22 : List Nat := [0, 2, 3, 4, 5, 7, 16, 17, 18, 19, 23, 24, 32]
set_option maxRecDepth 100000 in
theorem c22 : compF Go.Proofs.Try.prog 1 Go.Proofs.Try.f22 = some e22 := by kernel_rfl
/-- sandglass/sandglasslaw11.ahead -/
def e23 : IFunc := ⟨24, 2,
 .seq (.reg [.op (some 2) none (.box (.t 0)),
 .op (some 3) none (.box (.t 1)),
 .op (some 4) none (.mv (.c (.b false)))])
 (.seq (.reg [.op (some 5) none (.fad 0 (.t 2)),
 .op (some 6) none (.ld1 (.t 5)),
 .op (some 7) none (.fad 0 (.t 3)),
 .op (some 8) none (.ld1 (.t 7)),
 .op (some 9) none (.ibin .lss (.t 6) (.t 8)),
 .op (some 10) none (.mv (.t 9)),
 .op (some 11) (some (10, false)) (.fad 0 (.t 2)),
 .op (some 12) (some (10, false)) (.ld1 (.t 11)),
 .op (some 13) (some (10, false)) (.fad 0 (.t 3)),
 .op (some 14) (some (10, false)) (.ld1 (.t 13)),
 .op (some 15) (some (10, false)) (.ibin .eql (.t 12) (.t 14)),
 .op (some 16) (some (10, false)) (.mv (.t 15)),
 .op (some 17) (some (16, true)) (.fad 1 (.t 2)),
 .op (some 18) (some (16, true)) (.ld1 (.t 17)),
 .op (some 19) (some (16, true)) (.fad 1 (.t 3)),
 .op (some 20) (some (16, true)) (.ld1 (.t 19)),
 .op (some 21) (some (16, true)) (.ibin .lss (.t 18) (.t 20)),
 .op (some 22) (some (10, false)) (.pick (.t 16) (.t 21) (.c (.b false))),
 .op (some 23) none (.pick (.t 10) (.c (.b true)) (.t 22)),
 .op (some 4) none (.mv (.t 23))])
 (.ret)),
 [.t 4]⟩
def k23 : List Nat := [0, 1, 2, 3, 4]
set_option maxRecDepth 100000 in
theorem c23 : compF Go.Proofs.Try.prog 2 Go.Proofs.Try.f23 = some e23 := by kernel_rfl
/-- sandglass/tree.New -/
def e25 : IFunc := ⟨14, 1,
 .seq (.reg [.op (some 2) none (.mv (.c .nilp)),
 .op (some 3) none (.mv (.c (.i .i64 0)))])
 (.seq (.seq (.reg [.op (some 4) none (.mv (.t 0)),
 .op (some 5) none (.ibin .lss (.t 4) (.c (.i .i64 1))),
 .op (some 6) none (.mv (.t 5)),
 .op (some 7) (some (6, false)) (.mv (.t 0)),
 .op (some 8) (some (6, false)) (.ibin .gtr (.t 7) (.c (.i .i64 65536))),
 .op (some 9) none (.pick (.t 6) (.c (.b true)) (.t 8))])
 (.cond (.t 9)
 (.seq (.reg [.op (some 2) none (.mv (.c .nilp)),
 .op (some 3) none (.mv (.c (.i .i64 2)))])
 (.ret))
 (.skip)))
 (.seq (.reg [.op (some 10) none (.mksl 7 56 [(.i .u64 0), (.i .u64 0), (.i .i64 0), (.i .i64 0), (.i .i64 0), (.i .i64 0), (.b false)] (.c (.i .i64 1)) (.c (.i .i64 1))),
 .op (some 11) none (.mv (.t 0)),
 .op (some 12) none (.build [.nils, .nils, (.i .i64 0), (.i .i64 0), (.i .i64 0)] [(0, 1, (.t 10)), (4, 1, (.t 11))]),
 .op (some 13) none (.box (.t 12)),
 .op (some 2) none (.mv (.t 13)),
 .op (some 3) none (.mv (.c (.i .i64 0)))])
 (.ret))),
 [.t 2, .t 3]⟩
def k25 : List Nat := [0, 2, 3, 9]
set_option maxRecDepth 100000 in
theorem c25 : compF Go.Proofs.Try.prog 1 Go.Proofs.Try.f25 = some e25 := by kernel_rfl
/-- (*sandglass/fifo.Fifo).none -/
def e26 : IFunc := ⟨12, 1,
 .seq (.reg [.op (some 2) none (.mv (.c (.b false)))])
 (.seq (.reg [.op (some 3) none (.mv (.t 0)),
 .op (some 4) none (.eqn 2 false (.t 3) (.c .nilp)),
 .op (some 5) none (.mv (.t 4)),
 .op (some 6) (some (5, false)) (.mv (.t 0)),
 .op (some 7) (some (5, false)) (.nilchk (.t 6)),
 .op (some 8) (some (5, false)) (.fad 1 (.t 7)),
 .op (some 9) (some (5, false)) (.ld1 (.t 8)),
 .op (some 10) (some (5, false)) (.eqn 2 false (.t 9) (.c .nilp)),
 .op (some 11) none (.pick (.t 5) (.c (.b true)) (.t 10)),
 .op (some 2) none (.mv (.t 11))])
 (.ret)),
 [.t 2]⟩
def k26 : List Nat := [0, 2]
set_option maxRecDepth 100000 in
theorem c26 : compF Go.Proofs.Try.prog 1 Go.Proofs.Try.f26 = some e26 := by kernel_rfl
/-- (*sandglass/fifo.Fifo).has -/
def e27 : IFunc := ⟨27, 2,
 .seq (.reg [.op (some 3) none (.box (.t 1)),
 .op (some 4) none (.mv (.c (.b false)))])
 (.seq (.dreg [.op (some 8) none (.mv (.t 0)),
 .op (some 9) none (.nilchk (.t 8)),
 .op (some 10) none (.fad 0 (.t 9)),
 .op (some 11) none (.ld1 (.t 10)),
 .op (some 12) none (.ldn 2 (.t 3)),
 .call (some 13) none (.c (.fn (.func 38) [] [])) [(.t 11), (.t 12), (.c (.fn (.func 39) [] []))],
 .op (some 7) none (.mv (.t 13)),
 .op (some 14) none (.ext (.t 7) 0),
 .op (some 15) none (.ext (.t 7) 1),
 .op (some 5) none (.mv (.t 14)),
 .op (some 6) none (.mv (.t 15))]
 [0, 1, 2, 3, 4, 5, 6, 7, 8, 9, 10] [0, 1, 3, 7, 0, 31, 63, 127, 127, 255, 1023])
 (.seq (.seq (.reg [.op (some 16) none (.mv (.t 6))])
 (.cond (.t 16)
 (.seq (.reg [.op (some 4) none (.mv (.c (.b true)))])
 (.ret))
 (.skip)))
 (.seq (.dreg [.op (some 18) none (.mv (.t 0)),
 .op (some 19) none (.nilchk (.t 18)),
 .op (some 20) none (.fad 1 (.t 19)),
 .op (some 21) none (.ld1 (.t 20)),
 .op (some 22) none (.ldn 2 (.t 3)),
 .call (some 23) none (.c (.fn (.func 40) [] [])) [(.t 21), (.t 22)],
 .op (some 17) none (.mv (.t 23)),
 .op (some 24) none (.ext (.t 17) 0),
 .op (some 25) none (.ext (.t 17) 1),
 .op (some 6) none (.mv (.t 25))]
 [0, 1, 2, 3, 4, 5, 6, 7, 8, 9] [0, 1, 3, 7, 0, 31, 63, 127, 127, 511])
 (.seq (.reg [.op (some 26) none (.mv (.t 6)),
 .op (some 4) none (.mv (.t 26))])
 (.ret))))),
 [.t 4]⟩
def k27 : List Nat := [0, 1, 3, 4, 6, 16]
set_option maxRecDepth 100000 in
theorem c27 : compF Go.Proofs.Try.prog 2 Go.Proofs.Try.f27 = some e27 := by kernel_rfl
/-- sandglass/fifo.less -/
def e28 : IFunc := ⟨29, 2,
 .seq (.reg [.op (some 2) none (.box (.t 0)),
 .op (some 3) none (.box (.t 1)),
 .op (some 4) none (.mv (.c (.b false)))])
 (.seq (.reg [.op (some 5) none (.ldn 2 (.t 2)),
 .op (some 6) none (.ldn 2 (.t 3)),
 .op (some 7) none (.eqs [0, 0] true (.t 5) (.t 6)),
 .op (some 8) none (.mv (.t 7)),
 .op (some 9) (some (8, true)) (.fad 0 (.t 2)),
 .op (some 10) (some (8, true)) (.ld1 (.t 9)),
 .op (some 11) (some (8, true)) (.fad 0 (.t 3)),
 .op (some 12) (some (8, true)) (.ld1 (.t 11)),
 .op (some 13) (some (8, true)) (.ibin .lss (.t 10) (.t 12)),
 .op (some 14) (some (8, true)) (.mv (.t 13)),
 .op (some 15) (some (14, false)) (.fad 0 (.t 2)),
 .op (some 16) (some (14, false)) (.ld1 (.t 15)),
 .op (some 17) (some (14, false)) (.fad 0 (.t 3)),
 .op (some 18) (some (14, false)) (.ld1 (.t 17)),
 .op (some 19) (some (14, false)) (.ibin .eql (.t 16) (.t 18)),
 .op (some 20) (some (14, false)) (.mv (.t 19)),
 .op (some 21) (some (20, true)) (.fad 1 (.t 2)),
 .op (some 22) (some (20, true)) (.ld1 (.t 21)),
 .op (some 23) (some (20, true)) (.fad 1 (.t 3)),
 .op (some 24) (some (20, true)) (.ld1 (.t 23)),
 .op (some 25) (some (20, true)) (.ibin .lss (.t 22) (.t 24)),
 .op (some 26) (some (14, false)) (.pick (.t 20) (.t 25) (.c (.b false))),
 .op (some 27) (some (8, true)) (.pick (.t 14) (.c (.b true)) (.t 26)),
 .op (some 28) none (.pick (.t 8) (.t 27) (.c (.b false))),
 .op (some 4) none (.mv (.t 28))])
 (.ret)),
 [.t 4]⟩
def k28 : List Nat := [0, 1, 2, 3, 4]
set_option maxRecDepth 100000 in
theorem c28 : compF Go.Proofs.Try.prog 2 Go.Proofs.Try.f28 = some e28 := by kernel_rfl
/-- (*sandglass/tree.Tree).Put -/
def e29 : IFunc := ⟨134, 3,
 .seq (.reg [.op (some 4) none (.box (.t 1)),
 .op (some 6) none (.mv (.c (.i .i64 0)))])
 (.seq (.seq (.reg [.op (some 10) none (.mv (.t 0)),
 .call (some 11) none (.c (.fn (.func 41) [] [])) [(.t 10)]])
 (.cond (.t 11)
 (.seq (.reg [.op (some 6) none (.mv (.c (.i .i64 1)))])
 (.ret))
 (.skip)))
 (.seq (.reg [.op (some 13) none (.mv (.t 0)),
 .op (some 14) none (.ldn 2 (.t 4)),
 .call (some 15) none (.c (.fn (.func 42) [] [])) [(.t 13), (.t 14)],
 .op (some 12) none (.mv (.t 15)),
 .op (some 16) none (.ext (.t 12) 0),
 .op (some 17) none (.ext (.t 12) 1),
 .op (some 7) none (.mv (.t 16)),
 .op (some 8) none (.mv (.t 17))])
 (.seq (.block 0
 (.seq (.reg [.op (some 19) none (.mv (.t 7)),
 .op (some 20) none (.ibin .neq (.t 19) (.c (.i .i64 0))),
 .op (some 18) none (.mv (.t 20))])
 (.cond (.t 18)
 (.seq (.reg [.op (some 6) none (.mv (.c (.i .i64 60)))])
 (.ret))
 (.seq (.dreg [.op (some 22) none (.mv (.t 0)),
 .op (some 23) none (.nilchk (.t 22)),
 .op (some 24) none (.fad 3 (.t 23)),
 .op (some 25) none (.ld1 (.t 24)),
 .op (some 26) none (.mv (.t 0)),
 .op (some 27) none (.nilchk (.t 26)),
 .op (some 28) none (.fad 4 (.t 27)),
 .op (some 29) none (.ld1 (.t 28)),
 .op (some 30) none (.ibin .eql (.t 25) (.t 29)),
 .op (some 21) none (.mv (.t 30))]
 [0, 1, 2, 3, 4, 5, 6, 7, 8, 9] [0, 1, 3, 7, 0, 16, 48, 112, 255, 511])
 (.cond (.t 21)
 (.seq (.reg [.op (some 6) none (.mv (.c (.i .i64 4)))])
 (.ret))
 (.skip))))))
 (.seq (.reg [.op (some 31) none (.mv (.t 0)),
 .op (some 32) none (.nilchk (.t 31)),
 .op (some 33) none (.fad 0 (.t 32)),
 .op (some 34) none (.ld1 (.t 33)),
 .op (some 35) none (.len 2 (.t 34)),
 .op (some 9) none (.mv (.t 35))])
 (.seq (.seq (.reg [.op (some 36) none (.mv (.t 0)),
 .op (some 37) none (.nilchk (.t 36)),
 .op (some 38) none (.fad 1 (.t 37)),
 .op (some 39) none (.ld1 (.t 38)),
 .op (some 40) none (.len 2 (.t 39)),
 .op (some 41) none (.ibin .gtr (.t 40) (.c (.i .i64 0)))])
 (.cond (.t 41)
 (.seq (.dreg [.op (some 42) none (.mv (.t 0)),
 .op (some 43) none (.nilchk (.t 42)),
 .op (some 44) none (.fad 1 (.t 43)),
 .op (some 45) none (.ld1 (.t 44)),
 .op (some 46) none (.mv (.t 0)),
 .op (some 47) none (.nilchk (.t 46)),
 .op (some 48) none (.fad 1 (.t 47)),
 .op (some 49) none (.ld1 (.t 48)),
 .op (some 50) none (.len 2 (.t 49)),
 .op (some 51) none (.ibin .sub (.t 50) (.c (.i .i64 1))),
 .op (some 52) none (.iad 1 (.t 45) (.t 51)),
 .op (some 53) none (.ld1 (.t 52)),
 .op (some 9) none (.mv (.t 53))]
 [0, 1, 2, 3, 4, 5, 6, 7, 8, 9, 10, 11, 12] [0, 1, 3, 7, 0, 16, 48, 112, 240, 496, 1023, 2047, 4095])
 (.dreg [.op (some 54) none (.mv (.t 0)),
 .op (some 55) none (.mv (.t 0)),
 .op (some 56) none (.nilchk (.t 55)),
 .op (some 57) none (.fad 1 (.t 56)),
 .op (some 58) none (.ld1 (.t 57)),
 .op (some 59) none (.mv (.t 0)),
 .op (some 60) none (.nilchk (.t 59)),
 .op (some 61) none (.fad 1 (.t 60)),
 .op (some 62) none (.ld1 (.t 61)),
 .op (some 63) none (.len 2 (.t 62)),
 .op (some 64) none (.ibin .sub (.t 63) (.c (.i .i64 1))),
 .op (some 65) none (.slice 1 (.t 58) none (some (.t 64))),
 .op (some 66) none (.nilchk (.t 54)),
 .op (some 67) none (.fad 1 (.t 66)),
 .op none none (.st 1 (.t 67) (.t 65))]
 [0, 1, 2, 3, 4, 5, 6, 7, 8, 9, 10, 11, 12, 13, 14] [0, 0, 2, 6, 14, 0, 32, 96, 224, 480, 992, 2046, 4095, 8191, 16383]))
 (.reg [.op (some 68) none (.mv (.t 0)),
 .op (some 69) none (.mv (.t 0)),
 .op (some 70) none (.nilchk (.t 69)),
 .op (some 71) none (.fad 0 (.t 70)),
 .op (some 72) none (.ld1 (.t 71)),
 .op (some 73) none (.build [(.i .u64 0), (.i .u64 0), (.i .i64 0), (.i .i64 0), (.i .i64 0), (.i .i64 0), (.b false)] []),
 .op (some 74) none (.bslice 7 1 [(.i .u64 0), (.i .u64 0), (.i .i64 0), (.i .i64 0), (.i .i64 0), (.i .i64 0), (.b false)] [(0, 7, (.t 73))]),
 .op (some 75) none (.app 7 56 (.t 72) (.t 74)),
 .op (some 76) none (.nilchk (.t 68)),
 .op (some 77) none (.fad 0 (.t 76)),
 .op none none (.st 1 (.t 77) (.t 75))])))
 (.seq (.dreg [.op (some 78) none (.mv (.t 0)),
 .op (some 79) none (.nilchk (.t 78)),
 .op (some 80) none (.fad 0 (.t 79)),
 .op (some 81) none (.ld1 (.t 80)),
 .op (some 82) none (.mv (.t 9)),
 .op (some 83) none (.ldn 2 (.t 4)),
 .op (some 84) none (.mv (.t 2)),
 .op (some 85) none (.mv (.t 8)),
 .op (some 86) none (.build [(.i .u64 0), (.i .u64 0), (.i .i64 0), (.i .i64 0), (.i .i64 0), (.i .i64 0), (.b false)] [(0, 2, (.t 83)), (2, 1, (.t 84)), (5, 1, (.t 85)), (6, 1, (.c (.b true)))]),
 .op (some 87) none (.iad 7 (.t 81) (.t 82)),
 .op none none (.st 7 (.t 87) (.t 86))]
 [0, 1, 2, 3, 4, 5, 6, 7, 8, 9, 10] [0, 1, 3, 7, 0, 0, 0, 0, 224, 511, 1023])
 (.seq (.reg [.op (some 88) none (.mv (.t 0)),
 .op (some 89) none (.nilchk (.t 88)),
 .op (some 90) none (.fad 3 (.t 89)),
 .op (some 91) none (.ld1 (.t 90)),
 .op (some 92) none (.ibin .add (.t 91) (.c (.i .i64 1))),
 .op (some 93) none (.nilchk (.t 88)),
 .op (some 94) none (.fad 3 (.t 93)),
 .op none none (.st 1 (.t 94) (.t 92))])
 (.seq (.block 1
 (.seq (.reg [.op (some 105) none (.mv (.t 8)),
 .op (some 106) none (.ibin .eql (.t 105) (.c (.i .i64 0))),
 .op (some 104) none (.mv (.t 106))])
 (.cond (.t 104)
 (.reg [.op (some 107) none (.mv (.t 0)),
 .op (some 108) none (.mv (.t 9)),
 .op (some 109) none (.nilchk (.t 107)),
 .op (some 110) none (.fad 2 (.t 109)),
 .op none none (.st 1 (.t 110) (.t 108))])
 (.seq (.dreg [.op (some 112) none (.ldn 2 (.t 4)),
 .op (some 113) none (.mv (.t 0)),
 .op (some 114) none (.nilchk (.t 113)),
 .op (some 115) none (.fad 0 (.t 114)),
 .op (some 116) none (.ld1 (.t 115)),
 .op (some 117) none (.mv (.t 8)),
 .op (some 118) none (.iad 7 (.t 116) (.t 117)),
 .op (some 119) none (.fad 0 (.t 118)),
 .op (some 120) none (.ldn 2 (.t 119)),
 .call (some 121) none (.c (.fn (.func 43) [] [])) [(.t 112), (.t 120)],
 .op (some 111) none (.mv (.t 121))]
 [0, 1, 2, 3, 4, 5, 6, 7, 8, 9, 10] [0, 0, 2, 6, 14, 0, 62, 126, 254, 511, 1023])
 (.cond (.t 111)
 (.reg [.op (some 122) none (.mv (.t 0)),
 .op (some 123) none (.nilchk (.t 122)),
 .op (some 124) none (.fad 0 (.t 123)),
 .op (some 125) none (.ld1 (.t 124)),
 .op (some 126) none (.mv (.t 8)),
 .op (some 127) none (.mv (.t 9)),
 .op (some 128) none (.iad 7 (.t 125) (.t 126)),
 .op (some 129) none (.fad 3 (.t 128)),
 .op (some 130) none (.iada 1 2 (.t 129) (.c (.i .i64 0))),
 .op none none (.st 1 (.t 130) (.t 127))])
 (.reg [.op (some 95) none (.mv (.t 0)),
 .op (some 96) none (.nilchk (.t 95)),
 .op (some 97) none (.fad 0 (.t 96)),
 .op (some 98) none (.ld1 (.t 97)),
 .op (some 99) none (.mv (.t 8)),
 .op (some 100) none (.mv (.t 9)),
 .op (some 101) none (.iad 7 (.t 98) (.t 99)),
 .op (some 102) none (.fad 3 (.t 101)),
 .op (some 103) none (.iada 1 2 (.t 102) (.c (.i .i64 1))),
 .op none none (.st 1 (.t 103) (.t 100))]))))))
 (.seq (.reg [.op (some 131) none (.mv (.t 0)),
 .op (some 132) none (.mv (.t 9)),
 .call (some 133) none (.c (.fn (.func 44) [] [])) [(.t 131), (.t 132)]])
 (.seq (.reg [.op (some 6) none (.mv (.c (.i .i64 0)))])
 (.ret))))))))))),
 [.t 6]⟩
def k29 : List Nat := [0, 1, 2, 4, 6, 7, 8, 9, 11, 18, 21, 41, 104, 111]
set_option maxRecDepth 100000 in
theorem c29 : compF Go.Proofs.Try.prog 3 Go.Proofs.Try.f29 = some e29 := by kernel_rfl
/-- (*sandglass/fifo.Fifo).first -/
def e31 : IFunc := ⟨61, 1,
 .seq (.reg [.op (some 2) none (.box (.c (.agg [(.i .u64 0), (.i .u64 0), (.i .u64 0)]))),
 .op (some 3) none (.mv (.c (.b false))),
 .op (some 4) none (.mv (.c (.b false)))])
 (.seq (.reg [.op (some 8) none (.mv (.t 0)),
 .op (some 9) none (.nilchk (.t 8)),
 .op (some 10) none (.fad 1 (.t 9)),
 .op (some 11) none (.ld1 (.t 10)),
 .call (some 12) none (.c (.fn (.func 45) [] [])) [(.t 11)],
 .op (some 7) none (.mv (.t 12)),
 .op (some 13) none (.ext (.t 7) 0),
 .op (some 14) none (.ext (.t 7) 1),
 .op (some 5) none (.box (.c (.agg [(.i .u64 0), (.i .u64 0), (.i .i64 0)]))),
 .op none none (.st 3 (.t 5) (.t 13)),
 .op (some 6) none (.mv (.t 14))])
 (.seq (.block 0
 (.seq (.reg [.op (some 16) none (.mv (.t 0)),
 .op (some 17) none (.nilchk (.t 16)),
 .op (some 18) none (.fad 0 (.t 17)),
 .op (some 19) none (.ld1 (.t 18)),
 .op (some 20) none (.len 2 (.t 19)),
 .op (some 21) none (.ibin .eql (.t 20) (.c (.i .i64 0))),
 .op (some 22) none (.mv (.t 21)),
 .op (some 23) (some (22, true)) (.mv (.t 6)),
 .op (some 24) (some (22, true)) (.un .not (.t 23)),
 .op (some 25) none (.pick (.t 22) (.t 24) (.c (.b false))),
 .op (some 15) none (.mv (.t 25))])
 (.cond (.t 15)
 (.seq (.reg [.op (some 26) none (.build [(.i .u64 0), (.i .u64 0), (.i .u64 0)] []),
 .op none none (.st 3 (.t 2) (.t 26)),
 .op (some 3) none (.mv (.c (.b false))),
 .op (some 4) none (.mv (.c (.b false)))])
 (.ret))
 (.seq (.dreg [.op (some 28) none (.mv (.t 0)),
 .op (some 29) none (.nilchk (.t 28)),
 .op (some 30) none (.fad 0 (.t 29)),
 .op (some 31) none (.ld1 (.t 30)),
 .op (some 32) none (.len 2 (.t 31)),
 .op (some 33) none (.ibin .eql (.t 32) (.c (.i .i64 0))),
 .op (some 34) none (.mv (.t 33)),
 .op (some 35) (some (34, false)) (.mv (.t 6)),
 .op (some 36) (some (34, false)) (.mv (.t 35)),
 .op (some 37) (some (36, true)) (.fad 0 (.t 5)),
 .op (some 38) (some (36, true)) (.ldn 2 (.t 37)),
 .op (some 39) (some (36, true)) (.mv (.t 0)),
 .op (some 40) (some (36, true)) (.nilchk (.t 39)),
 .op (some 41) (some (36, true)) (.fad 0 (.t 40)),
 .op (some 42) (some (36, true)) (.ld1 (.t 41)),
 .op (some 43) (some (36, true)) (.iad 3 (.t 42) (.c (.i .i64 0))),
 .op (some 44) (some (36, true)) (.fad 1 (.t 43)),
 .op (some 45) (some (36, true)) (.ldn 2 (.t 44)),
 .call (some 46) (some (36, true)) (.c (.fn (.func 28) [] [])) [(.t 38), (.t 45)],
 .op (some 47) (some (34, false)) (.pick (.t 36) (.t 46) (.c (.b false))),
 .op (some 48) none (.pick (.t 34) (.c (.b true)) (.t 47)),
 .op (some 27) none (.mv (.t 48))]
 [0, 1, 2, 3, 4, 5, 6, 7, 8, 9, 10, 11, 12, 13, 14, 15, 16, 17, 18, 19, 20, 21] [0, 1, 3, 7, 15, 31, 63, 127, 255, 511, 1023, 511, 2559, 6655, 14847, 31231, 63999, 129535, 262143, 524287, 1048575, 2097151])
 (.cond (.t 27)
 (.seq (.reg [.op (some 49) none (.fad 2 (.t 5)),
 .op (some 50) none (.ld1 (.t 49)),
 .op (some 51) none (.conv .u64 (.t 50)),
 .op (some 52) none (.fad 0 (.t 5)),
 .op (some 53) none (.ldn 2 (.t 52)),
 .op (some 54) none (.build [(.i .u64 0), (.i .u64 0), (.i .u64 0)] [(0, 1, (.t 51)), (1, 2, (.t 53))]),
 .op none none (.st 3 (.t 2) (.t 54)),
 .op (some 3) none (.mv (.c (.b true))),
 .op (some 4) none (.mv (.c (.b true)))])
 (.ret))
 (.skip))))))
 (.seq (.reg [.op (some 55) none (.mv (.t 0)),
 .op (some 56) none (.nilchk (.t 55)),
 .op (some 57) none (.fad 0 (.t 56)),
 .op (some 58) none (.ld1 (.t 57)),
 .op (some 59) none (.iad 3 (.t 58) (.c (.i .i64 0))),
 .op (some 60) none (.ldn 3 (.t 59)),
 .op none none (.st 3 (.t 2) (.t 60)),
 .op (some 3) none (.mv (.c (.b false))),
 .op (some 4) none (.mv (.c (.b true)))])
 (.ret)))),
 [.cn 2 3, .t 3, .t 4]⟩
def k31 : List Nat := [0, 2, 3, 4, 5, 6, 15, 27]
set_option maxRecDepth 100000 in
theorem c31 : compF Go.Proofs.Try.prog 1 Go.Proofs.Try.f31 = some e31 := by kernel_rfl
/-- (*sandglass/tree.Tree).Drop -/
def e32 : IFunc := ⟨267, 2,
 .seq (.reg [.op (some 3) none (.box (.t 1)),
 .op (some 4) none (.mv (.c (.i .i64 0))),
 .op (some 5) none (.mv (.c (.b false)))])
 (.seq (.seq (.reg [.op (some 12) none (.mv (.t 0)),
 .call (some 13) none (.c (.fn (.func 41) [] [])) [(.t 12)]])
 (.cond (.t 13)
 (.seq (.reg [.op (some 4) none (.mv (.c (.i .i64 0))),
 .op (some 5) none (.mv (.c (.b false)))])
 (.ret))
 (.skip)))
 (.seq (.reg [.op (some 15) none (.mv (.t 0)),
 .op (some 16) none (.ldn 2 (.t 3)),
 .call (some 17) none (.c (.fn (.func 42) [] [])) [(.t 15), (.t 16)],
 .op (some 14) none (.mv (.t 17)),
 .op (some 18) none (.ext (.t 14) 0),
 .op (some 19) none (.ext (.t 14) 1),
 .op (some 6) none (.mv (.t 18)),
 .op (some 7) none (.mv (.t 19))])
 (.seq (.seq (.reg [.op (some 20) none (.mv (.t 6)),
 .op (some 21) none (.ibin .eql (.t 20) (.c (.i .i64 0)))])
 (.cond (.t 21)
 (.seq (.reg [.op (some 4) none (.mv (.c (.i .i64 0))),
 .op (some 5) none (.mv (.c (.b false)))])
 (.ret))
 (.skip)))
 (.seq (.reg [.op (some 22) none (.mv (.t 0)),
 .op (some 23) none (.nilchk (.t 22)),
 .op (some 24) none (.fad 0 (.t 23)),
 .op (some 25) none (.ld1 (.t 24)),
 .op (some 26) none (.mv (.t 6)),
 .op (some 27) none (.iad 7 (.t 25) (.t 26)),
 .op (some 28) none (.fad 2 (.t 27)),
 .op (some 29) none (.ld1 (.t 28)),
 .op (some 8) none (.mv (.t 29))])
 (.seq (.reg [.op (some 30) none (.mv (.t 0)),
 .op (some 31) none (.nilchk (.t 30)),
 .op (some 32) none (.fad 0 (.t 31)),
 .op (some 33) none (.ld1 (.t 32)),
 .op (some 34) none (.mv (.t 6)),
 .op (some 35) none (.iad 7 (.t 33) (.t 34)),
 .op (some 36) none (.fad 6 (.t 35)),
 .op (some 37) none (.ld1 (.t 36)),
 .op (some 9) none (.mv (.t 37)),
 .op (some 10) none (.mv (.c (.i .i64 0)))])
 (.seq (.block 0
 (.seq (.reg [.op (some 191) none (.mv (.t 0)),
 .op (some 192) none (.nilchk (.t 191)),
 .op (some 193) none (.fad 0 (.t 192)),
 .op (some 194) none (.ld1 (.t 193)),
 .op (some 195) none (.mv (.t 6)),
 .op (some 196) none (.iad 7 (.t 194) (.t 195)),
 .op (some 197) none (.fad 3 (.t 196)),
 .op (some 198) none (.iada 1 2 (.t 197) (.c (.i .i64 0))),
 .op (some 199) none (.ld1 (.t 198)),
 .op (some 200) none (.ibin .eql (.t 199) (.c (.i .i64 0))),
 .op (some 190) none (.mv (.t 200))])
 (.cond (.t 190)
 (.seq (.reg [.op (some 201) none (.mv (.t 0)),
 .op (some 202) none (.nilchk (.t 201)),
 .op (some 203) none (.fad 0 (.t 202)),
 .op (some 204) none (.ld1 (.t 203)),
 .op (some 205) none (.mv (.t 6)),
 .op (some 206) none (.iad 7 (.t 204) (.t 205)),
 .op (some 207) none (.fad 3 (.t 206)),
 .op (some 208) none (.iada 1 2 (.t 207) (.c (.i .i64 1))),
 .op (some 209) none (.ld1 (.t 208)),
 .op (some 10) none (.mv (.t 209))])
 (.reg [.op (some 210) none (.mv (.t 0)),
 .op (some 211) none (.mv (.t 10)),
 .op (some 212) none (.mv (.t 6)),
 .call (some 213) none (.c (.fn (.func 46) [] [])) [(.t 210), (.t 211), (.t 212)]]))
 (.seq (.reg [.op (some 215) none (.mv (.t 0)),
 .op (some 216) none (.nilchk (.t 215)),
 .op (some 217) none (.fad 0 (.t 216)),
 .op (some 218) none (.ld1 (.t 217)),
 .op (some 219) none (.mv (.t 6)),
 .op (some 220) none (.iad 7 (.t 218) (.t 219)),
 .op (some 221) none (.fad 3 (.t 220)),
 .op (some 222) none (.iada 1 2 (.t 221) (.c (.i .i64 1))),
 .op (some 223) none (.ld1 (.t 222)),
 .op (some 224) none (.ibin .eql (.t 223) (.c (.i .i64 0))),
 .op (some 214) none (.mv (.t 224))])
 (.cond (.t 214)
 (.seq (.reg [.op (some 225) none (.mv (.t 0)),
 .op (some 226) none (.nilchk (.t 225)),
 .op (some 227) none (.fad 0 (.t 226)),
 .op (some 228) none (.ld1 (.t 227)),
 .op (some 229) none (.mv (.t 6)),
 .op (some 230) none (.iad 7 (.t 228) (.t 229)),
 .op (some 231) none (.fad 3 (.t 230)),
 .op (some 232) none (.iada 1 2 (.t 231) (.c (.i .i64 0))),
 .op (some 233) none (.ld1 (.t 232)),
 .op (some 10) none (.mv (.t 233))])
 (.reg [.op (some 234) none (.mv (.t 0)),
 .op (some 235) none (.mv (.t 10)),
 .op (some 236) none (.mv (.t 6)),
 .call (some 237) none (.c (.fn (.func 46) [] [])) [(.t 234), (.t 235), (.t 236)]]))
 (.seq (.reg [.op (some 38) none (.mv (.t 0)),
 .op (some 39) none (.nilchk (.t 38)),
 .op (some 40) none (.fad 0 (.t 39)),
 .op (some 41) none (.ld1 (.t 40)),
 .op (some 42) none (.mv (.t 6)),
 .op (some 43) none (.iad 7 (.t 41) (.t 42)),
 .op (some 44) none (.fad 3 (.t 43)),
 .op (some 45) none (.iada 1 2 (.t 44) (.c (.i .i64 1))),
 .op (some 46) none (.ld1 (.t 45)),
 .op (some 11) none (.mv (.t 46))])
 (.seq (.block 1
 (.loop
 (.seq (.seq (.reg [.op (some 47) none (.mv (.t 0)),
 .op (some 48) none (.nilchk (.t 47)),
 .op (some 49) none (.fad 0 (.t 48)),
 .op (some 50) none (.ld1 (.t 49)),
 .op (some 51) none (.mv (.t 11)),
 .op (some 52) none (.iad 7 (.t 50) (.t 51)),
 .op (some 53) none (.fad 3 (.t 52)),
 .op (some 54) none (.iada 1 2 (.t 53) (.c (.i .i64 0))),
 .op (some 55) none (.ld1 (.t 54)),
 .op (some 56) none (.ibin .neq (.t 55) (.c (.i .i64 0)))])
 (.cond (.t 56)
 (.skip)
 (.exit 1)))
 (.block 2
 (.reg [.op (some 57) none (.mv (.t 0)),
 .op (some 58) none (.nilchk (.t 57)),
 .op (some 59) none (.fad 0 (.t 58)),
 .op (some 60) none (.ld1 (.t 59)),
 .op (some 61) none (.mv (.t 11)),
 .op (some 62) none (.iad 7 (.t 60) (.t 61)),
 .op (some 63) none (.fad 3 (.t 62)),
 .op (some 64) none (.iada 1 2 (.t 63) (.c (.i .i64 0))),
 .op (some 65) none (.ld1 (.t 64)),
 .op (some 11) none (.mv (.t 65))])))))
 (.seq (.dreg [.op (some 66) none (.mv (.t 0)),
 .op (some 67) none (.nilchk (.t 66)),
 .op (some 68) none (.fad 0 (.t 67)),
 .op (some 69) none (.ld1 (.t 68)),
 .op (some 70) none (.mv (.t 11)),
 .op (some 71) none (.iad 7 (.t 69) (.t 70)),
 .op (some 72) none (.fad 6 (.t 71)),
 .op (some 73) none (.ld1 (.t 72)),
 .op (some 74) none (.mv (.t 0)),
 .op (some 75) none (.nilchk (.t 74)),
 .op (some 76) none (.fad 0 (.t 75)),
 .op (some 77) none (.ld1 (.t 76)),
 .op (some 78) none (.mv (.t 11)),
 .op (some 79) none (.iad 7 (.t 77) (.t 78)),
 .op (some 80) none (.fad 3 (.t 79)),
 .op (some 81) none (.iada 1 2 (.t 80) (.c (.i .i64 1))),
 .op (some 82) none (.ld1 (.t 81)),
 .op (some 9) none (.mv (.t 73)),
 .op (some 10) none (.mv (.t 82))]
 [0, 1, 2, 3, 4, 5, 6, 7, 8, 9, 10, 11, 12, 13, 14, 15, 16, 17, 18] [0, 1, 3, 7, 0, 31, 63, 127, 0, 256, 768, 1792, 0, 7936, 16128, 32512, 65280, 255, 262143])
 (.seq (.seq (.reg [.op (some 83) none (.mv (.t 0)),
 .op (some 84) none (.nilchk (.t 83)),
 .op (some 85) none (.fad 0 (.t 84)),
 .op (some 86) none (.ld1 (.t 85)),
 .op (some 87) none (.mv (.t 11)),
 .op (some 88) none (.iad 7 (.t 86) (.t 87)),
 .op (some 89) none (.fad 5 (.t 88)),
 .op (some 90) none (.ld1 (.t 89)),
 .op (some 91) none (.mv (.t 6)),
 .op (some 92) none (.ibin .eql (.t 90) (.t 91))])
 (.cond (.t 92)
 (.reg [.op (some 93) none (.mv (.t 0)),
 .op (some 94) none (.nilchk (.t 93)),
 .op (some 95) none (.fad 0 (.t 94)),
 .op (some 96) none (.ld1 (.t 95)),
 .op (some 97) none (.mv (.t 10)),
 .op (some 98) none (.mv (.t 11)),
 .op (some 99) none (.iad 7 (.t 96) (.t 97)),
 .op (some 100) none (.fad 5 (.t 99)),
 .op none none (.st 1 (.t 100) (.t 98))])
 (.seq (.reg [.op (some 101) none (.mv (.t 0)),
 .op (some 102) none (.mv (.t 10)),
 .op (some 103) none (.mv (.t 11)),
 .call (some 104) none (.c (.fn (.func 46) [] [])) [(.t 101), (.t 102), (.t 103)]])
 (.seq (.dreg [.op (some 105) none (.mv (.t 0)),
 .op (some 106) none (.nilchk (.t 105)),
 .op (some 107) none (.fad 0 (.t 106)),
 .op (some 108) none (.ld1 (.t 107)),
 .op (some 109) none (.mv (.t 11)),
 .op (some 110) none (.mv (.t 0)),
 .op (some 111) none (.nilchk (.t 110)),
 .op (some 112) none (.fad 0 (.t 111)),
 .op (some 113) none (.ld1 (.t 112)),
 .op (some 114) none (.mv (.t 6)),
 .op (some 115) none (.iad 7 (.t 113) (.t 114)),
 .op (some 116) none (.fad 3 (.t 115)),
 .op (some 117) none (.iada 1 2 (.t 116) (.c (.i .i64 1))),
 .op (some 118) none (.ld1 (.t 117)),
 .op (some 119) none (.iad 7 (.t 108) (.t 109)),
 .op (some 120) none (.fad 3 (.t 119)),
 .op (some 121) none (.iada 1 2 (.t 120) (.c (.i .i64 1))),
 .op none none (.st 1 (.t 121) (.t 118))]
 [0, 1, 2, 3, 4, 5, 6, 7, 8, 9, 10, 11, 12, 13, 14, 15, 16, 17] [0, 1, 3, 7, 0, 0, 32, 96, 224, 0, 992, 2016, 4064, 8160, 31, 16415, 65535, 131071])
 (.dreg [.op (some 122) none (.mv (.t 0)),
 .op (some 123) none (.nilchk (.t 122)),
 .op (some 124) none (.fad 0 (.t 123)),
 .op (some 125) none (.ld1 (.t 124)),
 .op (some 126) none (.mv (.t 0)),
 .op (some 127) none (.nilchk (.t 126)),
 .op (some 128) none (.fad 0 (.t 127)),
 .op (some 129) none (.ld1 (.t 128)),
 .op (some 130) none (.mv (.t 11)),
 .op (some 131) none (.iad 7 (.t 129) (.t 130)),
 .op (some 132) none (.fad 3 (.t 131)),
 .op (some 133) none (.iada 1 2 (.t 132) (.c (.i .i64 1))),
 .op (some 134) none (.ld1 (.t 133)),
 .op (some 135) none (.mv (.t 11)),
 .op (some 136) none (.iad 7 (.t 125) (.t 134)),
 .op (some 137) none (.fad 5 (.t 136)),
 .op none none (.st 1 (.t 137) (.t 135))]
 [0, 1, 2, 3, 4, 5, 6, 7, 8, 9, 10, 11, 12, 13, 14, 15, 16] [0, 1, 3, 7, 0, 16, 48, 112, 0, 496, 1008, 2032, 4080, 0, 16383, 32767, 65535])))))
 (.seq (.reg [.op (some 138) none (.mv (.t 0)),
 .op (some 139) none (.mv (.t 11)),
 .op (some 140) none (.mv (.t 6)),
 .call (some 141) none (.c (.fn (.func 46) [] [])) [(.t 138), (.t 139), (.t 140)]])
 (.seq (.dreg [.op (some 142) none (.mv (.t 0)),
 .op (some 143) none (.nilchk (.t 142)),
 .op (some 144) none (.fad 0 (.t 143)),
 .op (some 145) none (.ld1 (.t 144)),
 .op (some 146) none (.mv (.t 11)),
 .op (some 147) none (.mv (.t 0)),
 .op (some 148) none (.nilchk (.t 147)),
 .op (some 149) none (.fad 0 (.t 148)),
 .op (some 150) none (.ld1 (.t 149)),
 .op (some 151) none (.mv (.t 6)),
 .op (some 152) none (.iad 7 (.t 150) (.t 151)),
 .op (some 153) none (.fad 3 (.t 152)),
 .op (some 154) none (.iada 1 2 (.t 153) (.c (.i .i64 0))),
 .op (some 155) none (.ld1 (.t 154)),
 .op (some 156) none (.iad 7 (.t 145) (.t 146)),
 .op (some 157) none (.fad 3 (.t 156)),
 .op (some 158) none (.iada 1 2 (.t 157) (.c (.i .i64 0))),
 .op none none (.st 1 (.t 158) (.t 155))]
 [0, 1, 2, 3, 4, 5, 6, 7, 8, 9, 10, 11, 12, 13, 14, 15, 16, 17] [0, 1, 3, 7, 0, 0, 32, 96, 224, 0, 992, 2016, 4064, 8160, 31, 16415, 65535, 131071])
 (.seq (.dreg [.op (some 159) none (.mv (.t 0)),
 .op (some 160) none (.nilchk (.t 159)),
 .op (some 161) none (.fad 0 (.t 160)),
 .op (some 162) none (.ld1 (.t 161)),
 .op (some 163) none (.mv (.t 0)),
 .op (some 164) none (.nilchk (.t 163)),
 .op (some 165) none (.fad 0 (.t 164)),
 .op (some 166) none (.ld1 (.t 165)),
 .op (some 167) none (.mv (.t 11)),
 .op (some 168) none (.iad 7 (.t 166) (.t 167)),
 .op (some 169) none (.fad 3 (.t 168)),
 .op (some 170) none (.iada 1 2 (.t 169) (.c (.i .i64 0))),
 .op (some 171) none (.ld1 (.t 170)),
 .op (some 172) none (.mv (.t 11)),
 .op (some 173) none (.iad 7 (.t 162) (.t 171)),
 .op (some 174) none (.fad 5 (.t 173)),
 .op none none (.st 1 (.t 174) (.t 172))]
 [0, 1, 2, 3, 4, 5, 6, 7, 8, 9, 10, 11, 12, 13, 14, 15, 16] [0, 1, 3, 7, 0, 16, 48, 112, 0, 496, 1008, 2032, 4080, 0, 16383, 32767, 65535])
 (.dreg [.op (some 175) none (.mv (.t 0)),
 .op (some 176) none (.nilchk (.t 175)),
 .op (some 177) none (.fad 0 (.t 176)),
 .op (some 178) none (.ld1 (.t 177)),
 .op (some 179) none (.mv (.t 11)),
 .op (some 180) none (.mv (.t 0)),
 .op (some 181) none (.nilchk (.t 180)),
 .op (some 182) none (.fad 0 (.t 181)),
 .op (some 183) none (.ld1 (.t 182)),
 .op (some 184) none (.mv (.t 6)),
 .op (some 185) none (.iad 7 (.t 183) (.t 184)),
 .op (some 186) none (.fad 6 (.t 185)),
 .op (some 187) none (.ld1 (.t 186)),
 .op (some 188) none (.iad 7 (.t 178) (.t 179)),
 .op (some 189) none (.fad 6 (.t 188)),
 .op none none (.st 1 (.t 189) (.t 187))]
 [0, 1, 2, 3, 4, 5, 6, 7, 8, 9, 10, 11, 12, 13, 14, 15] [0, 1, 3, 7, 0, 0, 32, 96, 224, 0, 992, 2016, 4064, 8191, 16383, 32767])))))))))))))
 (.seq (.seq (.reg [.op (some 238) none (.mv (.t 9)),
 .op (some 239) none (.un .not (.t 238))])
 (.cond (.t 239)
 (.reg [.op (some 240) none (.mv (.t 0)),
 .op (some 241) none (.mv (.t 10)),
 .call (some 242) none (.c (.fn (.func 47) [] [])) [(.t 240), (.t 241)]])
 (.skip)))
 (.seq (.reg [.op (some 243) none (.mv (.t 0)),
 .op (some 244) none (.nilchk (.t 243)),
 .op (some 245) none (.fad 0 (.t 244)),
 .op (some 246) none (.ld1 (.t 245)),
 .op (some 247) none (.build [(.i .u64 0), (.i .u64 0), (.i .i64 0), (.i .i64 0), (.i .i64 0), (.i .i64 0), (.b false)] []),
 .op (some 248) none (.iad 7 (.t 246) (.c (.i .i64 0))),
 .op none none (.st 7 (.t 248) (.t 247))])
 (.seq (.reg [.op (some 249) none (.mv (.t 0)),
 .op (some 250) none (.mv (.t 0)),
 .op (some 251) none (.nilchk (.t 250)),
 .op (some 252) none (.fad 1 (.t 251)),
 .op (some 253) none (.ld1 (.t 252)),
 .op (some 254) none (.mv (.t 6)),
 .op (some 255) none (.bslice 1 1 [(.i .i64 0)] [(0, 1, (.t 254))]),
 .op (some 256) none (.app 1 8 (.t 253) (.t 255)),
 .op (some 257) none (.nilchk (.t 249)),
 .op (some 258) none (.fad 1 (.t 257)),
 .op none none (.st 1 (.t 258) (.t 256))])
 (.seq (.reg [.op (some 259) none (.mv (.t 0)),
 .op (some 260) none (.nilchk (.t 259)),
 .op (some 261) none (.fad 3 (.t 260)),
 .op (some 262) none (.ld1 (.t 261)),
 .op (some 263) none (.ibin .sub (.t 262) (.c (.i .i64 1))),
 .op (some 264) none (.nilchk (.t 259)),
 .op (some 265) none (.fad 3 (.t 264)),
 .op none none (.st 1 (.t 265) (.t 263))])
 (.seq (.reg [.op (some 266) none (.mv (.t 8)),
 .op (some 4) none (.mv (.t 266)),
 .op (some 5) none (.mv (.c (.b true)))])
 (.ret)))))))))))),
 [.t 4, .t 5]⟩
def k32 : List Nat := [0, 1, 3, 4, 5, 6, 8, 9, 10, 11, 13, 21, 56, 92, 190, 214, 239]
set_option maxRecDepth 100000 in
theorem c32 : compF Go.Proofs.Try.prog 2 Go.Proofs.Try.f32 = some e32 := by kernel_rfl
/-- (*sandglass/tree.Tree).Len -/
def e33 : IFunc := ⟨9, 1,
 .seq (.reg [.op (some 2) none (.mv (.c (.i .i64 0)))])
 (.seq (.seq (.reg [.op (some 3) none (.mv (.t 0)),
 .call (some 4) none (.c (.fn (.func 41) [] [])) [(.t 3)]])
 (.cond (.t 4)
 (.seq (.reg [.op (some 2) none (.mv (.c (.i .i64 0)))])
 (.ret))
 (.skip)))
 (.seq (.reg [.op (some 5) none (.mv (.t 0)),
 .op (some 6) none (.nilchk (.t 5)),
 .op (some 7) none (.fad 3 (.t 6)),
 .op (some 8) none (.ld1 (.t 7)),
 .op (some 2) none (.mv (.t 8))])
 (.ret))),
 [.t 2]⟩
def k33 : List Nat := [0, 2, 4]
set_option maxRecDepth 100000 in
theorem c33 : compF Go.Proofs.Try.prog 1 Go.Proofs.Try.f33 = some e33 := by kernel_rfl
/-- slices.Clone[[]sandglass/fifo.item,sandglass/fifo.item] -/
def e34 : IFunc := ⟨8, 1,
 .seq (.reg [.op (some 2) none (.mv (.c .nils))])
 (.seq (.seq (.reg [.op (some 3) none (.mv (.t 0)),
 .op (some 4) none (.eqn 3 false (.t 3) (.c .nils))])
 (.cond (.t 4)
 (.seq (.reg [.op (some 2) none (.mv (.c .nils))])
 (.ret))
 (.skip)))
 (.seq (.reg [.op (some 5) none (.bslice 3 0 [] []),
 .op (some 6) none (.mv (.t 0)),
 .op (some 7) none (.app 3 24 (.t 5) (.t 6)),
 .op (some 2) none (.mv (.t 7))])
 (.ret))),
 [.t 2]⟩
def k34 : List Nat := [0, 2, 4]
set_option maxRecDepth 100000 in
theorem c34 : compF Go.Proofs.Try.prog 1 Go.Proofs.Try.f34 = some e34 := by kernel_rfl
/-- (*sandglass/tree.Tree).All -/
def e35 : IFunc := ⟨29, 1,
 .seq (.reg [.op (some 2) none (.mv (.c .nils))])
 (.seq (.seq (.reg [.op (some 8) none (.mv (.t 0)),
 .call (some 9) none (.c (.fn (.func 41) [] [])) [(.t 8)]])
 (.cond (.t 9)
 (.seq (.reg [.op (some 2) none (.mv (.c .nils))])
 (.ret))
 (.skip)))
 (.seq (.reg [.op (some 3) none (.mv (.c .nils))])
 (.seq (.seq (.reg [.op (some 10) none (.mv (.t 0)),
 .call (some 11) none (.c (.fn (.func 48) [] [])) [(.t 10)],
 .op (some 12) none (.len 2 (.t 11)),
 .op (some 13) none (.mv (.c (.i .i64 0)))])
 (.block 0
 (.loop
 (.seq (.reg [.op (some 14) none (.ibin .lss (.t 13) (.t 12))])
 (.seq (.cond (.t 14)
 (.skip)
 (.exit 0))
 (.seq (.block 1
 (.seq (.reg [.op (some 15) none (.iad 1 (.t 11) (.t 13)),
 .op (some 16) none (.ld1 (.t 15)),
 .op (some 5) none (.mv (.t 16))])
 (.seq (.reg [.op (some 18) none (.mv (.t 0)),
 .op (some 19) none (.mv (.t 5)),
 .call (some 20) none (.c (.fn (.func 49) [] [])) [(.t 18), (.t 19)],
 .op (some 17) none (.mv (.t 20)),
 .op (some 21) none (.ext (.t 17) 0),
 .op (some 22) none (.ext (.t 17) 1),
 .op (some 6) none (.box (.c (.agg [(.i .u64 0), (.i .u64 0), (.i .i64 0)]))),
 .op none none (.st 3 (.t 6) (.t 21)),
 .op (some 7) none (.mv (.t 22))])
 (.reg [.op (some 23) none (.mv (.t 3)),
 .op (some 24) none (.ldn 3 (.t 6)),
 .op (some 25) none (.bslice 3 1 [(.i .u64 0), (.i .u64 0), (.i .i64 0)] [(0, 3, (.t 24))]),
 .op (some 26) none (.app 3 24 (.t 23) (.t 25)),
 .op (some 3) none (.mv (.t 26))]))))
 (.reg [.op (some 27) none (.ibin .add (.t 13) (.c (.i .i64 1))),
 .op (some 13) none (.mv (.t 27))])))))))
 (.seq (.reg [.op (some 28) none (.mv (.t 3)),
 .op (some 2) none (.mv (.t 28))])
 (.ret))))),
 [.t 2]⟩
def k35 : List Nat := [0, 2, 3, 5, 6, 9, 11, 12, 13, 14]
set_option maxRecDepth 100000 in
theorem c35 : compF Go.Proofs.Try.prog 1 Go.Proofs.Try.f35 = some e35 := by kernel_rfl
/-- slices.SortFunc[[]sandglass/fifo.item,sandglass/fifo.item] -/
def e36 : IFunc := ⟨14, 2,
 .seq (.reg [.op (some 5) none (.mv (.t 0)),
 .op (some 6) none (.len 2 (.t 5)),
 .op (some 4) none (.mv (.t 6))])
 (.reg [.op (some 7) none (.mv (.t 0)),
 .op (some 8) none (.mv (.t 4)),
 .op (some 9) none (.mv (.t 4)),
 .op (some 10) none (.conv .u64 (.t 9)),
 .call (some 11) none (.c (.fn (.func 51) [] [])) [(.t 10)],
 .op (some 12) none (.mv (.t 1)),
 .call (some 13) none (.c (.fn (.func 50) [] [])) [(.t 7), (.c (.i .i64 0)), (.t 8), (.t 11), (.t 12)]]),
 []⟩
def k36 : List Nat := [0, 1, 4]
set_option maxRecDepth 100000 in
theorem c36 : compF Go.Proofs.Try.prog 2 Go.Proofs.Try.f36 = some e36 := by kernel_rfl
/-- (*sandglass/fifo.Fifo).All$1 -/
def e37 : IFunc := ⟨10, 2,
 .seq (.reg [.op (some 2) none (.box (.t 0)),
 .op (some 3) none (.box (.t 1)),
 .op (some 4) none (.mv (.c (.i .i64 0)))])
 (.seq (.seq (.reg [.op (some 5) none (.fad 1 (.t 2)),
 .op (some 6) none (.ldn 2 (.t 5)),
 .op (some 7) none (.fad 1 (.t 3)),
 .op (some 8) none (.ldn 2 (.t 7)),
 .call (some 9) none (.c (.fn (.func 28) [] [])) [(.t 6), (.t 8)]])
 (.cond (.t 9)
 (.seq (.reg [.op (some 4) none (.mv (.c (.i .i64 (-1))))])
 (.ret))
 (.skip)))
 (.seq (.reg [.op (some 4) none (.mv (.c (.i .i64 1)))])
 (.ret))),
 [.t 4]⟩
def k37 : List Nat := [0, 1, 2, 3, 4, 9]
set_option maxRecDepth 100000 in
theorem c37 : compF Go.Proofs.Try.prog 2 Go.Proofs.Try.f37 = some e37 := by kernel_rfl
/-- slices.BinarySearchFunc[[]sandglass/fifo.item,sandglass/fifo.item,sandglass/api.Key] -/
def e38 : IFunc := ⟨49, 3,
 .seq (.reg [.op (some 4) none (.box (.t 1)),
 .op (some 6) none (.mv (.c (.i .i64 0))),
 .op (some 7) none (.mv (.c (.b false)))])
 (.seq (.reg [.op (some 12) none (.mv (.t 0)),
 .op (some 13) none (.len 2 (.t 12)),
 .op (some 8) none (.mv (.t 13))])
 (.seq (.reg [.op (some 14) none (.mv (.t 8)),
 .op (some 9) none (.mv (.c (.i .i64 0))),
 .op (some 10) none (.mv (.t 14))])
 (.seq (.block 0
 (.loop
 (.seq (.seq (.reg [.op (some 15) none (.mv (.t 9)),
 .op (some 16) none (.mv (.t 10)),
 .op (some 17) none (.ibin .lss (.t 15) (.t 16))])
 (.cond (.t 17)
 (.skip)
 (.exit 0)))
 (.block 1
 (.seq (.reg [.op (some 18) none (.mv (.t 9)),
 .op (some 19) none (.mv (.t 10)),
 .op (some 20) none (.ibin .add (.t 18) (.t 19)),
 .op (some 21) none (.conv .u64 (.t 20)),
 .op (some 22) none (.ibin .shr (.t 21) (.c (.i .u64 1))),
 .op (some 23) none (.conv .i64 (.t 22)),
 .op (some 11) none (.mv (.t 23))])
 (.seq (.dreg [.op (some 24) none (.mv (.t 2)),
 .op (some 25) none (.mv (.t 0)),
 .op (some 26) none (.mv (.t 11)),
 .op (some 27) none (.iad 3 (.t 25) (.t 26)),
 .op (some 28) none (.ldn 3 (.t 27)),
 .op (some 29) none (.ldn 2 (.t 4)),
 .call (some 30) none (.t 24) [(.t 28), (.t 29)],
 .op (some 31) none (.ibin .lss (.t 30) (.c (.i .i64 0)))]
 [0, 1, 2, 3, 4, 5, 6, 7] [0, 0, 0, 6, 14, 0, 63, 127])
 (.cond (.t 31)
 (.reg [.op (some 32) none (.mv (.t 11)),
 .op (some 33) none (.ibin .add (.t 32) (.c (.i .i64 1))),
 .op (some 9) none (.mv (.t 33))])
 (.reg [.op (some 34) none (.mv (.t 11)),
 .op (some 10) none (.mv (.t 34))]))))))))
 (.seq (.dreg [.op (some 35) none (.mv (.t 9)),
 .op (some 36) none (.mv (.t 9)),
 .op (some 37) none (.mv (.t 8)),
 .op (some 38) none (.ibin .lss (.t 36) (.t 37)),
 .op (some 39) none (.mv (.t 38)),
 .op (some 40) (some (39, true)) (.mv (.t 2)),
 .op (some 41) (some (39, true)) (.mv (.t 0)),
 .op (some 42) (some (39, true)) (.mv (.t 9)),
 .op (some 43) (some (39, true)) (.iad 3 (.t 41) (.t 42)),
 .op (some 44) (some (39, true)) (.ldn 3 (.t 43)),
 .op (some 45) (some (39, true)) (.ldn 2 (.t 4)),
 .call (some 46) (some (39, true)) (.t 40) [(.t 44), (.t 45)],
 .op (some 47) (some (39, true)) (.ibin .eql (.t 46) (.c (.i .i64 0))),
 .op (some 48) none (.pick (.t 39) (.t 47) (.c (.b false))),
 .op (some 6) none (.mv (.t 35)),
 .op (some 7) none (.mv (.t 48))]
 [0, 1, 2, 3, 4, 5, 6, 7, 8, 9, 10, 11, 12, 13, 14, 15] [0, 0, 0, 6, 14, 30, 30, 30, 222, 478, 30, 2046, 4094, 8190, 4095, 32767])
 (.ret))))),
 [.t 6, .t 7]⟩
def k38 : List Nat := [0, 1, 2, 4, 6, 7, 8, 9, 10, 11, 17, 31]
set_option maxRecDepth 100000 in
theorem c38 : compF Go.Proofs.Try.prog 3 Go.Proofs.Try.f38 = some e38 := by kernel_rfl
/-- (*sandglass/fifo.Fifo).has$1 -/
def e39 : IFunc := ⟨15, 2,
 .seq (.reg [.op (some 2) none (.box (.t 0)),
 .op (some 3) none (.box (.t 1)),
 .op (some 4) none (.mv (.c (.i .i64 0)))])
 (.seq (.block 0
 (.seq (.reg [.op (some 6) none (.fad 1 (.t 2)),
 .op (some 7) none (.ldn 2 (.t 6)),
 .op (some 8) none (.ldn 2 (.t 3)),
 .op (some 9) none (.eqs [0, 0] false (.t 7) (.t 8)),
 .op (some 5) none (.mv (.t 9))])
 (.cond (.t 5)
 (.seq (.reg [.op (some 4) none (.mv (.c (.i .i64 0)))])
 (.ret))
 (.seq (.reg [.op (some 11) none (.fad 1 (.t 2)),
 .op (some 12) none (.ldn 2 (.t 11)),
 .op (some 13) none (.ldn 2 (.t 3)),
 .call (some 14) none (.c (.fn (.func 28) [] [])) [(.t 12), (.t 13)],
 .op (some 10) none (.mv (.t 14))])
 (.cond (.t 10)
 (.seq (.reg [.op (some 4) none (.mv (.c (.i .i64 (-1))))])
 (.ret))
 (.skip))))))
 (.seq (.reg [.op (some 4) none (.mv (.c (.i .i64 1)))])
 (.ret))),
 [.t 4]⟩
def k39 : List Nat := [0, 1, 2, 3, 4, 5, 10]
set_option maxRecDepth 100000 in
theorem c39 : compF Go.Proofs.Try.prog 2 Go.Proofs.Try.f39 = some e39 := by kernel_rfl
/-- (*sandglass/tree.Tree).Get -/
def e40 : IFunc := ⟨26, 2,
 .seq (.reg [.op (some 3) none (.box (.t 1)),
 .op (some 4) none (.mv (.c (.i .i64 0))),
 .op (some 5) none (.mv (.c (.b false)))])
 (.seq (.seq (.reg [.op (some 8) none (.mv (.t 0)),
 .call (some 9) none (.c (.fn (.func 41) [] [])) [(.t 8)]])
 (.cond (.t 9)
 (.seq (.reg [.op (some 4) none (.mv (.c (.i .i64 0))),
 .op (some 5) none (.mv (.c (.b false)))])
 (.ret))
 (.skip)))
 (.seq (.reg [.op (some 11) none (.mv (.t 0)),
 .op (some 12) none (.ldn 2 (.t 3)),
 .call (some 13) none (.c (.fn (.func 42) [] [])) [(.t 11), (.t 12)],
 .op (some 10) none (.mv (.t 13)),
 .op (some 14) none (.ext (.t 10) 0),
 .op (some 15) none (.ext (.t 10) 1),
 .op (some 6) none (.mv (.t 14)),
 .op (some 7) none (.mv (.t 15))])
 (.seq (.seq (.reg [.op (some 16) none (.mv (.t 6)),
 .op (some 17) none (.ibin .eql (.t 16) (.c (.i .i64 0)))])
 (.cond (.t 17)
 (.seq (.reg [.op (some 4) none (.mv (.c (.i .i64 0))),
 .op (some 5) none (.mv (.c (.b false)))])
 (.ret))
 (.skip)))
 (.seq (.reg [.op (some 18) none (.mv (.t 0)),
 .op (some 19) none (.nilchk (.t 18)),
 .op (some 20) none (.fad 0 (.t 19)),
 .op (some 21) none (.ld1 (.t 20)),
 .op (some 22) none (.mv (.t 6)),
 .op (some 23) none (.iad 7 (.t 21) (.t 22)),
 .op (some 24) none (.fad 2 (.t 23)),
 .op (some 25) none (.ld1 (.t 24)),
 .op (some 4) none (.mv (.t 25)),
 .op (some 5) none (.mv (.c (.b true)))])
 (.ret))))),
 [.t 4, .t 5]⟩
def k40 : List Nat := [0, 1, 3, 4, 5, 6, 9, 17]
set_option maxRecDepth 100000 in
theorem c40 : compF Go.Proofs.Try.prog 2 Go.Proofs.Try.f40 = some e40 := by kernel_rfl
/-- (*sandglass/tree.Tree).no -/
def e41 : IFunc := ⟨12, 1,
 .seq (.reg [.op (some 2) none (.mv (.c (.b false)))])
 (.seq (.reg [.op (some 3) none (.mv (.t 0)),
 .op (some 4) none (.eqn 2 false (.t 3) (.c .nilp)),
 .op (some 5) none (.mv (.t 4)),
 .op (some 6) (some (5, false)) (.mv (.t 0)),
 .op (some 7) (some (5, false)) (.nilchk (.t 6)),
 .op (some 8) (some (5, false)) (.fad 0 (.t 7)),
 .op (some 9) (some (5, false)) (.ld1 (.t 8)),
 .op (some 10) (some (5, false)) (.eqn 3 false (.t 9) (.c .nils)),
 .op (some 11) none (.pick (.t 5) (.c (.b true)) (.t 10)),
 .op (some 2) none (.mv (.t 11))])
 (.ret)),
 [.t 2]⟩
def k41 : List Nat := [0, 2]
set_option maxRecDepth 100000 in
theorem c41 : compF Go.Proofs.Try.prog 1 Go.Proofs.Try.f41 = some e41 := by kernel_rfl
/-- (*sandglass/tree.Tree).find -/
def e42 : IFunc := ⟨58, 2,
 .seq (.reg [.op (some 3) none (.box (.t 1)),
 .op (some 4) none (.mv (.c (.i .i64 0))),
 .op (some 5) none (.mv (.c (.i .i64 0)))])
 (.seq (.reg [.op (some 6) none (.mv (.c (.i .i64 0)))])
 (.seq (.seq (.reg [.op (some 8) none (.mv (.t 0)),
 .op (some 9) none (.nilchk (.t 8)),
 .op (some 10) none (.fad 2 (.t 9)),
 .op (some 11) none (.ld1 (.t 10)),
 .op (some 7) none (.mv (.t 11))])
 (.block 0
 (.loop
 (.seq (.seq (.reg [.op (some 12) none (.mv (.t 7)),
 .op (some 13) none (.ibin .neq (.t 12) (.c (.i .i64 0)))])
 (.cond (.t 13)
 (.skip)
 (.exit 0)))
 (.block 1
 (.seq (.reg [.op (some 14) none (.mv (.t 7)),
 .op (some 6) none (.mv (.t 14))])
 (.block 2
 (.seq (.dreg [.op (some 18) none (.ldn 2 (.t 3)),
 .op (some 19) none (.mv (.t 0)),
 .op (some 20) none (.nilchk (.t 19)),
 .op (some 21) none (.fad 0 (.t 20)),
 .op (some 22) none (.ld1 (.t 21)),
 .op (some 23) none (.mv (.t 7)),
 .op (some 24) none (.iad 7 (.t 22) (.t 23)),
 .op (some 25) none (.fad 0 (.t 24)),
 .op (some 26) none (.ldn 2 (.t 25)),
 .call (some 27) none (.c (.fn (.func 43) [] [])) [(.t 18), (.t 26)],
 .op (some 17) none (.mv (.t 27))]
 [0, 1, 2, 3, 4, 5, 6, 7, 8, 9, 10] [0, 0, 2, 6, 14, 0, 62, 126, 254, 511, 1023])
 (.cond (.t 17)
 (.reg [.op (some 28) none (.mv (.t 0)),
 .op (some 29) none (.nilchk (.t 28)),
 .op (some 30) none (.fad 0 (.t 29)),
 .op (some 31) none (.ld1 (.t 30)),
 .op (some 32) none (.mv (.t 7)),
 .op (some 33) none (.iad 7 (.t 31) (.t 32)),
 .op (some 34) none (.fad 3 (.t 33)),
 .op (some 35) none (.iada 1 2 (.t 34) (.c (.i .i64 0))),
 .op (some 36) none (.ld1 (.t 35)),
 .op (some 7) none (.mv (.t 36))])
 (.seq (.dreg [.op (some 38) none (.mv (.t 0)),
 .op (some 39) none (.nilchk (.t 38)),
 .op (some 40) none (.fad 0 (.t 39)),
 .op (some 41) none (.ld1 (.t 40)),
 .op (some 42) none (.mv (.t 7)),
 .op (some 43) none (.iad 7 (.t 41) (.t 42)),
 .op (some 44) none (.fad 0 (.t 43)),
 .op (some 45) none (.ldn 2 (.t 44)),
 .op (some 46) none (.ldn 2 (.t 3)),
 .call (some 47) none (.c (.fn (.func 43) [] [])) [(.t 45), (.t 46)],
 .op (some 37) none (.mv (.t 47))]
 [0, 1, 2, 3, 4, 5, 6, 7, 8, 9, 10] [0, 1, 3, 7, 0, 31, 63, 127, 0, 511, 1023])
 (.cond (.t 37)
 (.reg [.op (some 48) none (.mv (.t 0)),
 .op (some 49) none (.nilchk (.t 48)),
 .op (some 50) none (.fad 0 (.t 49)),
 .op (some 51) none (.ld1 (.t 50)),
 .op (some 52) none (.mv (.t 7)),
 .op (some 53) none (.iad 7 (.t 51) (.t 52)),
 .op (some 54) none (.fad 3 (.t 53)),
 .op (some 55) none (.iada 1 2 (.t 54) (.c (.i .i64 1))),
 .op (some 56) none (.ld1 (.t 55)),
 .op (some 7) none (.mv (.t 56))])
 (.seq (.reg [.op (some 15) none (.mv (.t 7)),
 .op (some 16) none (.mv (.t 6)),
 .op (some 4) none (.mv (.t 15)),
 .op (some 5) none (.mv (.t 16))])
 (.ret)))))))))))))
 (.seq (.reg [.op (some 57) none (.mv (.t 6)),
 .op (some 4) none (.mv (.c (.i .i64 0))),
 .op (some 5) none (.mv (.t 57))])
 (.ret)))),
 [.t 4, .t 5]⟩
def k42 : List Nat := [0, 1, 3, 4, 5, 6, 7, 13, 17, 37]
set_option maxRecDepth 100000 in
theorem c42 : compF Go.Proofs.Try.prog 2 Go.Proofs.Try.f42 = some e42 := by kernel_rfl
/-- sandglass/tree.less -/
def e43 : IFunc := ⟨24, 2,
 .seq (.reg [.op (some 2) none (.box (.t 0)),
 .op (some 3) none (.box (.t 1)),
 .op (some 4) none (.mv (.c (.b false)))])
 (.seq (.reg [.op (some 5) none (.fad 0 (.t 2)),
 .op (some 6) none (.ld1 (.t 5)),
 .op (some 7) none (.fad 0 (.t 3)),
 .op (some 8) none (.ld1 (.t 7)),
 .op (some 9) none (.ibin .lss (.t 6) (.t 8)),
 .op (some 10) none (.mv (.t 9)),
 .op (some 11) (some (10, false)) (.fad 0 (.t 2)),
 .op (some 12) (some (10, false)) (.ld1 (.t 11)),
 .op (some 13) (some (10, false)) (.fad 0 (.t 3)),
 .op (some 14) (some (10, false)) (.ld1 (.t 13)),
 .op (some 15) (some (10, false)) (.ibin .eql (.t 12) (.t 14)),
 .op (some 16) (some (10, false)) (.mv (.t 15)),
 .op (some 17) (some (16, true)) (.fad 1 (.t 2)),
 .op (some 18) (some (16, true)) (.ld1 (.t 17)),
 .op (some 19) (some (16, true)) (.fad 1 (.t 3)),
 .op (some 20) (some (16, true)) (.ld1 (.t 19)),
 .op (some 21) (some (16, true)) (.ibin .lss (.t 18) (.t 20)),
 .op (some 22) (some (10, false)) (.pick (.t 16) (.t 21) (.c (.b false))),
 .op (some 23) none (.pick (.t 10) (.c (.b true)) (.t 22)),
 .op (some 4) none (.mv (.t 23))])
 (.ret)),
 [.t 4]⟩
def k43 : List Nat := [0, 1, 2, 3, 4]
set_option maxRecDepth 100000 in
theorem c43 : compF Go.Proofs.Try.prog 2 Go.Proofs.Try.f43 = some e43 := by kernel_rfl
/-- (*sandglass/tree.Tree).settle -/
def e44 : IFunc := ⟨130, 2,
 .seq (.block 0
 (.loop
 (.seq (.seq (.dreg [.op (some 8) none (.mv (.t 0)),
 .op (some 9) none (.nilchk (.t 8)),
 .op (some 10) none (.fad 0 (.t 9)),
 .op (some 11) none (.ld1 (.t 10)),
 .op (some 12) none (.mv (.t 0)),
 .op (some 13) none (.nilchk (.t 12)),
 .op (some 14) none (.fad 0 (.t 13)),
 .op (some 15) none (.ld1 (.t 14)),
 .op (some 16) none (.mv (.t 1)),
 .op (some 17) none (.iad 7 (.t 15) (.t 16)),
 .op (some 18) none (.fad 5 (.t 17)),
 .op (some 19) none (.ld1 (.t 18)),
 .op (some 20) none (.iad 7 (.t 11) (.t 19)),
 .op (some 21) none (.fad 6 (.t 20)),
 .op (some 22) none (.ld1 (.t 21))]
 [0, 1, 2, 3, 4, 5, 6, 7, 8, 9, 10, 11, 12, 13, 14] [0, 1, 3, 7, 0, 16, 48, 112, 0, 496, 1008, 2032, 4095, 8191, 16383])
 (.cond (.t 22)
 (.skip)
 (.exit 0)))
 (.block 1
 (.seq (.reg [.op (some 23) none (.mv (.t 0)),
 .op (some 24) none (.nilchk (.t 23)),
 .op (some 25) none (.fad 0 (.t 24)),
 .op (some 26) none (.ld1 (.t 25)),
 .op (some 27) none (.mv (.t 1)),
 .op (some 28) none (.iad 7 (.t 26) (.t 27)),
 .op (some 29) none (.fad 5 (.t 28)),
 .op (some 30) none (.ld1 (.t 29)),
 .op (some 4) none (.mv (.t 30))])
 (.seq (.reg [.op (some 31) none (.mv (.t 0)),
 .op (some 32) none (.nilchk (.t 31)),
 .op (some 33) none (.fad 0 (.t 32)),
 .op (some 34) none (.ld1 (.t 33)),
 .op (some 35) none (.mv (.t 4)),
 .op (some 36) none (.iad 7 (.t 34) (.t 35)),
 .op (some 37) none (.fad 5 (.t 36)),
 .op (some 38) none (.ld1 (.t 37)),
 .op (some 5) none (.mv (.t 38))])
 (.seq (.reg [.op (some 39) none (.mv (.t 0)),
 .op (some 40) none (.mv (.t 4)),
 .call (some 41) none (.c (.fn (.func 52) [] [])) [(.t 39), (.t 40)],
 .op (some 6) none (.mv (.t 41))])
 (.seq (.seq (.reg [.op (some 42) none (.mv (.t 0)),
 .op (some 43) none (.nilchk (.t 42)),
 .op (some 44) none (.fad 0 (.t 43)),
 .op (some 45) none (.ld1 (.t 44)),
 .op (some 46) none (.mv (.t 5)),
 .op (some 47) none (.mv (.t 6)),
 .op (some 48) none (.ibin .sub (.c (.i .i64 1)) (.t 47)),
 .op (some 49) none (.iad 7 (.t 45) (.t 46)),
 .op (some 50) none (.fad 3 (.t 49)),
 .op (some 51) none (.iada 1 2 (.t 50) (.t 48)),
 .op (some 52) none (.ld1 (.t 51)),
 .op (some 7) none (.mv (.t 52))])
 (.seq (.reg [.op (some 53) none (.mv (.t 0)),
 .op (some 54) none (.nilchk (.t 53)),
 .op (some 55) none (.fad 0 (.t 54)),
 .op (some 56) none (.ld1 (.t 55)),
 .op (some 57) none (.mv (.t 7)),
 .op (some 58) none (.iad 7 (.t 56) (.t 57)),
 .op (some 59) none (.fad 6 (.t 58)),
 .op (some 60) none (.ld1 (.t 59))])
 (.cond (.t 60)
 (.seq (.dreg [.op (some 61) none (.mv (.t 0)),
 .op (some 62) none (.nilchk (.t 61)),
 .op (some 63) none (.fad 0 (.t 62)),
 .op (some 64) none (.ld1 (.t 63)),
 .op (some 65) none (.mv (.t 4)),
 .op (some 66) none (.mv (.t 0)),
 .op (some 67) none (.nilchk (.t 66)),
 .op (some 68) none (.fad 0 (.t 67)),
 .op (some 69) none (.ld1 (.t 68)),
 .op (some 70) none (.mv (.t 7)),
 .op (some 71) none (.mv (.t 0)),
 .op (some 72) none (.nilchk (.t 71)),
 .op (some 73) none (.fad 0 (.t 72)),
 .op (some 74) none (.ld1 (.t 73)),
 .op (some 75) none (.mv (.t 5)),
 .op (some 76) none (.iad 7 (.t 64) (.t 65)),
 .op (some 77) none (.fad 6 (.t 76)),
 .op none none (.st 1 (.t 77) (.c (.b false))),
 .op (some 78) none (.iad 7 (.t 69) (.t 70)),
 .op (some 79) none (.fad 6 (.t 78)),
 .op none none (.st 1 (.t 79) (.c (.b false))),
 .op (some 80) none (.iad 7 (.t 74) (.t 75)),
 .op (some 81) none (.fad 6 (.t 80)),
 .op none none (.st 1 (.t 81) (.c (.b true)))]
 [0, 1, 2, 3, 4, 5, 6, 7, 8, 9, 10, 11, 12, 13, 14, 15, 16, 17, 18, 19, 20, 21, 22, 23] [0, 1, 3, 7, 0, 0, 32, 96, 224, 0, 0, 1024, 3072, 7168, 0, 15871, 48639, 114175, 245759, 507903, 1032191, 2097151, 4194303, 8388607])
 (.seq (.reg [.op (some 82) none (.mv (.t 5)),
 .op (some 1) none (.mv (.t 82))])
 (.exit 1)))
 (.skip))))
 (.seq (.seq (.reg [.op (some 83) none (.mv (.t 0)),
 .op (some 84) none (.mv (.t 1)),
 .call (some 85) none (.c (.fn (.func 52) [] [])) [(.t 83), (.t 84)],
 .op (some 86) none (.mv (.t 6)),
 .op (some 87) none (.ibin .neq (.t 85) (.t 86))])
 (.cond (.t 87)
 (.seq (.reg [.op (some 88) none (.mv (.t 4)),
 .op (some 1) none (.mv (.t 88))])
 (.seq (.reg [.op (some 89) none (.mv (.t 0)),
 .op (some 90) none (.mv (.t 1)),
 .op (some 91) none (.mv (.t 6)),
 .call (some 92) none (.c (.fn (.func 53) [] [])) [(.t 89), (.t 90), (.t 91)]])
 (.reg [.op (some 93) none (.mv (.t 0)),
 .op (some 94) none (.nilchk (.t 93)),
 .op (some 95) none (.fad 0 (.t 94)),
 .op (some 96) none (.ld1 (.t 95)),
 .op (some 97) none (.mv (.t 1)),
 .op (some 98) none (.iad 7 (.t 96) (.t 97)),
 .op (some 99) none (.fad 5 (.t 98)),
 .op (some 100) none (.ld1 (.t 99)),
 .op (some 4) none (.mv (.t 100))])))
 (.skip)))
 (.seq (.dreg [.op (some 101) none (.mv (.t 0)),
 .op (some 102) none (.nilchk (.t 101)),
 .op (some 103) none (.fad 0 (.t 102)),
 .op (some 104) none (.ld1 (.t 103)),
 .op (some 105) none (.mv (.t 4)),
 .op (some 106) none (.mv (.t 0)),
 .op (some 107) none (.nilchk (.t 106)),
 .op (some 108) none (.fad 0 (.t 107)),
 .op (some 109) none (.ld1 (.t 108)),
 .op (some 110) none (.mv (.t 5)),
 .op (some 111) none (.iad 7 (.t 104) (.t 105)),
 .op (some 112) none (.fad 6 (.t 111)),
 .op none none (.st 1 (.t 112) (.c (.b false))),
 .op (some 113) none (.iad 7 (.t 109) (.t 110)),
 .op (some 114) none (.fad 6 (.t 113)),
 .op none none (.st 1 (.t 114) (.c (.b true)))]
 [0, 1, 2, 3, 4, 5, 6, 7, 8, 9, 10, 11, 12, 13, 14, 15] [0, 1, 3, 7, 0, 0, 32, 96, 224, 0, 511, 1535, 3583, 8191, 16383, 32767])
 (.reg [.op (some 115) none (.mv (.t 0)),
 .op (some 116) none (.mv (.t 5)),
 .op (some 117) none (.mv (.t 6)),
 .op (some 118) none (.ibin .sub (.c (.i .i64 1)) (.t 117)),
 .call (some 119) none (.c (.fn (.func 53) [] [])) [(.t 115), (.t 116), (.t 118)]])))))))))))
 (.dreg [.op (some 120) none (.mv (.t 0)),
 .op (some 121) none (.nilchk (.t 120)),
 .op (some 122) none (.fad 0 (.t 121)),
 .op (some 123) none (.ld1 (.t 122)),
 .op (some 124) none (.mv (.t 0)),
 .op (some 125) none (.nilchk (.t 124)),
 .op (some 126) none (.fad 2 (.t 125)),
 .op (some 127) none (.ld1 (.t 126)),
 .op (some 128) none (.iad 7 (.t 123) (.t 127)),
 .op (some 129) none (.fad 6 (.t 128)),
 .op none none (.st 1 (.t 129) (.c (.b false)))]
 [0, 1, 2, 3, 4, 5, 6, 7, 8, 9, 10] [0, 1, 3, 7, 0, 16, 48, 112, 255, 511, 1023]),
 []⟩
def k44 : List Nat := [0, 1, 4, 5, 6, 7, 22, 60, 87]
set_option maxRecDepth 100000 in
theorem c44 : compF Go.Proofs.Try.prog 2 Go.Proofs.Try.f44 = some e44 := by kernel_rfl
/-- (*sandglass/tree.Tree).First -/
def e45 : IFunc := ⟨43, 1,
 .seq (.reg [.op (some 2) none (.box (.c (.agg [(.i .u64 0), (.i .u64 0), (.i .i64 0)]))),
 .op (some 3) none (.mv (.c (.b false)))])
 (.seq (.seq (.reg [.op (some 5) none (.mv (.t 0)),
 .call (some 6) none (.c (.fn (.func 41) [] [])) [(.t 5)],
 .op (some 7) none (.mv (.t 6)),
 .op (some 8) (some (7, false)) (.mv (.t 0)),
 .op (some 9) (some (7, false)) (.nilchk (.t 8)),
 .op (some 10) (some (7, false)) (.fad 2 (.t 9)),
 .op (some 11) (some (7, false)) (.ld1 (.t 10)),
 .op (some 12) (some (7, false)) (.ibin .eql (.t 11) (.c (.i .i64 0))),
 .op (some 13) none (.pick (.t 7) (.c (.b true)) (.t 12))])
 (.cond (.t 13)
 (.seq (.reg [.op (some 14) none (.build [(.i .u64 0), (.i .u64 0), (.i .i64 0)] []),
 .op none none (.st 3 (.t 2) (.t 14)),
 .op (some 3) none (.mv (.c (.b false)))])
 (.ret))
 (.skip)))
 (.seq (.reg [.op (some 15) none (.mv (.t 0)),
 .op (some 16) none (.nilchk (.t 15)),
 .op (some 17) none (.fad 2 (.t 16)),
 .op (some 18) none (.ld1 (.t 17)),
 .op (some 4) none (.mv (.t 18))])
 (.seq (.block 0
 (.loop
 (.seq (.seq (.reg [.op (some 19) none (.mv (.t 0)),
 .op (some 20) none (.nilchk (.t 19)),
 .op (some 21) none (.fad 0 (.t 20)),
 .op (some 22) none (.ld1 (.t 21)),
 .op (some 23) none (.mv (.t 4)),
 .op (some 24) none (.iad 7 (.t 22) (.t 23)),
 .op (some 25) none (.fad 3 (.t 24)),
 .op (some 26) none (.iada 1 2 (.t 25) (.c (.i .i64 0))),
 .op (some 27) none (.ld1 (.t 26)),
 .op (some 28) none (.ibin .neq (.t 27) (.c (.i .i64 0)))])
 (.cond (.t 28)
 (.skip)
 (.exit 0)))
 (.block 1
 (.reg [.op (some 29) none (.mv (.t 0)),
 .op (some 30) none (.nilchk (.t 29)),
 .op (some 31) none (.fad 0 (.t 30)),
 .op (some 32) none (.ld1 (.t 31)),
 .op (some 33) none (.mv (.t 4)),
 .op (some 34) none (.iad 7 (.t 32) (.t 33)),
 .op (some 35) none (.fad 3 (.t 34)),
 .op (some 36) none (.iada 1 2 (.t 35) (.c (.i .i64 0))),
 .op (some 37) none (.ld1 (.t 36)),
 .op (some 4) none (.mv (.t 37))])))))
 (.seq (.reg [.op (some 38) none (.mv (.t 0)),
 .op (some 39) none (.mv (.t 4)),
 .call (some 40) none (.c (.fn (.func 49) [] [])) [(.t 38), (.t 39)],
 .op (some 41) none (.ext (.t 40) 0),
 .op (some 42) none (.ext (.t 40) 1),
 .op none none (.st 3 (.t 2) (.t 41)),
 .op (some 3) none (.mv (.t 42))])
 (.ret))))),
 [.cn 2 3, .t 3]⟩
def k45 : List Nat := [0, 2, 3, 4, 13, 28]
set_option maxRecDepth 100000 in
theorem c45 : compF Go.Proofs.Try.prog 1 Go.Proofs.Try.f45 = some e45 := by kernel_rfl
/-- (*sandglass/tree.Tree).hang -/
def e46 : IFunc := ⟨41, 3,
 .seq (.reg [.op (some 7) none (.mv (.t 0)),
 .op (some 8) none (.nilchk (.t 7)),
 .op (some 9) none (.fad 0 (.t 8)),
 .op (some 10) none (.ld1 (.t 9)),
 .op (some 11) none (.mv (.t 2)),
 .op (some 12) none (.iad 7 (.t 10) (.t 11)),
 .op (some 13) none (.fad 5 (.t 12)),
 .op (some 14) none (.ld1 (.t 13)),
 .op (some 6) none (.mv (.t 14))])
 (.seq (.seq (.reg [.op (some 15) none (.mv (.t 6)),
 .op (some 16) none (.ibin .eql (.t 15) (.c (.i .i64 0)))])
 (.cond (.t 16)
 (.reg [.op (some 17) none (.mv (.t 0)),
 .op (some 18) none (.mv (.t 1)),
 .op (some 19) none (.nilchk (.t 17)),
 .op (some 20) none (.fad 2 (.t 19)),
 .op none none (.st 1 (.t 20) (.t 18))])
 (.dreg [.op (some 21) none (.mv (.t 0)),
 .op (some 22) none (.nilchk (.t 21)),
 .op (some 23) none (.fad 0 (.t 22)),
 .op (some 24) none (.ld1 (.t 23)),
 .op (some 25) none (.mv (.t 6)),
 .op (some 26) none (.mv (.t 0)),
 .op (some 27) none (.mv (.t 2)),
 .call (some 28) none (.c (.fn (.func 52) [] [])) [(.t 26), (.t 27)],
 .op (some 29) none (.mv (.t 1)),
 .op (some 30) none (.iad 7 (.t 24) (.t 25)),
 .op (some 31) none (.fad 3 (.t 30)),
 .op (some 32) none (.iada 1 2 (.t 31) (.t 28)),
 .op none none (.st 1 (.t 32) (.t 29))]
 [0, 1, 2, 3, 4, 5, 6, 8, 9, 10, 7, 11, 12] [0, 1, 3, 7, 0, 0, 0, 96, 0, 31, 543, 2047, 4095])))
 (.reg [.op (some 33) none (.mv (.t 0)),
 .op (some 34) none (.nilchk (.t 33)),
 .op (some 35) none (.fad 0 (.t 34)),
 .op (some 36) none (.ld1 (.t 35)),
 .op (some 37) none (.mv (.t 1)),
 .op (some 38) none (.mv (.t 6)),
 .op (some 39) none (.iad 7 (.t 36) (.t 37)),
 .op (some 40) none (.fad 5 (.t 39)),
 .op none none (.st 1 (.t 40) (.t 38))])),
 []⟩
def k46 : List Nat := [0, 1, 2, 6, 16]
set_option maxRecDepth 100000 in
theorem c46 : compF Go.Proofs.Try.prog 3 Go.Proofs.Try.f46 = some e46 := by kernel_rfl
/-- (*sandglass/tree.Tree).lift -/
def e47 : IFunc := ⟨249, 2,
 .seq (.block 0
 (.loop
 (.seq (.seq (.reg [.op (some 8) none (.mv (.t 1)),
 .op (some 9) none (.mv (.t 0)),
 .op (some 10) none (.nilchk (.t 9)),
 .op (some 11) none (.fad 2 (.t 10)),
 .op (some 12) none (.ld1 (.t 11)),
 .op (some 13) none (.ibin .neq (.t 8) (.t 12)),
 .op (some 14) none (.mv (.t 13)),
 .op (some 15) (some (14, true)) (.mv (.t 0)),
 .op (some 16) (some (14, true)) (.nilchk (.t 15)),
 .op (some 17) (some (14, true)) (.fad 0 (.t 16)),
 .op (some 18) (some (14, true)) (.ld1 (.t 17)),
 .op (some 19) (some (14, true)) (.mv (.t 1)),
 .op (some 20) (some (14, true)) (.iad 7 (.t 18) (.t 19)),
 .op (some 21) (some (14, true)) (.fad 6 (.t 20)),
 .op (some 22) (some (14, true)) (.ld1 (.t 21)),
 .op (some 23) (some (14, true)) (.un .not (.t 22)),
 .op (some 24) none (.pick (.t 14) (.t 23) (.c (.b false)))])
 (.cond (.t 24)
 (.skip)
 (.exit 0)))
 (.block 1
 (.seq (.reg [.op (some 25) none (.mv (.t 0)),
 .op (some 26) none (.nilchk (.t 25)),
 .op (some 27) none (.fad 0 (.t 26)),
 .op (some 28) none (.ld1 (.t 27)),
 .op (some 29) none (.mv (.t 1)),
 .op (some 30) none (.iad 7 (.t 28) (.t 29)),
 .op (some 31) none (.fad 5 (.t 30)),
 .op (some 32) none (.ld1 (.t 31)),
 .op (some 4) none (.mv (.t 32))])
 (.seq (.reg [.op (some 5) none (.mv (.c (.i .i64 0)))])
 (.seq (.seq (.reg [.op (some 33) none (.mv (.t 0)),
 .op (some 34) none (.nilchk (.t 33)),
 .op (some 35) none (.fad 0 (.t 34)),
 .op (some 36) none (.ld1 (.t 35)),
 .op (some 37) none (.mv (.t 4)),
 .op (some 38) none (.iad 7 (.t 36) (.t 37)),
 .op (some 39) none (.fad 3 (.t 38)),
 .op (some 40) none (.iada 1 2 (.t 39) (.c (.i .i64 0))),
 .op (some 41) none (.ld1 (.t 40)),
 .op (some 42) none (.mv (.t 1)),
 .op (some 43) none (.ibin .neq (.t 41) (.t 42))])
 (.cond (.t 43)
 (.reg [.op (some 5) none (.mv (.c (.i .i64 1)))])
 (.skip)))
 (.seq (.reg [.op (some 44) none (.mv (.t 0)),
 .op (some 45) none (.nilchk (.t 44)),
 .op (some 46) none (.fad 0 (.t 45)),
 .op (some 47) none (.ld1 (.t 46)),
 .op (some 48) none (.mv (.t 4)),
 .op (some 49) none (.mv (.t 5)),
 .op (some 50) none (.ibin .sub (.c (.i .i64 1)) (.t 49)),
 .op (some 51) none (.iad 7 (.t 47) (.t 48)),
 .op (some 52) none (.fad 3 (.t 51)),
 .op (some 53) none (.iada 1 2 (.t 52) (.t 50)),
 .op (some 54) none (.ld1 (.t 53)),
 .op (some 6) none (.mv (.t 54))])
 (.seq (.seq (.reg [.op (some 55) none (.mv (.t 0)),
 .op (some 56) none (.nilchk (.t 55)),
 .op (some 57) none (.fad 0 (.t 56)),
 .op (some 58) none (.ld1 (.t 57)),
 .op (some 59) none (.mv (.t 6)),
 .op (some 60) none (.iad 7 (.t 58) (.t 59)),
 .op (some 61) none (.fad 6 (.t 60)),
 .op (some 62) none (.ld1 (.t 61))])
 (.cond (.t 62)
 (.seq (.dreg [.op (some 63) none (.mv (.t 0)),
 .op (some 64) none (.nilchk (.t 63)),
 .op (some 65) none (.fad 0 (.t 64)),
 .op (some 66) none (.ld1 (.t 65)),
 .op (some 67) none (.mv (.t 6)),
 .op (some 68) none (.mv (.t 0)),
 .op (some 69) none (.nilchk (.t 68)),
 .op (some 70) none (.fad 0 (.t 69)),
 .op (some 71) none (.ld1 (.t 70)),
 .op (some 72) none (.mv (.t 4)),
 .op (some 73) none (.iad 7 (.t 66) (.t 67)),
 .op (some 74) none (.fad 6 (.t 73)),
 .op none none (.st 1 (.t 74) (.c (.b false))),
 .op (some 75) none (.iad 7 (.t 71) (.t 72)),
 .op (some 76) none (.fad 6 (.t 75)),
 .op none none (.st 1 (.t 76) (.c (.b true)))]
 [0, 1, 2, 3, 4, 5, 6, 7, 8, 9, 10, 11, 12, 13, 14, 15] [0, 1, 3, 7, 0, 0, 32, 96, 224, 0, 511, 1535, 3583, 8191, 16383, 32767])
 (.seq (.reg [.op (some 77) none (.mv (.t 0)),
 .op (some 78) none (.mv (.t 4)),
 .op (some 79) none (.mv (.t 5)),
 .call (some 80) none (.c (.fn (.func 53) [] [])) [(.t 77), (.t 78), (.t 79)]])
 (.reg [.op (some 81) none (.mv (.t 0)),
 .op (some 82) none (.nilchk (.t 81)),
 .op (some 83) none (.fad 0 (.t 82)),
 .op (some 84) none (.ld1 (.t 83)),
 .op (some 85) none (.mv (.t 4)),
 .op (some 86) none (.mv (.t 5)),
 .op (some 87) none (.ibin .sub (.c (.i .i64 1)) (.t 86)),
 .op (some 88) none (.iad 7 (.t 84) (.t 85)),
 .op (some 89) none (.fad 3 (.t 88)),
 .op (some 90) none (.iada 1 2 (.t 89) (.t 87)),
 .op (some 91) none (.ld1 (.t 90)),
 .op (some 6) none (.mv (.t 91))])))
 (.skip)))
 (.seq (.seq (.dreg [.op (some 92) none (.mv (.t 0)),
 .op (some 93) none (.nilchk (.t 92)),
 .op (some 94) none (.fad 0 (.t 93)),
 .op (some 95) none (.ld1 (.t 94)),
 .op (some 96) none (.mv (.t 0)),
 .op (some 97) none (.nilchk (.t 96)),
 .op (some 98) none (.fad 0 (.t 97)),
 .op (some 99) none (.ld1 (.t 98)),
 .op (some 100) none (.mv (.t 6)),
 .op (some 101) none (.iad 7 (.t 99) (.t 100)),
 .op (some 102) none (.fad 3 (.t 101)),
 .op (some 103) none (.iada 1 2 (.t 102) (.c (.i .i64 0))),
 .op (some 104) none (.ld1 (.t 103)),
 .op (some 105) none (.iad 7 (.t 95) (.t 104)),
 .op (some 106) none (.fad 6 (.t 105)),
 .op (some 107) none (.ld1 (.t 106)),
 .op (some 108) none (.un .not (.t 107)),
 .op (some 109) none (.mv (.t 108)),
 .op (some 110) (some (109, true)) (.mv (.t 0)),
 .op (some 111) (some (109, true)) (.nilchk (.t 110)),
 .op (some 112) (some (109, true)) (.fad 0 (.t 111)),
 .op (some 113) (some (109, true)) (.ld1 (.t 112)),
 .op (some 114) (some (109, true)) (.mv (.t 0)),
 .op (some 115) (some (109, true)) (.nilchk (.t 114)),
 .op (some 116) (some (109, true)) (.fad 0 (.t 115)),
 .op (some 117) (some (109, true)) (.ld1 (.t 116)),
 .op (some 118) (some (109, true)) (.mv (.t 6)),
 .op (some 119) (some (109, true)) (.iad 7 (.t 117) (.t 118)),
 .op (some 120) (some (109, true)) (.fad 3 (.t 119)),
 .op (some 121) (some (109, true)) (.iada 1 2 (.t 120) (.c (.i .i64 1))),
 .op (some 122) (some (109, true)) (.ld1 (.t 121)),
 .op (some 123) (some (109, true)) (.iad 7 (.t 113) (.t 122)),
 .op (some 124) (some (109, true)) (.fad 6 (.t 123)),
 .op (some 125) (some (109, true)) (.ld1 (.t 124)),
 .op (some 126) (some (109, true)) (.un .not (.t 125)),
 .op (some 127) none (.pick (.t 109) (.t 126) (.c (.b false)))]
 [0, 1, 2, 3, 4, 5, 6, 7, 8, 9, 10, 11, 12, 13, 14, 15, 16, 17, 18, 19, 20, 21, 22, 23, 24, 25, 26, 27, 28, 29, 30, 31, 32, 33, 34, 35] [0, 1, 3, 7, 0, 16, 48, 112, 0, 496, 1008, 2032, 4080, 8191, 16383, 32767, 65535, 131071, 262143, 524287, 1048575, 2097151, 262143, 4456447, 12845055, 29622271, 262143, 130285567, 264503295, 532938751, 1069809663, 2147483647, 4294967295, 8589934591, 17179869183, 34359738367])
 (.cond (.t 127)
 (.seq (.reg [.op (some 128) none (.mv (.t 0)),
 .op (some 129) none (.nilchk (.t 128)),
 .op (some 130) none (.fad 0 (.t 129)),
 .op (some 131) none (.ld1 (.t 130)),
 .op (some 132) none (.mv (.t 6)),
 .op (some 133) none (.iad 7 (.t 131) (.t 132)),
 .op (some 134) none (.fad 6 (.t 133)),
 .op none none (.st 1 (.t 134) (.c (.b true)))])
 (.seq (.reg [.op (some 135) none (.mv (.t 4)),
 .op (some 1) none (.mv (.t 135))])
 (.exit 1)))
 (.skip)))
 (.seq (.seq (.reg [.op (some 136) none (.mv (.t 0)),
 .op (some 137) none (.nilchk (.t 136)),
 .op (some 138) none (.fad 0 (.t 137)),
 .op (some 139) none (.ld1 (.t 138)),
 .op (some 140) none (.mv (.t 6)),
 .op (some 141) none (.mv (.t 5)),
 .op (some 142) none (.ibin .sub (.c (.i .i64 1)) (.t 141)),
 .op (some 143) none (.iad 7 (.t 139) (.t 140)),
 .op (some 144) none (.fad 3 (.t 143)),
 .op (some 145) none (.iada 1 2 (.t 144) (.t 142)),
 .op (some 146) none (.ld1 (.t 145)),
 .op (some 7) none (.mv (.t 146))])
 (.seq (.reg [.op (some 147) none (.mv (.t 0)),
 .op (some 148) none (.nilchk (.t 147)),
 .op (some 149) none (.fad 0 (.t 148)),
 .op (some 150) none (.ld1 (.t 149)),
 .op (some 151) none (.mv (.t 7)),
 .op (some 152) none (.iad 7 (.t 150) (.t 151)),
 .op (some 153) none (.fad 6 (.t 152)),
 .op (some 154) none (.ld1 (.t 153)),
 .op (some 155) none (.un .not (.t 154))])
 (.cond (.t 155)
 (.seq (.dreg [.op (some 156) none (.mv (.t 0)),
 .op (some 157) none (.nilchk (.t 156)),
 .op (some 158) none (.fad 0 (.t 157)),
 .op (some 159) none (.ld1 (.t 158)),
 .op (some 160) none (.mv (.t 0)),
 .op (some 161) none (.nilchk (.t 160)),
 .op (some 162) none (.fad 0 (.t 161)),
 .op (some 163) none (.ld1 (.t 162)),
 .op (some 164) none (.mv (.t 6)),
 .op (some 165) none (.mv (.t 5)),
 .op (some 166) none (.iad 7 (.t 163) (.t 164)),
 .op (some 167) none (.fad 3 (.t 166)),
 .op (some 168) none (.iada 1 2 (.t 167) (.t 165)),
 .op (some 169) none (.ld1 (.t 168)),
 .op (some 170) none (.mv (.t 0)),
 .op (some 171) none (.nilchk (.t 170)),
 .op (some 172) none (.fad 0 (.t 171)),
 .op (some 173) none (.ld1 (.t 172)),
 .op (some 174) none (.mv (.t 6)),
 .op (some 175) none (.iad 7 (.t 159) (.t 169)),
 .op (some 176) none (.fad 6 (.t 175)),
 .op none none (.st 1 (.t 176) (.c (.b false))),
 .op (some 177) none (.iad 7 (.t 173) (.t 174)),
 .op (some 178) none (.fad 6 (.t 177)),
 .op none none (.st 1 (.t 178) (.c (.b true)))]
 [0, 1, 2, 3, 4, 5, 6, 7, 8, 9, 10, 11, 12, 13, 14, 15, 16, 17, 18, 19, 20, 21, 22, 23, 24] [0, 1, 3, 7, 0, 16, 48, 112, 0, 0, 496, 1520, 4080, 8176, 0, 16384, 49152, 114688, 0, 262143, 786431, 1835007, 4194303, 8388607, 16777215])
 (.seq (.reg [.op (some 179) none (.mv (.t 0)),
 .op (some 180) none (.mv (.t 6)),
 .op (some 181) none (.mv (.t 5)),
 .op (some 182) none (.ibin .sub (.c (.i .i64 1)) (.t 181)),
 .call (some 183) none (.c (.fn (.func 53) [] [])) [(.t 179), (.t 180), (.t 182)]])
 (.reg [.op (some 184) none (.mv (.t 0)),
 .op (some 185) none (.nilchk (.t 184)),
 .op (some 186) none (.fad 0 (.t 185)),
 .op (some 187) none (.ld1 (.t 186)),
 .op (some 188) none (.mv (.t 4)),
 .op (some 189) none (.mv (.t 5)),
 .op (some 190) none (.ibin .sub (.c (.i .i64 1)) (.t 189)),
 .op (some 191) none (.iad 7 (.t 187) (.t 188)),
 .op (some 192) none (.fad 3 (.t 191)),
 .op (some 193) none (.iada 1 2 (.t 192) (.t 190)),
 .op (some 194) none (.ld1 (.t 193)),
 .op (some 6) none (.mv (.t 194))])))
 (.skip))))
 (.seq (.dreg [.op (some 195) none (.mv (.t 0)),
 .op (some 196) none (.nilchk (.t 195)),
 .op (some 197) none (.fad 0 (.t 196)),
 .op (some 198) none (.ld1 (.t 197)),
 .op (some 199) none (.mv (.t 6)),
 .op (some 200) none (.mv (.t 0)),
 .op (some 201) none (.nilchk (.t 200)),
 .op (some 202) none (.fad 0 (.t 201)),
 .op (some 203) none (.ld1 (.t 202)),
 .op (some 204) none (.mv (.t 4)),
 .op (some 205) none (.mv (.t 0)),
 .op (some 206) none (.nilchk (.t 205)),
 .op (some 207) none (.fad 0 (.t 206)),
 .op (some 208) none (.ld1 (.t 207)),
 .op (some 209) none (.mv (.t 4)),
 .op (some 210) none (.iad 7 (.t 208) (.t 209)),
 .op (some 211) none (.fad 6 (.t 210)),
 .op (some 212) none (.ld1 (.t 211)),
 .op (some 213) none (.iad 7 (.t 198) (.t 199)),
 .op (some 214) none (.fad 6 (.t 213)),
 .op none none (.st 1 (.t 214) (.t 212)),
 .op (some 215) none (.iad 7 (.t 203) (.t 204)),
 .op (some 216) none (.fad 6 (.t 215)),
 .op none none (.st 1 (.t 216) (.c (.b false)))]
 [0, 1, 2, 3, 4, 5, 6, 7, 8, 9, 10, 11, 12, 13, 14, 15, 16, 17, 18, 19, 20, 21, 22, 23] [0, 1, 3, 7, 0, 0, 32, 96, 224, 0, 0, 1024, 3072, 7168, 0, 31744, 64512, 130048, 261631, 523775, 1048063, 2097151, 4194303, 8388607])
 (.seq (.dreg [.op (some 217) none (.mv (.t 0)),
 .op (some 218) none (.nilchk (.t 217)),
 .op (some 219) none (.fad 0 (.t 218)),
 .op (some 220) none (.ld1 (.t 219)),
 .op (some 221) none (.mv (.t 0)),
 .op (some 222) none (.nilchk (.t 221)),
 .op (some 223) none (.fad 0 (.t 222)),
 .op (some 224) none (.ld1 (.t 223)),
 .op (some 225) none (.mv (.t 6)),
 .op (some 226) none (.mv (.t 5)),
 .op (some 227) none (.ibin .sub (.c (.i .i64 1)) (.t 226)),
 .op (some 228) none (.iad 7 (.t 224) (.t 225)),
 .op (some 229) none (.fad 3 (.t 228)),
 .op (some 230) none (.iada 1 2 (.t 229) (.t 227)),
 .op (some 231) none (.ld1 (.t 230)),
 .op (some 232) none (.iad 7 (.t 220) (.t 231)),
 .op (some 233) none (.fad 6 (.t 232)),
 .op none none (.st 1 (.t 233) (.c (.b false)))]
 [0, 1, 2, 3, 4, 5, 6, 7, 8, 9, 10, 11, 12, 13, 14, 15, 16, 17] [0, 1, 3, 7, 0, 16, 48, 112, 0, 0, 512, 496, 2544, 8176, 16368, 32767, 65535, 131071])
 (.seq (.reg [.op (some 234) none (.mv (.t 0)),
 .op (some 235) none (.mv (.t 4)),
 .op (some 236) none (.mv (.t 5)),
 .call (some 237) none (.c (.fn (.func 53) [] [])) [(.t 234), (.t 235), (.t 236)]])
 (.reg [.op (some 238) none (.mv (.t 0)),
 .op (some 239) none (.nilchk (.t 238)),
 .op (some 240) none (.fad 2 (.t 239)),
 .op (some 241) none (.ld1 (.t 240)),
 .op (some 1) none (.mv (.t 241))])))))))))))))))
 (.reg [.op (some 242) none (.mv (.t 0)),
 .op (some 243) none (.nilchk (.t 242)),
 .op (some 244) none (.fad 0 (.t 243)),
 .op (some 245) none (.ld1 (.t 244)),
 .op (some 246) none (.mv (.t 1)),
 .op (some 247) none (.iad 7 (.t 245) (.t 246)),
 .op (some 248) none (.fad 6 (.t 247)),
 .op none none (.st 1 (.t 248) (.c (.b false)))]),
 []⟩
def k47 : List Nat := [0, 1, 4, 5, 6, 7, 24, 43, 62, 127, 155]
set_option maxRecDepth 100000 in
theorem c47 : compF Go.Proofs.Try.prog 2 Go.Proofs.Try.f47 = some e47 := by kernel_rfl
/-- (*sandglass/tree.Tree).order -/
def e48 : IFunc := ⟨57, 1,
 .seq (.reg [.op (some 2) none (.mv (.c .nils))])
 (.seq (.reg [.op (some 3) none (.mv (.c .nils)),
 .op (some 4) none (.mv (.c .nils))])
 (.seq (.seq (.reg [.op (some 6) none (.mv (.t 0)),
 .op (some 7) none (.nilchk (.t 6)),
 .op (some 8) none (.fad 2 (.t 7)),
 .op (some 9) none (.ld1 (.t 8)),
 .op (some 5) none (.mv (.t 9))])
 (.block 0
 (.loop
 (.seq (.seq (.reg [.op (some 10) none (.mv (.t 5)),
 .op (some 11) none (.ibin .neq (.t 10) (.c (.i .i64 0))),
 .op (some 12) none (.mv (.t 11)),
 .op (some 13) (some (12, false)) (.mv (.t 4)),
 .op (some 14) (some (12, false)) (.len 2 (.t 13)),
 .op (some 15) (some (12, false)) (.ibin .gtr (.t 14) (.c (.i .i64 0))),
 .op (some 16) none (.pick (.t 12) (.c (.b true)) (.t 15))])
 (.cond (.t 16)
 (.skip)
 (.exit 0)))
 (.block 1
 (.seq (.seq (.reg [.op (some 17) none (.mv (.t 5)),
 .op (some 18) none (.ibin .neq (.t 17) (.c (.i .i64 0)))])
 (.cond (.t 18)
 (.seq (.reg [.op (some 19) none (.mv (.t 4)),
 .op (some 20) none (.mv (.t 5)),
 .op (some 21) none (.bslice 1 1 [(.i .i64 0)] [(0, 1, (.t 20))]),
 .op (some 22) none (.app 1 8 (.t 19) (.t 21)),
 .op (some 4) none (.mv (.t 22))])
 (.seq (.reg [.op (some 23) none (.mv (.t 0)),
 .op (some 24) none (.nilchk (.t 23)),
 .op (some 25) none (.fad 0 (.t 24)),
 .op (some 26) none (.ld1 (.t 25)),
 .op (some 27) none (.mv (.t 5)),
 .op (some 28) none (.iad 7 (.t 26) (.t 27)),
 .op (some 29) none (.fad 3 (.t 28)),
 .op (some 30) none (.iada 1 2 (.t 29) (.c (.i .i64 0))),
 .op (some 31) none (.ld1 (.t 30)),
 .op (some 5) none (.mv (.t 31))])
 (.exit 1)))
 (.skip)))
 (.seq (.reg [.op (some 32) none (.mv (.t 4)),
 .op (some 33) none (.mv (.t 4)),
 .op (some 34) none (.len 2 (.t 33)),
 .op (some 35) none (.ibin .sub (.t 34) (.c (.i .i64 1))),
 .op (some 36) none (.iad 1 (.t 32) (.t 35)),
 .op (some 37) none (.ld1 (.t 36)),
 .op (some 5) none (.mv (.t 37))])
 (.seq (.reg [.op (some 38) none (.mv (.t 4)),
 .op (some 39) none (.mv (.t 4)),
 .op (some 40) none (.len 2 (.t 39)),
 .op (some 41) none (.ibin .sub (.t 40) (.c (.i .i64 1))),
 .op (some 42) none (.slice 1 (.t 38) none (some (.t 41))),
 .op (some 4) none (.mv (.t 42))])
 (.seq (.reg [.op (some 43) none (.mv (.t 3)),
 .op (some 44) none (.mv (.t 5)),
 .op (some 45) none (.bslice 1 1 [(.i .i64 0)] [(0, 1, (.t 44))]),
 .op (some 46) none (.app 1 8 (.t 43) (.t 45)),
 .op (some 3) none (.mv (.t 46))])
 (.reg [.op (some 47) none (.mv (.t 0)),
 .op (some 48) none (.nilchk (.t 47)),
 .op (some 49) none (.fad 0 (.t 48)),
 .op (some 50) none (.ld1 (.t 49)),
 .op (some 51) none (.mv (.t 5)),
 .op (some 52) none (.iad 7 (.t 50) (.t 51)),
 .op (some 53) none (.fad 3 (.t 52)),
 .op (some 54) none (.iada 1 2 (.t 53) (.c (.i .i64 1))),
 .op (some 55) none (.ld1 (.t 54)),
 .op (some 5) none (.mv (.t 55))]))))))))))
 (.seq (.reg [.op (some 56) none (.mv (.t 3)),
 .op (some 2) none (.mv (.t 56))])
 (.ret)))),
 [.t 2]⟩
def k48 : List Nat := [0, 2, 3, 4, 5, 16, 18]
set_option maxRecDepth 100000 in
theorem c48 : compF Go.Proofs.Try.prog 1 Go.Proofs.Try.f48 = some e48 := by kernel_rfl
/-- (*sandglass/tree.Tree).entry -/
def e49 : IFunc := ⟨26, 2,
 .seq (.reg [.op (some 4) none (.box (.c (.agg [(.i .u64 0), (.i .u64 0), (.i .i64 0)]))),
 .op (some 5) none (.mv (.c (.b false)))])
 (.seq (.seq (.reg [.op (some 6) none (.mv (.t 1)),
 .op (some 7) none (.ibin .eql (.t 6) (.c (.i .i64 0)))])
 (.cond (.t 7)
 (.seq (.reg [.op (some 8) none (.build [(.i .u64 0), (.i .u64 0), (.i .i64 0)] []),
 .op none none (.st 3 (.t 4) (.t 8)),
 .op (some 5) none (.mv (.c (.b false)))])
 (.ret))
 (.skip)))
 (.seq (.dreg [.op (some 9) none (.mv (.t 0)),
 .op (some 10) none (.nilchk (.t 9)),
 .op (some 11) none (.fad 0 (.t 10)),
 .op (some 12) none (.ld1 (.t 11)),
 .op (some 13) none (.mv (.t 1)),
 .op (some 14) none (.iad 7 (.t 12) (.t 13)),
 .op (some 15) none (.fad 0 (.t 14)),
 .op (some 16) none (.ldn 2 (.t 15)),
 .op (some 17) none (.mv (.t 0)),
 .op (some 18) none (.nilchk (.t 17)),
 .op (some 19) none (.fad 0 (.t 18)),
 .op (some 20) none (.ld1 (.t 19)),
 .op (some 21) none (.mv (.t 1)),
 .op (some 22) none (.iad 7 (.t 20) (.t 21)),
 .op (some 23) none (.fad 2 (.t 22)),
 .op (some 24) none (.ld1 (.t 23)),
 .op (some 25) none (.build [(.i .u64 0), (.i .u64 0), (.i .i64 0)] [(0, 2, (.t 16)), (2, 1, (.t 24))]),
 .op none none (.st 3 (.t 4) (.t 25)),
 .op (some 5) none (.mv (.c (.b true)))]
 [0, 1, 2, 3, 4, 5, 6, 7, 8, 9, 10, 11, 12, 13, 14, 15, 16, 17, 18] [0, 1, 3, 7, 0, 31, 63, 127, 0, 256, 768, 1792, 0, 7936, 16128, 32512, 65535, 131071, 262143])
 (.ret))),
 [.cn 4 3, .t 5]⟩
def k49 : List Nat := [0, 1, 4, 5, 7]
set_option maxRecDepth 100000 in
theorem c49 : compF Go.Proofs.Try.prog 2 Go.Proofs.Try.f49 = some e49 := by kernel_rfl
/-- slices.pdqsortCmpFunc[sandglass/fifo.item] -/
def e50 : IFunc := ⟨148, 5,
 .seq (.reg [.op (some 10) none (.mv (.c (.b true)))])
 (.seq (.reg [.op (some 11) none (.mv (.c (.b true)))])
 (.block 0
 (.loop
 (.block 1
 (.seq (.reg [.op (some 21) none (.mv (.t 2)),
 .op (some 22) none (.mv (.t 1)),
 .op (some 23) none (.ibin .sub (.t 21) (.t 22)),
 .op (some 12) none (.mv (.t 23))])
 (.seq (.seq (.reg [.op (some 24) none (.mv (.t 12)),
 .op (some 25) none (.ibin .leq (.t 24) (.c (.i .i64 12)))])
 (.cond (.t 25)
 (.seq (.reg [.op (some 26) none (.mv (.t 0)),
 .op (some 27) none (.mv (.t 1)),
 .op (some 28) none (.mv (.t 2)),
 .op (some 29) none (.mv (.t 4)),
 .call (some 30) none (.c (.fn (.func 54) [] [])) [(.t 26), (.t 27), (.t 28), (.t 29)]])
 (.ret))
 (.skip)))
 (.seq (.seq (.reg [.op (some 31) none (.mv (.t 3)),
 .op (some 32) none (.ibin .eql (.t 31) (.c (.i .i64 0)))])
 (.cond (.t 32)
 (.seq (.reg [.op (some 33) none (.mv (.t 0)),
 .op (some 34) none (.mv (.t 1)),
 .op (some 35) none (.mv (.t 2)),
 .op (some 36) none (.mv (.t 4)),
 .call (some 37) none (.c (.fn (.func 55) [] [])) [(.t 33), (.t 34), (.t 35), (.t 36)]])
 (.ret))
 (.skip)))
 (.seq (.seq (.reg [.op (some 38) none (.mv (.t 10)),
 .op (some 39) none (.un .not (.t 38))])
 (.cond (.t 39)
 (.seq (.reg [.op (some 40) none (.mv (.t 0)),
 .op (some 41) none (.mv (.t 1)),
 .op (some 42) none (.mv (.t 2)),
 .op (some 43) none (.mv (.t 4)),
 .call (some 44) none (.c (.fn (.func 56) [] [])) [(.t 40), (.t 41), (.t 42), (.t 43)]])
 (.reg [.op (some 45) none (.mv (.t 3)),
 .op (some 46) none (.ibin .sub (.t 45) (.c (.i .i64 1))),
 .op (some 3) none (.mv (.t 46))]))
 (.skip)))
 (.seq (.reg [.op (some 48) none (.mv (.t 0)),
 .op (some 49) none (.mv (.t 1)),
 .op (some 50) none (.mv (.t 2)),
 .op (some 51) none (.mv (.t 4)),
 .call (some 52) none (.c (.fn (.func 57) [] [])) [(.t 48), (.t 49), (.t 50), (.t 51)],
 .op (some 47) none (.mv (.t 52)),
 .op (some 53) none (.ext (.t 47) 0),
 .op (some 54) none (.ext (.t 47) 1),
 .op (some 13) none (.mv (.t 53)),
 .op (some 14) none (.mv (.t 54))])
 (.seq (.seq (.reg [.op (some 55) none (.mv (.t 14)),
 .op (some 56) none (.ibin .eql (.t 55) (.c (.i .i64 2)))])
 (.cond (.t 56)
 (.seq (.reg [.op (some 57) none (.mv (.t 0)),
 .op (some 58) none (.mv (.t 1)),
 .op (some 59) none (.mv (.t 2)),
 .op (some 60) none (.mv (.t 4)),
 .call (some 61) none (.c (.fn (.func 58) [] [])) [(.t 57), (.t 58), (.t 59), (.t 60)]])
 (.seq (.reg [.op (some 62) none (.mv (.t 2)),
 .op (some 63) none (.ibin .sub (.t 62) (.c (.i .i64 1))),
 .op (some 64) none (.mv (.t 13)),
 .op (some 65) none (.mv (.t 1)),
 .op (some 66) none (.ibin .sub (.t 64) (.t 65)),
 .op (some 67) none (.ibin .sub (.t 63) (.t 66)),
 .op (some 13) none (.mv (.t 67))])
 (.reg [.op (some 14) none (.mv (.c (.i .i64 1)))])))
 (.skip)))
 (.seq (.seq (.reg [.op (some 68) none (.mv (.t 10)),
 .op (some 69) none (.mv (.t 68)),
 .op (some 70) (some (69, true)) (.mv (.t 11)),
 .op (some 71) none (.pick (.t 69) (.t 70) (.c (.b false))),
 .op (some 72) none (.mv (.t 71)),
 .op (some 73) (some (72, true)) (.mv (.t 14)),
 .op (some 74) (some (72, true)) (.ibin .eql (.t 73) (.c (.i .i64 1))),
 .op (some 75) none (.pick (.t 72) (.t 74) (.c (.b false)))])
 (.cond (.t 75)
 (.seq (.reg [.op (some 76) none (.mv (.t 0)),
 .op (some 77) none (.mv (.t 1)),
 .op (some 78) none (.mv (.t 2)),
 .op (some 79) none (.mv (.t 4)),
 .call (some 80) none (.c (.fn (.func 59) [] [])) [(.t 76), (.t 77), (.t 78), (.t 79)]])
 (.cond (.t 80)
 (.ret)
 (.skip)))
 (.skip)))
 (.seq (.seq (.dreg [.op (some 81) none (.mv (.t 1)),
 .op (some 82) none (.ibin .gtr (.t 81) (.c (.i .i64 0))),
 .op (some 83) none (.mv (.t 82)),
 .op (some 84) (some (83, true)) (.mv (.t 4)),
 .op (some 85) (some (83, true)) (.mv (.t 0)),
 .op (some 86) (some (83, true)) (.mv (.t 1)),
 .op (some 87) (some (83, true)) (.ibin .sub (.t 86) (.c (.i .i64 1))),
 .op (some 88) (some (83, true)) (.iad 3 (.t 85) (.t 87)),
 .op (some 89) (some (83, true)) (.ldn 3 (.t 88)),
 .op (some 90) (some (83, true)) (.mv (.t 0)),
 .op (some 91) (some (83, true)) (.mv (.t 13)),
 .op (some 92) (some (83, true)) (.iad 3 (.t 90) (.t 91)),
 .op (some 93) (some (83, true)) (.ldn 3 (.t 92)),
 .call (some 94) (some (83, true)) (.t 84) [(.t 89), (.t 93)],
 .op (some 95) (some (83, true)) (.ibin .lss (.t 94) (.c (.i .i64 0))),
 .op (some 96) (some (83, true)) (.un .not (.t 95)),
 .op (some 97) none (.pick (.t 83) (.t 96) (.c (.b false)))]
 [0, 1, 2, 3, 4, 5, 6, 7, 8, 9, 10, 11, 12, 13, 14, 15, 16] [0, 1, 3, 7, 7, 7, 39, 119, 247, 7, 7, 1543, 3591, 8191, 16383, 32767, 65535])
 (.cond (.t 97)
 (.seq (.reg [.op (some 98) none (.mv (.t 0)),
 .op (some 99) none (.mv (.t 1)),
 .op (some 100) none (.mv (.t 2)),
 .op (some 101) none (.mv (.t 13)),
 .op (some 102) none (.mv (.t 4)),
 .call (some 103) none (.c (.fn (.func 60) [] [])) [(.t 98), (.t 99), (.t 100), (.t 101), (.t 102)],
 .op (some 15) none (.mv (.t 103))])
 (.seq (.reg [.op (some 104) none (.mv (.t 15)),
 .op (some 1) none (.mv (.t 104))])
 (.exit 1)))
 (.skip)))
 (.seq (.reg [.op (some 106) none (.mv (.t 0)),
 .op (some 107) none (.mv (.t 1)),
 .op (some 108) none (.mv (.t 2)),
 .op (some 109) none (.mv (.t 13)),
 .op (some 110) none (.mv (.t 4)),
 .call (some 111) none (.c (.fn (.func 61) [] [])) [(.t 106), (.t 107), (.t 108), (.t 109), (.t 110)],
 .op (some 105) none (.mv (.t 111)),
 .op (some 112) none (.ext (.t 105) 0),
 .op (some 113) none (.ext (.t 105) 1),
 .op (some 16) none (.mv (.t 112)),
 .op (some 17) none (.mv (.t 113))])
 (.seq (.reg [.op (some 114) none (.mv (.t 17)),
 .op (some 11) none (.mv (.t 114))])
 (.seq (.reg [.op (some 115) none (.mv (.t 16)),
 .op (some 116) none (.mv (.t 1)),
 .op (some 117) none (.ibin .sub (.t 115) (.t 116)),
 .op (some 118) none (.mv (.t 2)),
 .op (some 119) none (.mv (.t 16)),
 .op (some 120) none (.ibin .sub (.t 118) (.t 119)),
 .op (some 18) none (.mv (.t 117)),
 .op (some 19) none (.mv (.t 120))])
 (.seq (.reg [.op (some 121) none (.mv (.t 12)),
 .op (some 122) none (.ibin .quo (.t 121) (.c (.i .i64 8))),
 .op (some 20) none (.mv (.t 122))])
 (.seq (.reg [.op (some 123) none (.mv (.t 18)),
 .op (some 124) none (.mv (.t 19)),
 .op (some 125) none (.ibin .lss (.t 123) (.t 124))])
 (.cond (.t 125)
 (.seq (.reg [.op (some 126) none (.mv (.t 18)),
 .op (some 127) none (.mv (.t 20)),
 .op (some 128) none (.ibin .geq (.t 126) (.t 127)),
 .op (some 10) none (.mv (.t 128))])
 (.seq (.reg [.op (some 129) none (.mv (.t 0)),
 .op (some 130) none (.mv (.t 1)),
 .op (some 131) none (.mv (.t 16)),
 .op (some 132) none (.mv (.t 3)),
 .op (some 133) none (.mv (.t 4)),
 .call (some 134) none (.c (.fn (.func 50) [] [])) [(.t 129), (.t 130), (.t 131), (.t 132), (.t 133)]])
 (.reg [.op (some 135) none (.mv (.t 16)),
 .op (some 136) none (.ibin .add (.t 135) (.c (.i .i64 1))),
 .op (some 1) none (.mv (.t 136))])))
 (.seq (.reg [.op (some 137) none (.mv (.t 19)),
 .op (some 138) none (.mv (.t 20)),
 .op (some 139) none (.ibin .geq (.t 137) (.t 138)),
 .op (some 10) none (.mv (.t 139))])
 (.seq (.reg [.op (some 140) none (.mv (.t 0)),
 .op (some 141) none (.mv (.t 16)),
 .op (some 142) none (.ibin .add (.t 141) (.c (.i .i64 1))),
 .op (some 143) none (.mv (.t 2)),
 .op (some 144) none (.mv (.t 3)),
 .op (some 145) none (.mv (.t 4)),
 .call (some 146) none (.c (.fn (.func 50) [] [])) [(.t 140), (.t 142), (.t 143), (.t 144), (.t 145)]])
 (.reg [.op (some 147) none (.mv (.t 16)),
 .op (some 2) none (.mv (.t 147))]))))))))))))))))))))),
 []⟩
def k50 : List Nat := [0, 1, 2, 3, 4, 10, 11, 12, 13, 14, 15, 16, 17, 18, 19, 20, 25, 32, 39, 56, 75, 80, 97, 125]
set_option maxRecDepth 100000 in
theorem c50 : compF Go.Proofs.Try.prog 5 Go.Proofs.Try.f50 = some e50 := by kernel_rfl
/-- math/bits.Len -/
def e51 : IFunc := ⟨8, 1,
 .seq (.reg [.op (some 2) none (.mv (.c (.i .i64 0)))])
 (.seq (.cond (.c (.b false))
 (.seq (.reg [.op (some 3) none (.mv (.t 0)),
 .op (some 4) none (.conv .u32 (.t 3)),
 .call (some 5) none (.c (.fn (.func 62) [] [])) [(.t 4)],
 .op (some 2) none (.mv (.t 5))])
 (.ret))
 (.skip))
 (.seq (.reg [.op (some 6) none (.mv (.t 0)),
 .call (some 7) none (.c (.fn (.func 63) [] [])) [(.t 6)],
 .op (some 2) none (.mv (.t 7))])
 (.ret))),
 [.t 2]⟩
def k51 : List Nat := [0, 2]
set_option maxRecDepth 100000 in
theorem c51 : compF Go.Proofs.Try.prog 1 Go.Proofs.Try.f51 = some e51 := by kernel_rfl
/-- (*sandglass/tree.Tree).side -/
def e52 : IFunc := ⟨23, 2,
 .seq (.reg [.op (some 4) none (.mv (.c (.i .i64 0)))])
 (.seq (.seq (.dreg [.op (some 5) none (.mv (.t 0)),
 .op (some 6) none (.nilchk (.t 5)),
 .op (some 7) none (.fad 0 (.t 6)),
 .op (some 8) none (.ld1 (.t 7)),
 .op (some 9) none (.mv (.t 0)),
 .op (some 10) none (.nilchk (.t 9)),
 .op (some 11) none (.fad 0 (.t 10)),
 .op (some 12) none (.ld1 (.t 11)),
 .op (some 13) none (.mv (.t 1)),
 .op (some 14) none (.iad 7 (.t 12) (.t 13)),
 .op (some 15) none (.fad 5 (.t 14)),
 .op (some 16) none (.ld1 (.t 15)),
 .op (some 17) none (.iad 7 (.t 8) (.t 16)),
 .op (some 18) none (.fad 3 (.t 17)),
 .op (some 19) none (.iada 1 2 (.t 18) (.c (.i .i64 0))),
 .op (some 20) none (.ld1 (.t 19)),
 .op (some 21) none (.mv (.t 1)),
 .op (some 22) none (.ibin .eql (.t 20) (.t 21))]
 [0, 1, 2, 3, 4, 5, 6, 7, 8, 9, 10, 11, 12, 13, 14, 15, 16, 17] [0, 1, 3, 7, 0, 16, 48, 112, 0, 496, 1008, 2032, 4095, 8191, 16383, 32767, 0, 131071])
 (.cond (.t 22)
 (.seq (.reg [.op (some 4) none (.mv (.c (.i .i64 0)))])
 (.ret))
 (.skip)))
 (.seq (.reg [.op (some 4) none (.mv (.c (.i .i64 1)))])
 (.ret))),
 [.t 4]⟩
def k52 : List Nat := [0, 1, 4, 22]
set_option maxRecDepth 100000 in
theorem c52 : compF Go.Proofs.Try.prog 2 Go.Proofs.Try.f52 = some e52 := by kernel_rfl
/-- (*sandglass/tree.Tree).turn -/
def e53 : IFunc := ⟨72, 3,
 .seq (.reg [.op (some 8) none (.mv (.t 0)),
 .op (some 9) none (.nilchk (.t 8)),
 .op (some 10) none (.fad 0 (.t 9)),
 .op (some 11) none (.ld1 (.t 10)),
 .op (some 12) none (.mv (.t 1)),
 .op (some 13) none (.mv (.t 2)),
 .op (some 14) none (.ibin .sub (.c (.i .i64 1)) (.t 13)),
 .op (some 15) none (.iad 7 (.t 11) (.t 12)),
 .op (some 16) none (.fad 3 (.t 15)),
 .op (some 17) none (.iada 1 2 (.t 16) (.t 14)),
 .op (some 18) none (.ld1 (.t 17)),
 .op (some 6) none (.mv (.t 18))])
 (.seq (.reg [.op (some 19) none (.mv (.t 0)),
 .op (some 20) none (.nilchk (.t 19)),
 .op (some 21) none (.fad 0 (.t 20)),
 .op (some 22) none (.ld1 (.t 21)),
 .op (some 23) none (.mv (.t 6)),
 .op (some 24) none (.mv (.t 2)),
 .op (some 25) none (.iad 7 (.t 22) (.t 23)),
 .op (some 26) none (.fad 3 (.t 25)),
 .op (some 27) none (.iada 1 2 (.t 26) (.t 24)),
 .op (some 28) none (.ld1 (.t 27)),
 .op (some 7) none (.mv (.t 28))])
 (.seq (.reg [.op (some 29) none (.mv (.t 0)),
 .op (some 30) none (.mv (.t 6)),
 .op (some 31) none (.mv (.t 1)),
 .call (some 32) none (.c (.fn (.func 46) [] [])) [(.t 29), (.t 30), (.t 31)]])
 (.seq (.reg [.op (some 33) none (.mv (.t 0)),
 .op (some 34) none (.nilchk (.t 33)),
 .op (some 35) none (.fad 0 (.t 34)),
 .op (some 36) none (.ld1 (.t 35)),
 .op (some 37) none (.mv (.t 1)),
 .op (some 38) none (.mv (.t 2)),
 .op (some 39) none (.ibin .sub (.c (.i .i64 1)) (.t 38)),
 .op (some 40) none (.mv (.t 7)),
 .op (some 41) none (.iad 7 (.t 36) (.t 37)),
 .op (some 42) none (.fad 3 (.t 41)),
 .op (some 43) none (.iada 1 2 (.t 42) (.t 39)),
 .op none none (.st 1 (.t 43) (.t 40))])
 (.seq (.seq (.reg [.op (some 44) none (.mv (.t 7)),
 .op (some 45) none (.ibin .neq (.t 44) (.c (.i .i64 0)))])
 (.cond (.t 45)
 (.reg [.op (some 46) none (.mv (.t 0)),
 .op (some 47) none (.nilchk (.t 46)),
 .op (some 48) none (.fad 0 (.t 47)),
 .op (some 49) none (.ld1 (.t 48)),
 .op (some 50) none (.mv (.t 7)),
 .op (some 51) none (.mv (.t 1)),
 .op (some 52) none (.iad 7 (.t 49) (.t 50)),
 .op (some 53) none (.fad 5 (.t 52)),
 .op none none (.st 1 (.t 53) (.t 51))])
 (.skip)))
 (.seq (.reg [.op (some 54) none (.mv (.t 0)),
 .op (some 55) none (.nilchk (.t 54)),
 .op (some 56) none (.fad 0 (.t 55)),
 .op (some 57) none (.ld1 (.t 56)),
 .op (some 58) none (.mv (.t 6)),
 .op (some 59) none (.mv (.t 2)),
 .op (some 60) none (.mv (.t 1)),
 .op (some 61) none (.iad 7 (.t 57) (.t 58)),
 .op (some 62) none (.fad 3 (.t 61)),
 .op (some 63) none (.iada 1 2 (.t 62) (.t 59)),
 .op none none (.st 1 (.t 63) (.t 60))])
 (.reg [.op (some 64) none (.mv (.t 0)),
 .op (some 65) none (.nilchk (.t 64)),
 .op (some 66) none (.fad 0 (.t 65)),
 .op (some 67) none (.ld1 (.t 66)),
 .op (some 68) none (.mv (.t 1)),
 .op (some 69) none (.mv (.t 6)),
 .op (some 70) none (.iad 7 (.t 67) (.t 68)),
 .op (some 71) none (.fad 5 (.t 70)),
 .op none none (.st 1 (.t 71) (.t 69))])))))),
 []⟩
def k53 : List Nat := [0, 1, 2, 6, 7, 45]
set_option maxRecDepth 100000 in
theorem c53 : compF Go.Proofs.Try.prog 3 Go.Proofs.Try.f53 = some e53 := by kernel_rfl
/-- slices.insertionSortCmpFunc[sandglass/fifo.item] -/
def e54 : IFunc := ⟨53, 4,
 .seq (.reg [.op (some 10) none (.mv (.t 1)),
 .op (some 11) none (.ibin .add (.t 10) (.c (.i .i64 1))),
 .op (some 8) none (.mv (.t 11))])
 (.block 0
 (.loop
 (.seq (.seq (.reg [.op (some 12) none (.mv (.t 8)),
 .op (some 13) none (.mv (.t 2)),
 .op (some 14) none (.ibin .lss (.t 12) (.t 13))])
 (.cond (.t 14)
 (.skip)
 (.exit 0)))
 (.seq (.block 1
 (.seq (.reg [.op (some 17) none (.mv (.t 8)),
 .op (some 9) none (.mv (.t 17))])
 (.block 2
 (.loop
 (.seq (.seq (.dreg [.op (some 18) none (.mv (.t 9)),
 .op (some 19) none (.mv (.t 1)),
 .op (some 20) none (.ibin .gtr (.t 18) (.t 19)),
 .op (some 21) none (.mv (.t 20)),
 .op (some 22) (some (21, true)) (.mv (.t 3)),
 .op (some 23) (some (21, true)) (.mv (.t 0)),
 .op (some 24) (some (21, true)) (.mv (.t 9)),
 .op (some 25) (some (21, true)) (.iad 3 (.t 23) (.t 24)),
 .op (some 26) (some (21, true)) (.ldn 3 (.t 25)),
 .op (some 27) (some (21, true)) (.mv (.t 0)),
 .op (some 28) (some (21, true)) (.mv (.t 9)),
 .op (some 29) (some (21, true)) (.ibin .sub (.t 28) (.c (.i .i64 1))),
 .op (some 30) (some (21, true)) (.iad 3 (.t 27) (.t 29)),
 .op (some 31) (some (21, true)) (.ldn 3 (.t 30)),
 .call (some 32) (some (21, true)) (.t 22) [(.t 26), (.t 31)],
 .op (some 33) (some (21, true)) (.ibin .lss (.t 32) (.c (.i .i64 0))),
 .op (some 34) none (.pick (.t 21) (.t 33) (.c (.b false)))]
 [0, 1, 2, 3, 4, 5, 6, 7, 8, 9, 10, 11, 12, 13, 14, 15, 16] [0, 0, 3, 7, 15, 15, 15, 111, 239, 15, 15, 1039, 3599, 7695, 16383, 32767, 65535])
 (.cond (.t 34)
 (.skip)
 (.exit 2)))
 (.seq (.block 3
 (.dreg [.op (some 37) none (.mv (.t 0)),
 .op (some 38) none (.mv (.t 9)),
 .op (some 39) none (.mv (.t 0)),
 .op (some 40) none (.mv (.t 9)),
 .op (some 41) none (.ibin .sub (.t 40) (.c (.i .i64 1))),
 .op (some 42) none (.mv (.t 0)),
 .op (some 43) none (.mv (.t 9)),
 .op (some 44) none (.ibin .sub (.t 43) (.c (.i .i64 1))),
 .op (some 45) none (.iad 3 (.t 42) (.t 44)),
 .op (some 46) none (.ldn 3 (.t 45)),
 .op (some 47) none (.mv (.t 0)),
 .op (some 48) none (.mv (.t 9)),
 .op (some 49) none (.iad 3 (.t 47) (.t 48)),
 .op (some 50) none (.ldn 3 (.t 49)),
 .op (some 51) none (.iad 3 (.t 37) (.t 38)),
 .op none none (.st 3 (.t 51) (.t 46)),
 .op (some 52) none (.iad 3 (.t 39) (.t 41)),
 .op none none (.st 3 (.t 52) (.t 50))]
 [0, 1, 2, 3, 4, 5, 6, 7, 8, 9, 10, 11, 12, 13, 14, 15, 16, 17] [0, 0, 0, 0, 8, 0, 0, 64, 224, 480, 0, 0, 3072, 7168, 16355, 32739, 65535, 131071]))
 (.reg [.op (some 35) none (.mv (.t 9)),
 .op (some 36) none (.ibin .sub (.t 35) (.c (.i .i64 1))),
 .op (some 9) none (.mv (.t 36))])))))))
 (.reg [.op (some 15) none (.mv (.t 8)),
 .op (some 16) none (.ibin .add (.t 15) (.c (.i .i64 1))),
 .op (some 8) none (.mv (.t 16))]))))),
 []⟩
def k54 : List Nat := [0, 1, 2, 3, 8, 9, 14, 34]
set_option maxRecDepth 100000 in
theorem c54 : compF Go.Proofs.Try.prog 4 Go.Proofs.Try.f54 = some e54 := by kernel_rfl
/-- slices.heapSortCmpFunc[sandglass/fifo.item] -/
def e55 : IFunc := ⟨60, 4,
 .seq (.reg [.op (some 13) none (.mv (.t 1)),
 .op (some 8) none (.mv (.t 13))])
 (.seq (.reg [.op (some 9) none (.mv (.c (.i .i64 0)))])
 (.seq (.reg [.op (some 14) none (.mv (.t 2)),
 .op (some 15) none (.mv (.t 1)),
 .op (some 16) none (.ibin .sub (.t 14) (.t 15)),
 .op (some 10) none (.mv (.t 16))])
 (.seq (.seq (.reg [.op (some 17) none (.mv (.t 10)),
 .op (some 18) none (.ibin .sub (.t 17) (.c (.i .i64 1))),
 .op (some 19) none (.ibin .quo (.t 18) (.c (.i .i64 2))),
 .op (some 11) none (.mv (.t 19))])
 (.block 0
 (.loop
 (.seq (.seq (.reg [.op (some 20) none (.mv (.t 11)),
 .op (some 21) none (.ibin .geq (.t 20) (.c (.i .i64 0)))])
 (.cond (.t 21)
 (.skip)
 (.exit 0)))
 (.seq (.block 1
 (.reg [.op (some 24) none (.mv (.t 0)),
 .op (some 25) none (.mv (.t 11)),
 .op (some 26) none (.mv (.t 10)),
 .op (some 27) none (.mv (.t 8)),
 .op (some 28) none (.mv (.t 3)),
 .call (some 29) none (.c (.fn (.func 64) [] [])) [(.t 24), (.t 25), (.t 26), (.t 27), (.t 28)]]))
 (.reg [.op (some 22) none (.mv (.t 11)),
 .op (some 23) none (.ibin .sub (.t 22) (.c (.i .i64 1))),
 .op (some 11) none (.mv (.t 23))]))))))
 (.seq (.reg [.op (some 30) none (.mv (.t 10)),
 .op (some 31) none (.ibin .sub (.t 30) (.c (.i .i64 1))),
 .op (some 12) none (.mv (.t 31))])
 (.block 2
 (.loop
 (.seq (.seq (.reg [.op (some 32) none (.mv (.t 12)),
 .op (some 33) none (.ibin .geq (.t 32) (.c (.i .i64 0)))])
 (.cond (.t 33)
 (.skip)
 (.exit 2)))
 (.seq (.block 3
 (.seq (.dreg [.op (some 36) none (.mv (.t 0)),
 .op (some 37) none (.mv (.t 8)),
 .op (some 38) none (.mv (.t 0)),
 .op (some 39) none (.mv (.t 8)),
 .op (some 40) none (.mv (.t 12)),
 .op (some 41) none (.ibin .add (.t 39) (.t 40)),
 .op (some 42) none (.mv (.t 0)),
 .op (some 43) none (.mv (.t 8)),
 .op (some 44) none (.mv (.t 12)),
 .op (some 45) none (.ibin .add (.t 43) (.t 44)),
 .op (some 46) none (.iad 3 (.t 42) (.t 45)),
 .op (some 47) none (.ldn 3 (.t 46)),
 .op (some 48) none (.mv (.t 0)),
 .op (some 49) none (.mv (.t 8)),
 .op (some 50) none (.iad 3 (.t 48) (.t 49)),
 .op (some 51) none (.ldn 3 (.t 50)),
 .op (some 52) none (.iad 3 (.t 36) (.t 37)),
 .op none none (.st 3 (.t 52) (.t 47)),
 .op (some 53) none (.iad 3 (.t 38) (.t 41)),
 .op none none (.st 3 (.t 53) (.t 51))]
 [0, 1, 2, 3, 4, 5, 6, 7, 8, 9, 10, 11, 12, 13, 14, 15, 16, 17, 18, 19] [0, 0, 0, 0, 0, 24, 0, 0, 0, 384, 960, 1984, 0, 0, 12288, 28672, 65475, 131011, 262143, 524287])
 (.reg [.op (some 54) none (.mv (.t 0)),
 .op (some 55) none (.mv (.t 9)),
 .op (some 56) none (.mv (.t 12)),
 .op (some 57) none (.mv (.t 8)),
 .op (some 58) none (.mv (.t 3)),
 .call (some 59) none (.c (.fn (.func 64) [] [])) [(.t 54), (.t 55), (.t 56), (.t 57), (.t 58)]])))
 (.reg [.op (some 34) none (.mv (.t 12)),
 .op (some 35) none (.ibin .sub (.t 34) (.c (.i .i64 1))),
 .op (some 12) none (.mv (.t 35))]))))))))),
 []⟩
def k55 : List Nat := [0, 1, 2, 3, 8, 9, 10, 11, 12, 21, 33]
set_option maxRecDepth 100000 in
theorem c55 : compF Go.Proofs.Try.prog 4 Go.Proofs.Try.f55 = some e55 := by kernel_rfl
/-- slices.breakPatternsCmpFunc[sandglass/fifo.item] -/
def e56 : IFunc := ⟨67, 4,
 .seq (.reg [.op (some 13) none (.mv (.t 2)),
 .op (some 14) none (.mv (.t 1)),
 .op (some 15) none (.ibin .sub (.t 13) (.t 14)),
 .op (some 8) none (.mv (.t 15))])
 (.seq (.reg [.op (some 16) none (.mv (.t 8)),
 .op (some 17) none (.ibin .geq (.t 16) (.c (.i .i64 8)))])
 (.cond (.t 17)
 (.seq (.reg [.op (some 18) none (.mv (.t 8)),
 .op (some 19) none (.conv .u64 (.t 18)),
 .op (some 9) none (.box (.c (.agg [(.i .u64 0)]))),
 .op none none (.st 1 (.t 9) (.t 19))])
 (.seq (.reg [.op (some 20) none (.mv (.t 8)),
 .call (some 21) none (.c (.fn (.func 65) [] [])) [(.t 20)],
 .op (some 10) none (.mv (.t 21))])
 (.seq (.reg [.op (some 22) none (.mv (.t 1)),
 .op (some 23) none (.mv (.t 8)),
 .op (some 24) none (.ibin .quo (.t 23) (.c (.i .i64 4))),
 .op (some 25) none (.ibin .mul (.t 24) (.c (.i .i64 2))),
 .op (some 26) none (.ibin .add (.t 22) (.t 25)),
 .op (some 27) none (.ibin .sub (.t 26) (.c (.i .i64 1))),
 .op (some 11) none (.mv (.t 27))])
 (.block 0
 (.loop
 (.seq (.seq (.reg [.op (some 28) none (.mv (.t 11)),
 .op (some 29) none (.mv (.t 1)),
 .op (some 30) none (.mv (.t 8)),
 .op (some 31) none (.ibin .quo (.t 30) (.c (.i .i64 4))),
 .op (some 32) none (.ibin .mul (.t 31) (.c (.i .i64 2))),
 .op (some 33) none (.ibin .add (.t 29) (.t 32)),
 .op (some 34) none (.ibin .add (.t 33) (.c (.i .i64 1))),
 .op (some 35) none (.ibin .leq (.t 28) (.t 34))])
 (.cond (.t 35)
 (.skip)
 (.exit 0)))
 (.seq (.block 1
 (.seq (.reg [.call (some 38) none (.c (.fn (.func 66) [] [])) [(.t 9)],
 .op (some 39) none (.mv (.t 10)),
 .op (some 40) none (.ibin .sub (.t 39) (.c (.i .u64 1))),
 .op (some 41) none (.ibin .and (.t 38) (.t 40)),
 .op (some 42) none (.conv .i64 (.t 41)),
 .op (some 12) none (.mv (.t 42))])
 (.seq (.seq (.reg [.op (some 43) none (.mv (.t 12)),
 .op (some 44) none (.mv (.t 8)),
 .op (some 45) none (.ibin .geq (.t 43) (.t 44))])
 (.cond (.t 45)
 (.reg [.op (some 46) none (.mv (.t 12)),
 .op (some 47) none (.mv (.t 8)),
 .op (some 48) none (.ibin .sub (.t 46) (.t 47)),
 .op (some 12) none (.mv (.t 48))])
 (.skip)))
 (.dreg [.op (some 49) none (.mv (.t 0)),
 .op (some 50) none (.mv (.t 11)),
 .op (some 51) none (.mv (.t 0)),
 .op (some 52) none (.mv (.t 1)),
 .op (some 53) none (.mv (.t 12)),
 .op (some 54) none (.ibin .add (.t 52) (.t 53)),
 .op (some 55) none (.mv (.t 0)),
 .op (some 56) none (.mv (.t 1)),
 .op (some 57) none (.mv (.t 12)),
 .op (some 58) none (.ibin .add (.t 56) (.t 57)),
 .op (some 59) none (.iad 3 (.t 55) (.t 58)),
 .op (some 60) none (.ldn 3 (.t 59)),
 .op (some 61) none (.mv (.t 0)),
 .op (some 62) none (.mv (.t 11)),
 .op (some 63) none (.iad 3 (.t 61) (.t 62)),
 .op (some 64) none (.ldn 3 (.t 63)),
 .op (some 65) none (.iad 3 (.t 49) (.t 50)),
 .op none none (.st 3 (.t 65) (.t 60)),
 .op (some 66) none (.iad 3 (.t 51) (.t 54)),
 .op none none (.st 3 (.t 66) (.t 64))]
 [0, 1, 2, 3, 4, 5, 6, 7, 8, 9, 10, 11, 12, 13, 14, 15, 16, 17, 18, 19] [0, 0, 0, 0, 0, 24, 0, 0, 0, 384, 960, 1984, 0, 0, 12288, 28672, 65475, 131011, 262143, 524287]))))
 (.reg [.op (some 36) none (.mv (.t 11)),
 .op (some 37) none (.ibin .add (.t 36) (.c (.i .i64 1))),
 .op (some 11) none (.mv (.t 37))]))))))))
 (.skip))),
 []⟩
def k56 : List Nat := [0, 1, 2, 8, 9, 10, 11, 12, 17, 35, 45]
set_option maxRecDepth 100000 in
theorem c56 : compF Go.Proofs.Try.prog 4 Go.Proofs.Try.f56 = some e56 := by kernel_rfl
/-- slices.choosePivotCmpFunc[sandglass/fifo.item] -/
def e57 : IFunc := ⟨63, 4,
 .seq (.reg [.op (some 8) none (.mv (.c (.i .i64 0))),
 .op (some 9) none (.mv (.c (.i .i64 0)))])
 (.seq (.reg [.op (some 15) none (.mv (.t 2)),
 .op (some 16) none (.mv (.t 1)),
 .op (some 17) none (.ibin .sub (.t 15) (.t 16)),
 .op (some 10) none (.mv (.t 17))])
 (.seq (.reg [.op (some 11) none (.box (.c (.agg [(.i .i64 0)])))])
 (.seq (.reg [.op (some 18) none (.mv (.t 1)),
 .op (some 19) none (.mv (.t 10)),
 .op (some 20) none (.ibin .quo (.t 19) (.c (.i .i64 4))),
 .op (some 21) none (.ibin .mul (.t 20) (.c (.i .i64 1))),
 .op (some 22) none (.ibin .add (.t 18) (.t 21)),
 .op (some 12) none (.mv (.t 22))])
 (.seq (.reg [.op (some 23) none (.mv (.t 1)),
 .op (some 24) none (.mv (.t 10)),
 .op (some 25) none (.ibin .quo (.t 24) (.c (.i .i64 4))),
 .op (some 26) none (.ibin .mul (.t 25) (.c (.i .i64 2))),
 .op (some 27) none (.ibin .add (.t 23) (.t 26)),
 .op (some 13) none (.mv (.t 27))])
 (.seq (.reg [.op (some 28) none (.mv (.t 1)),
 .op (some 29) none (.mv (.t 10)),
 .op (some 30) none (.ibin .quo (.t 29) (.c (.i .i64 4))),
 .op (some 31) none (.ibin .mul (.t 30) (.c (.i .i64 3))),
 .op (some 32) none (.ibin .add (.t 28) (.t 31)),
 .op (some 14) none (.mv (.t 32))])
 (.seq (.seq (.reg [.op (some 33) none (.mv (.t 10)),
 .op (some 34) none (.ibin .geq (.t 33) (.c (.i .i64 8)))])
 (.cond (.t 34)
 (.seq (.seq (.reg [.op (some 35) none (.mv (.t 10)),
 .op (some 36) none (.ibin .geq (.t 35) (.c (.i .i64 50)))])
 (.cond (.t 36)
 (.seq (.reg [.op (some 37) none (.mv (.t 0)),
 .op (some 38) none (.mv (.t 12)),
 .op (some 39) none (.mv (.t 3)),
 .call (some 40) none (.c (.fn (.func 67) [] [])) [(.t 37), (.t 38), (.t 11), (.t 39)],
 .op (some 12) none (.mv (.t 40))])
 (.seq (.reg [.op (some 41) none (.mv (.t 0)),
 .op (some 42) none (.mv (.t 13)),
 .op (some 43) none (.mv (.t 3)),
 .call (some 44) none (.c (.fn (.func 67) [] [])) [(.t 41), (.t 42), (.t 11), (.t 43)],
 .op (some 13) none (.mv (.t 44))])
 (.reg [.op (some 45) none (.mv (.t 0)),
 .op (some 46) none (.mv (.t 14)),
 .op (some 47) none (.mv (.t 3)),
 .call (some 48) none (.c (.fn (.func 67) [] [])) [(.t 45), (.t 46), (.t 11), (.t 47)],
 .op (some 14) none (.mv (.t 48))])))
 (.skip)))
 (.reg [.op (some 49) none (.mv (.t 0)),
 .op (some 50) none (.mv (.t 12)),
 .op (some 51) none (.mv (.t 13)),
 .op (some 52) none (.mv (.t 14)),
 .op (some 53) none (.mv (.t 3)),
 .call (some 54) none (.c (.fn (.func 68) [] [])) [(.t 49), (.t 50), (.t 51), (.t 52), (.t 11), (.t 53)],
 .op (some 13) none (.mv (.t 54))]))
 (.skip)))
 (.seq (.reg [.op (some 55) none (.ld1 (.t 11))])
 (.block 0
 (.seq (.reg [.op (some 58) none (.ibin .eql (.t 55) (.c (.i .i64 0))),
 .op (some 57) none (.mv (.t 58))])
 (.cond (.t 57)
 (.seq (.reg [.op (some 59) none (.mv (.t 13)),
 .op (some 8) none (.mv (.t 59)),
 .op (some 9) none (.mv (.c (.i .i64 1)))])
 (.ret))
 (.seq (.reg [.op (some 61) none (.ibin .eql (.t 55) (.c (.i .i64 12))),
 .op (some 60) none (.mv (.t 61))])
 (.cond (.t 60)
 (.seq (.reg [.op (some 62) none (.mv (.t 13)),
 .op (some 8) none (.mv (.t 62)),
 .op (some 9) none (.mv (.c (.i .i64 2)))])
 (.ret))
 (.seq (.reg [.op (some 56) none (.mv (.t 13)),
 .op (some 8) none (.mv (.t 56)),
 .op (some 9) none (.mv (.c (.i .i64 0)))])
 (.ret)))))))))))))),
 [.t 8, .t 9]⟩
def k57 : List Nat := [0, 1, 2, 3, 8, 9, 10, 11, 12, 13, 14, 34, 36, 55, 57, 60]
set_option maxRecDepth 100000 in
theorem c57 : compF Go.Proofs.Try.prog 4 Go.Proofs.Try.f57 = some e57 := by kernel_rfl
/-- slices.reverseRangeCmpFunc[sandglass/fifo.item] -/
def e58 : IFunc := ⟨34, 4,
 .seq (.reg [.op (some 10) none (.mv (.t 1)),
 .op (some 8) none (.mv (.t 10))])
 (.seq (.reg [.op (some 11) none (.mv (.t 2)),
 .op (some 12) none (.ibin .sub (.t 11) (.c (.i .i64 1))),
 .op (some 9) none (.mv (.t 12))])
 (.block 0
 (.loop
 (.seq (.seq (.reg [.op (some 13) none (.mv (.t 8)),
 .op (some 14) none (.mv (.t 9)),
 .op (some 15) none (.ibin .lss (.t 13) (.t 14))])
 (.cond (.t 15)
 (.skip)
 (.exit 0)))
 (.block 1
 (.seq (.dreg [.op (some 16) none (.mv (.t 0)),
 .op (some 17) none (.mv (.t 8)),
 .op (some 18) none (.mv (.t 0)),
 .op (some 19) none (.mv (.t 9)),
 .op (some 20) none (.mv (.t 0)),
 .op (some 21) none (.mv (.t 9)),
 .op (some 22) none (.iad 3 (.t 20) (.t 21)),
 .op (some 23) none (.ldn 3 (.t 22)),
 .op (some 24) none (.mv (.t 0)),
 .op (some 25) none (.mv (.t 8)),
 .op (some 26) none (.iad 3 (.t 24) (.t 25)),
 .op (some 27) none (.ldn 3 (.t 26)),
 .op (some 28) none (.iad 3 (.t 16) (.t 17)),
 .op none none (.st 3 (.t 28) (.t 23)),
 .op (some 29) none (.iad 3 (.t 18) (.t 19)),
 .op none none (.st 3 (.t 29) (.t 27))]
 [0, 1, 2, 3, 4, 5, 6, 7, 8, 9, 10, 11, 12, 13, 14, 15] [0, 0, 0, 0, 0, 0, 48, 112, 0, 0, 768, 1792, 4083, 8179, 16383, 32767])
 (.seq (.reg [.op (some 30) none (.mv (.t 8)),
 .op (some 31) none (.ibin .add (.t 30) (.c (.i .i64 1))),
 .op (some 8) none (.mv (.t 31))])
 (.reg [.op (some 32) none (.mv (.t 9)),
 .op (some 33) none (.ibin .sub (.t 32) (.c (.i .i64 1))),
 .op (some 9) none (.mv (.t 33))])))))))),
 []⟩
def k58 : List Nat := [0, 1, 2, 8, 9, 15]
set_option maxRecDepth 100000 in
theorem c58 : compF Go.Proofs.Try.prog 4 Go.Proofs.Try.f58 = some e58 := by kernel_rfl
/-- slices.partialInsertionSortCmpFunc[sandglass/fifo.item] -/
def e59 : IFunc := ⟨141, 4,
 .seq (.reg [.op (some 8) none (.mv (.c (.b false)))])
 (.seq (.reg [.op (some 13) none (.mv (.t 1)),
 .op (some 14) none (.ibin .add (.t 13) (.c (.i .i64 1))),
 .op (some 9) none (.mv (.t 14))])
 (.seq (.seq (.reg [.op (some 10) none (.mv (.c (.i .i64 0)))])
 (.block 0
 (.loop
 (.seq (.seq (.reg [.op (some 15) none (.mv (.t 10)),
 .op (some 16) none (.ibin .lss (.t 15) (.c (.i .i64 5)))])
 (.cond (.t 16)
 (.skip)
 (.exit 0)))
 (.seq (.block 1
 (.seq (.block 2
 (.loop
 (.seq (.seq (.dreg [.op (some 19) none (.mv (.t 9)),
 .op (some 20) none (.mv (.t 2)),
 .op (some 21) none (.ibin .lss (.t 19) (.t 20)),
 .op (some 22) none (.mv (.t 21)),
 .op (some 23) (some (22, true)) (.mv (.t 3)),
 .op (some 24) (some (22, true)) (.mv (.t 0)),
 .op (some 25) (some (22, true)) (.mv (.t 9)),
 .op (some 26) (some (22, true)) (.iad 3 (.t 24) (.t 25)),
 .op (some 27) (some (22, true)) (.ldn 3 (.t 26)),
 .op (some 28) (some (22, true)) (.mv (.t 0)),
 .op (some 29) (some (22, true)) (.mv (.t 9)),
 .op (some 30) (some (22, true)) (.ibin .sub (.t 29) (.c (.i .i64 1))),
 .op (some 31) (some (22, true)) (.iad 3 (.t 28) (.t 30)),
 .op (some 32) (some (22, true)) (.ldn 3 (.t 31)),
 .call (some 33) (some (22, true)) (.t 23) [(.t 27), (.t 32)],
 .op (some 34) (some (22, true)) (.ibin .lss (.t 33) (.c (.i .i64 0))),
 .op (some 35) (some (22, true)) (.un .not (.t 34)),
 .op (some 36) none (.pick (.t 22) (.t 35) (.c (.b false)))]
 [0, 1, 2, 3, 4, 5, 6, 7, 8, 9, 10, 11, 12, 13, 14, 15, 16, 17] [0, 0, 3, 7, 15, 15, 15, 111, 239, 15, 15, 1039, 3599, 7695, 16383, 32767, 65535, 131071])
 (.cond (.t 36)
 (.skip)
 (.exit 2)))
 (.block 3
 (.reg [.op (some 37) none (.mv (.t 9)),
 .op (some 38) none (.ibin .add (.t 37) (.c (.i .i64 1))),
 .op (some 9) none (.mv (.t 38))])))))
 (.seq (.seq (.reg [.op (some 39) none (.mv (.t 9)),
 .op (some 40) none (.mv (.t 2)),
 .op (some 41) none (.ibin .eql (.t 39) (.t 40))])
 (.cond (.t 41)
 (.seq (.reg [.op (some 8) none (.mv (.c (.b true)))])
 (.ret))
 (.skip)))
 (.seq (.seq (.reg [.op (some 42) none (.mv (.t 2)),
 .op (some 43) none (.mv (.t 1)),
 .op (some 44) none (.ibin .sub (.t 42) (.t 43)),
 .op (some 45) none (.ibin .lss (.t 44) (.c (.i .i64 50)))])
 (.cond (.t 45)
 (.seq (.reg [.op (some 8) none (.mv (.c (.b false)))])
 (.ret))
 (.skip)))
 (.seq (.dreg [.op (some 46) none (.mv (.t 0)),
 .op (some 47) none (.mv (.t 9)),
 .op (some 48) none (.mv (.t 0)),
 .op (some 49) none (.mv (.t 9)),
 .op (some 50) none (.ibin .sub (.t 49) (.c (.i .i64 1))),
 .op (some 51) none (.mv (.t 0)),
 .op (some 52) none (.mv (.t 9)),
 .op (some 53) none (.ibin .sub (.t 52) (.c (.i .i64 1))),
 .op (some 54) none (.iad 3 (.t 51) (.t 53)),
 .op (some 55) none (.ldn 3 (.t 54)),
 .op (some 56) none (.mv (.t 0)),
 .op (some 57) none (.mv (.t 9)),
 .op (some 58) none (.iad 3 (.t 56) (.t 57)),
 .op (some 59) none (.ldn 3 (.t 58)),
 .op (some 60) none (.iad 3 (.t 46) (.t 47)),
 .op none none (.st 3 (.t 60) (.t 55)),
 .op (some 61) none (.iad 3 (.t 48) (.t 50)),
 .op none none (.st 3 (.t 61) (.t 59))]
 [0, 1, 2, 3, 4, 5, 6, 7, 8, 9, 10, 11, 12, 13, 14, 15, 16, 17] [0, 0, 0, 0, 8, 0, 0, 64, 224, 480, 0, 0, 3072, 7168, 16355, 32739, 65535, 131071])
 (.seq (.seq (.reg [.op (some 62) none (.mv (.t 9)),
 .op (some 63) none (.mv (.t 1)),
 .op (some 64) none (.ibin .sub (.t 62) (.t 63)),
 .op (some 65) none (.ibin .geq (.t 64) (.c (.i .i64 2)))])
 (.cond (.t 65)
 (.seq (.reg [.op (some 66) none (.mv (.t 9)),
 .op (some 67) none (.ibin .sub (.t 66) (.c (.i .i64 1))),
 .op (some 11) none (.mv (.t 67))])
 (.block 4
 (.loop
 (.seq (.seq (.reg [.op (some 68) none (.mv (.t 11)),
 .op (some 69) none (.ibin .geq (.t 68) (.c (.i .i64 1)))])
 (.cond (.t 69)
 (.skip)
 (.exit 4)))
 (.seq (.block 5
 (.seq (.seq (.dreg [.op (some 72) none (.mv (.t 3)),
 .op (some 73) none (.mv (.t 0)),
 .op (some 74) none (.mv (.t 11)),
 .op (some 75) none (.iad 3 (.t 73) (.t 74)),
 .op (some 76) none (.ldn 3 (.t 75)),
 .op (some 77) none (.mv (.t 0)),
 .op (some 78) none (.mv (.t 11)),
 .op (some 79) none (.ibin .sub (.t 78) (.c (.i .i64 1))),
 .op (some 80) none (.iad 3 (.t 77) (.t 79)),
 .op (some 81) none (.ldn 3 (.t 80)),
 .call (some 82) none (.t 72) [(.t 76), (.t 81)],
 .op (some 83) none (.ibin .lss (.t 82) (.c (.i .i64 0))),
 .op (some 84) none (.un .not (.t 83))]
 [0, 1, 2, 3, 4, 5, 6, 7, 8, 9, 10, 11, 12] [0, 0, 0, 6, 14, 0, 0, 64, 224, 480, 1023, 2047, 4095])
 (.cond (.t 84)
 (.exit 4)
 (.skip)))
 (.dreg [.op (some 85) none (.mv (.t 0)),
 .op (some 86) none (.mv (.t 11)),
 .op (some 87) none (.mv (.t 0)),
 .op (some 88) none (.mv (.t 11)),
 .op (some 89) none (.ibin .sub (.t 88) (.c (.i .i64 1))),
 .op (some 90) none (.mv (.t 0)),
 .op (some 91) none (.mv (.t 11)),
 .op (some 92) none (.ibin .sub (.t 91) (.c (.i .i64 1))),
 .op (some 93) none (.iad 3 (.t 90) (.t 92)),
 .op (some 94) none (.ldn 3 (.t 93)),
 .op (some 95) none (.mv (.t 0)),
 .op (some 96) none (.mv (.t 11)),
 .op (some 97) none (.iad 3 (.t 95) (.t 96)),
 .op (some 98) none (.ldn 3 (.t 97)),
 .op (some 99) none (.iad 3 (.t 85) (.t 86)),
 .op none none (.st 3 (.t 99) (.t 94)),
 .op (some 100) none (.iad 3 (.t 87) (.t 89)),
 .op none none (.st 3 (.t 100) (.t 98))]
 [0, 1, 2, 3, 4, 5, 6, 7, 8, 9, 10, 11, 12, 13, 14, 15, 16, 17] [0, 0, 0, 0, 8, 0, 0, 64, 224, 480, 0, 0, 3072, 7168, 16355, 32739, 65535, 131071])))
 (.reg [.op (some 70) none (.mv (.t 11)),
 .op (some 71) none (.ibin .sub (.t 70) (.c (.i .i64 1))),
 .op (some 11) none (.mv (.t 71))]))))))
 (.skip)))
 (.seq (.reg [.op (some 101) none (.mv (.t 2)),
 .op (some 102) none (.mv (.t 9)),
 .op (some 103) none (.ibin .sub (.t 101) (.t 102)),
 .op (some 104) none (.ibin .geq (.t 103) (.c (.i .i64 2)))])
 (.cond (.t 104)
 (.seq (.reg [.op (some 105) none (.mv (.t 9)),
 .op (some 106) none (.ibin .add (.t 105) (.c (.i .i64 1))),
 .op (some 12) none (.mv (.t 106))])
 (.block 6
 (.loop
 (.seq (.seq (.reg [.op (some 107) none (.mv (.t 12)),
 .op (some 108) none (.mv (.t 2)),
 .op (some 109) none (.ibin .lss (.t 107) (.t 108))])
 (.cond (.t 109)
 (.skip)
 (.exit 6)))
 (.seq (.block 7
 (.seq (.seq (.dreg [.op (some 112) none (.mv (.t 3)),
 .op (some 113) none (.mv (.t 0)),
 .op (some 114) none (.mv (.t 12)),
 .op (some 115) none (.iad 3 (.t 113) (.t 114)),
 .op (some 116) none (.ldn 3 (.t 115)),
 .op (some 117) none (.mv (.t 0)),
 .op (some 118) none (.mv (.t 12)),
 .op (some 119) none (.ibin .sub (.t 118) (.c (.i .i64 1))),
 .op (some 120) none (.iad 3 (.t 117) (.t 119)),
 .op (some 121) none (.ldn 3 (.t 120)),
 .call (some 122) none (.t 112) [(.t 116), (.t 121)],
 .op (some 123) none (.ibin .lss (.t 122) (.c (.i .i64 0))),
 .op (some 124) none (.un .not (.t 123))]
 [0, 1, 2, 3, 4, 5, 6, 7, 8, 9, 10, 11, 12] [0, 0, 0, 6, 14, 0, 0, 64, 224, 480, 1023, 2047, 4095])
 (.cond (.t 124)
 (.exit 6)
 (.skip)))
 (.dreg [.op (some 125) none (.mv (.t 0)),
 .op (some 126) none (.mv (.t 12)),
 .op (some 127) none (.mv (.t 0)),
 .op (some 128) none (.mv (.t 12)),
 .op (some 129) none (.ibin .sub (.t 128) (.c (.i .i64 1))),
 .op (some 130) none (.mv (.t 0)),
 .op (some 131) none (.mv (.t 12)),
 .op (some 132) none (.ibin .sub (.t 131) (.c (.i .i64 1))),
 .op (some 133) none (.iad 3 (.t 130) (.t 132)),
 .op (some 134) none (.ldn 3 (.t 133)),
 .op (some 135) none (.mv (.t 0)),
 .op (some 136) none (.mv (.t 12)),
 .op (some 137) none (.iad 3 (.t 135) (.t 136)),
 .op (some 138) none (.ldn 3 (.t 137)),
 .op (some 139) none (.iad 3 (.t 125) (.t 126)),
 .op none none (.st 3 (.t 139) (.t 134)),
 .op (some 140) none (.iad 3 (.t 127) (.t 129)),
 .op none none (.st 3 (.t 140) (.t 138))]
 [0, 1, 2, 3, 4, 5, 6, 7, 8, 9, 10, 11, 12, 13, 14, 15, 16, 17] [0, 0, 0, 0, 8, 0, 0, 64, 224, 480, 0, 0, 3072, 7168, 16355, 32739, 65535, 131071])))
 (.reg [.op (some 110) none (.mv (.t 12)),
 .op (some 111) none (.ibin .add (.t 110) (.c (.i .i64 1))),
 .op (some 12) none (.mv (.t 111))]))))))
 (.skip)))))))))
 (.reg [.op (some 17) none (.mv (.t 10)),
 .op (some 18) none (.ibin .add (.t 17) (.c (.i .i64 1))),
 .op (some 10) none (.mv (.t 18))]))))))
 (.seq (.reg [.op (some 8) none (.mv (.c (.b false)))])
 (.ret)))),
 [.t 8]⟩
def k59 : List Nat := [0, 1, 2, 3, 8, 9, 10, 11, 12, 16, 36, 41, 45, 65, 69, 84, 104, 109, 124]
set_option maxRecDepth 100000 in
theorem c59 : compF Go.Proofs.Try.prog 4 Go.Proofs.Try.f59 = some e59 := by kernel_rfl
/-- slices.partitionCmpFunc[sandglass/fifo.item] -/
def e61 : IFunc := ⟨178, 5,
 .seq (.reg [.op (some 10) none (.mv (.c (.i .i64 0))),
 .op (some 11) none (.mv (.c (.b false)))])
 (.seq (.dreg [.op (some 14) none (.mv (.t 0)),
 .op (some 15) none (.mv (.t 1)),
 .op (some 16) none (.mv (.t 0)),
 .op (some 17) none (.mv (.t 3)),
 .op (some 18) none (.mv (.t 0)),
 .op (some 19) none (.mv (.t 3)),
 .op (some 20) none (.iad 3 (.t 18) (.t 19)),
 .op (some 21) none (.ldn 3 (.t 20)),
 .op (some 22) none (.mv (.t 0)),
 .op (some 23) none (.mv (.t 1)),
 .op (some 24) none (.iad 3 (.t 22) (.t 23)),
 .op (some 25) none (.ldn 3 (.t 24)),
 .op (some 26) none (.iad 3 (.t 14) (.t 15)),
 .op none none (.st 3 (.t 26) (.t 21)),
 .op (some 27) none (.iad 3 (.t 16) (.t 17)),
 .op none none (.st 3 (.t 27) (.t 25))]
 [0, 1, 2, 3, 4, 5, 6, 7, 8, 9, 10, 11, 12, 13, 14, 15] [0, 0, 0, 0, 0, 0, 48, 112, 0, 0, 768, 1792, 4083, 8179, 16383, 32767])
 (.seq (.reg [.op (some 28) none (.mv (.t 1)),
 .op (some 29) none (.ibin .add (.t 28) (.c (.i .i64 1))),
 .op (some 30) none (.mv (.t 2)),
 .op (some 31) none (.ibin .sub (.t 30) (.c (.i .i64 1))),
 .op (some 12) none (.mv (.t 29)),
 .op (some 13) none (.mv (.t 31))])
 (.seq (.block 0
 (.loop
 (.seq (.seq (.dreg [.op (some 32) none (.mv (.t 12)),
 .op (some 33) none (.mv (.t 13)),
 .op (some 34) none (.ibin .leq (.t 32) (.t 33)),
 .op (some 35) none (.mv (.t 34)),
 .op (some 36) (some (35, true)) (.mv (.t 4)),
 .op (some 37) (some (35, true)) (.mv (.t 0)),
 .op (some 38) (some (35, true)) (.mv (.t 12)),
 .op (some 39) (some (35, true)) (.iad 3 (.t 37) (.t 38)),
 .op (some 40) (some (35, true)) (.ldn 3 (.t 39)),
 .op (some 41) (some (35, true)) (.mv (.t 0)),
 .op (some 42) (some (35, true)) (.mv (.t 1)),
 .op (some 43) (some (35, true)) (.iad 3 (.t 41) (.t 42)),
 .op (some 44) (some (35, true)) (.ldn 3 (.t 43)),
 .call (some 45) (some (35, true)) (.t 36) [(.t 40), (.t 44)],
 .op (some 46) (some (35, true)) (.ibin .lss (.t 45) (.c (.i .i64 0))),
 .op (some 47) none (.pick (.t 35) (.t 46) (.c (.b false)))]
 [0, 1, 2, 3, 4, 5, 6, 7, 8, 9, 10, 11, 12, 13, 14, 15] [0, 0, 3, 7, 15, 15, 15, 111, 239, 15, 15, 1551, 3599, 8191, 16383, 32767])
 (.cond (.t 47)
 (.skip)
 (.exit 0)))
 (.block 1
 (.reg [.op (some 48) none (.mv (.t 12)),
 .op (some 49) none (.ibin .add (.t 48) (.c (.i .i64 1))),
 .op (some 12) none (.mv (.t 49))])))))
 (.seq (.block 2
 (.loop
 (.seq (.seq (.dreg [.op (some 50) none (.mv (.t 12)),
 .op (some 51) none (.mv (.t 13)),
 .op (some 52) none (.ibin .leq (.t 50) (.t 51)),
 .op (some 53) none (.mv (.t 52)),
 .op (some 54) (some (53, true)) (.mv (.t 4)),
 .op (some 55) (some (53, true)) (.mv (.t 0)),
 .op (some 56) (some (53, true)) (.mv (.t 13)),
 .op (some 57) (some (53, true)) (.iad 3 (.t 55) (.t 56)),
 .op (some 58) (some (53, true)) (.ldn 3 (.t 57)),
 .op (some 59) (some (53, true)) (.mv (.t 0)),
 .op (some 60) (some (53, true)) (.mv (.t 1)),
 .op (some 61) (some (53, true)) (.iad 3 (.t 59) (.t 60)),
 .op (some 62) (some (53, true)) (.ldn 3 (.t 61)),
 .call (some 63) (some (53, true)) (.t 54) [(.t 58), (.t 62)],
 .op (some 64) (some (53, true)) (.ibin .lss (.t 63) (.c (.i .i64 0))),
 .op (some 65) (some (53, true)) (.un .not (.t 64)),
 .op (some 66) none (.pick (.t 53) (.t 65) (.c (.b false)))]
 [0, 1, 2, 3, 4, 5, 6, 7, 8, 9, 10, 11, 12, 13, 14, 15, 16] [0, 0, 3, 7, 15, 15, 15, 111, 239, 15, 15, 1551, 3599, 8191, 16383, 32767, 65535])
 (.cond (.t 66)
 (.skip)
 (.exit 2)))
 (.block 3
 (.reg [.op (some 67) none (.mv (.t 13)),
 .op (some 68) none (.ibin .sub (.t 67) (.c (.i .i64 1))),
 .op (some 13) none (.mv (.t 68))])))))
 (.seq (.seq (.reg [.op (some 69) none (.mv (.t 12)),
 .op (some 70) none (.mv (.t 13)),
 .op (some 71) none (.ibin .gtr (.t 69) (.t 70))])
 (.cond (.t 71)
 (.seq (.dreg [.op (some 72) none (.mv (.t 0)),
 .op (some 73) none (.mv (.t 13)),
 .op (some 74) none (.mv (.t 0)),
 .op (some 75) none (.mv (.t 1)),
 .op (some 76) none (.mv (.t 0)),
 .op (some 77) none (.mv (.t 1)),
 .op (some 78) none (.iad 3 (.t 76) (.t 77)),
 .op (some 79) none (.ldn 3 (.t 78)),
 .op (some 80) none (.mv (.t 0)),
 .op (some 81) none (.mv (.t 13)),
 .op (some 82) none (.iad 3 (.t 80) (.t 81)),
 .op (some 83) none (.ldn 3 (.t 82)),
 .op (some 84) none (.iad 3 (.t 72) (.t 73)),
 .op none none (.st 3 (.t 84) (.t 79)),
 .op (some 85) none (.iad 3 (.t 74) (.t 75)),
 .op none none (.st 3 (.t 85) (.t 83))]
 [0, 1, 2, 3, 4, 5, 6, 7, 8, 9, 10, 11, 12, 13, 14, 15] [0, 0, 0, 0, 0, 0, 48, 112, 0, 0, 768, 1792, 4083, 8179, 16383, 32767])
 (.seq (.reg [.op (some 86) none (.mv (.t 13)),
 .op (some 10) none (.mv (.t 86)),
 .op (some 11) none (.mv (.c (.b true)))])
 (.ret)))
 (.skip)))
 (.seq (.dreg [.op (some 87) none (.mv (.t 0)),
 .op (some 88) none (.mv (.t 12)),
 .op (some 89) none (.mv (.t 0)),
 .op (some 90) none (.mv (.t 13)),
 .op (some 91) none (.mv (.t 0)),
 .op (some 92) none (.mv (.t 13)),
 .op (some 93) none (.iad 3 (.t 91) (.t 92)),
 .op (some 94) none (.ldn 3 (.t 93)),
 .op (some 95) none (.mv (.t 0)),
 .op (some 96) none (.mv (.t 12)),
 .op (some 97) none (.iad 3 (.t 95) (.t 96)),
 .op (some 98) none (.ldn 3 (.t 97)),
 .op (some 99) none (.iad 3 (.t 87) (.t 88)),
 .op none none (.st 3 (.t 99) (.t 94)),
 .op (some 100) none (.iad 3 (.t 89) (.t 90)),
 .op none none (.st 3 (.t 100) (.t 98))]
 [0, 1, 2, 3, 4, 5, 6, 7, 8, 9, 10, 11, 12, 13, 14, 15] [0, 0, 0, 0, 0, 0, 48, 112, 0, 0, 768, 1792, 4083, 8179, 16383, 32767])
 (.seq (.reg [.op (some 101) none (.mv (.t 12)),
 .op (some 102) none (.ibin .add (.t 101) (.c (.i .i64 1))),
 .op (some 12) none (.mv (.t 102))])
 (.seq (.reg [.op (some 103) none (.mv (.t 13)),
 .op (some 104) none (.ibin .sub (.t 103) (.c (.i .i64 1))),
 .op (some 13) none (.mv (.t 104))])
 (.seq (.block 4
 (.loop
 (.block 5
 (.seq (.block 6
 (.loop
 (.seq (.seq (.dreg [.op (some 105) none (.mv (.t 12)),
 .op (some 106) none (.mv (.t 13)),
 .op (some 107) none (.ibin .leq (.t 105) (.t 106)),
 .op (some 108) none (.mv (.t 107)),
 .op (some 109) (some (108, true)) (.mv (.t 4)),
 .op (some 110) (some (108, true)) (.mv (.t 0)),
 .op (some 111) (some (108, true)) (.mv (.t 12)),
 .op (some 112) (some (108, true)) (.iad 3 (.t 110) (.t 111)),
 .op (some 113) (some (108, true)) (.ldn 3 (.t 112)),
 .op (some 114) (some (108, true)) (.mv (.t 0)),
 .op (some 115) (some (108, true)) (.mv (.t 1)),
 .op (some 116) (some (108, true)) (.iad 3 (.t 114) (.t 115)),
 .op (some 117) (some (108, true)) (.ldn 3 (.t 116)),
 .call (some 118) (some (108, true)) (.t 109) [(.t 113), (.t 117)],
 .op (some 119) (some (108, true)) (.ibin .lss (.t 118) (.c (.i .i64 0))),
 .op (some 120) none (.pick (.t 108) (.t 119) (.c (.b false)))]
 [0, 1, 2, 3, 4, 5, 6, 7, 8, 9, 10, 11, 12, 13, 14, 15] [0, 0, 3, 7, 15, 15, 15, 111, 239, 15, 15, 1551, 3599, 8191, 16383, 32767])
 (.cond (.t 120)
 (.skip)
 (.exit 6)))
 (.block 7
 (.reg [.op (some 121) none (.mv (.t 12)),
 .op (some 122) none (.ibin .add (.t 121) (.c (.i .i64 1))),
 .op (some 12) none (.mv (.t 122))])))))
 (.seq (.block 8
 (.loop
 (.seq (.seq (.dreg [.op (some 123) none (.mv (.t 12)),
 .op (some 124) none (.mv (.t 13)),
 .op (some 125) none (.ibin .leq (.t 123) (.t 124)),
 .op (some 126) none (.mv (.t 125)),
 .op (some 127) (some (126, true)) (.mv (.t 4)),
 .op (some 128) (some (126, true)) (.mv (.t 0)),
 .op (some 129) (some (126, true)) (.mv (.t 13)),
 .op (some 130) (some (126, true)) (.iad 3 (.t 128) (.t 129)),
 .op (some 131) (some (126, true)) (.ldn 3 (.t 130)),
 .op (some 132) (some (126, true)) (.mv (.t 0)),
 .op (some 133) (some (126, true)) (.mv (.t 1)),
 .op (some 134) (some (126, true)) (.iad 3 (.t 132) (.t 133)),
 .op (some 135) (some (126, true)) (.ldn 3 (.t 134)),
 .call (some 136) (some (126, true)) (.t 127) [(.t 131), (.t 135)],
 .op (some 137) (some (126, true)) (.ibin .lss (.t 136) (.c (.i .i64 0))),
 .op (some 138) (some (126, true)) (.un .not (.t 137)),
 .op (some 139) none (.pick (.t 126) (.t 138) (.c (.b false)))]
 [0, 1, 2, 3, 4, 5, 6, 7, 8, 9, 10, 11, 12, 13, 14, 15, 16] [0, 0, 3, 7, 15, 15, 15, 111, 239, 15, 15, 1551, 3599, 8191, 16383, 32767, 65535])
 (.cond (.t 139)
 (.skip)
 (.exit 8)))
 (.block 9
 (.reg [.op (some 140) none (.mv (.t 13)),
 .op (some 141) none (.ibin .sub (.t 140) (.c (.i .i64 1))),
 .op (some 13) none (.mv (.t 141))])))))
 (.seq (.seq (.reg [.op (some 142) none (.mv (.t 12)),
 .op (some 143) none (.mv (.t 13)),
 .op (some 144) none (.ibin .gtr (.t 142) (.t 143))])
 (.cond (.t 144)
 (.exit 4)
 (.skip)))
 (.seq (.dreg [.op (some 145) none (.mv (.t 0)),
 .op (some 146) none (.mv (.t 12)),
 .op (some 147) none (.mv (.t 0)),
 .op (some 148) none (.mv (.t 13)),
 .op (some 149) none (.mv (.t 0)),
 .op (some 150) none (.mv (.t 13)),
 .op (some 151) none (.iad 3 (.t 149) (.t 150)),
 .op (some 152) none (.ldn 3 (.t 151)),
 .op (some 153) none (.mv (.t 0)),
 .op (some 154) none (.mv (.t 12)),
 .op (some 155) none (.iad 3 (.t 153) (.t 154)),
 .op (some 156) none (.ldn 3 (.t 155)),
 .op (some 157) none (.iad 3 (.t 145) (.t 146)),
 .op none none (.st 3 (.t 157) (.t 152)),
 .op (some 158) none (.iad 3 (.t 147) (.t 148)),
 .op none none (.st 3 (.t 158) (.t 156))]
 [0, 1, 2, 3, 4, 5, 6, 7, 8, 9, 10, 11, 12, 13, 14, 15] [0, 0, 0, 0, 0, 0, 48, 112, 0, 0, 768, 1792, 4083, 8179, 16383, 32767])
 (.seq (.reg [.op (some 159) none (.mv (.t 12)),
 .op (some 160) none (.ibin .add (.t 159) (.c (.i .i64 1))),
 .op (some 12) none (.mv (.t 160))])
 (.reg [.op (some 161) none (.mv (.t 13)),
 .op (some 162) none (.ibin .sub (.t 161) (.c (.i .i64 1))),
 .op (some 13) none (.mv (.t 162))])))))))))
 (.seq (.dreg [.op (some 163) none (.mv (.t 0)),
 .op (some 164) none (.mv (.t 13)),
 .op (some 165) none (.mv (.t 0)),
 .op (some 166) none (.mv (.t 1)),
 .op (some 167) none (.mv (.t 0)),
 .op (some 168) none (.mv (.t 1)),
 .op (some 169) none (.iad 3 (.t 167) (.t 168)),
 .op (some 170) none (.ldn 3 (.t 169)),
 .op (some 171) none (.mv (.t 0)),
 .op (some 172) none (.mv (.t 13)),
 .op (some 173) none (.iad 3 (.t 171) (.t 172)),
 .op (some 174) none (.ldn 3 (.t 173)),
 .op (some 175) none (.iad 3 (.t 163) (.t 164)),
 .op none none (.st 3 (.t 175) (.t 170)),
 .op (some 176) none (.iad 3 (.t 165) (.t 166)),
 .op none none (.st 3 (.t 176) (.t 174))]
 [0, 1, 2, 3, 4, 5, 6, 7, 8, 9, 10, 11, 12, 13, 14, 15] [0, 0, 0, 0, 0, 0, 48, 112, 0, 0, 768, 1792, 4083, 8179, 16383, 32767])
 (.seq (.reg [.op (some 177) none (.mv (.t 13)),
 .op (some 10) none (.mv (.t 177)),
 .op (some 11) none (.mv (.c (.b false)))])
 (.ret)))))))))))),
 [.t 10, .t 11]⟩
def k61 : List Nat := [0, 1, 2, 3, 4, 10, 11, 12, 13, 47, 66, 71, 120, 139, 144]
set_option maxRecDepth 100000 in
theorem c61 : compF Go.Proofs.Try.prog 5 Go.Proofs.Try.f61 = some e61 := by kernel_rfl
/-- math/bits.Len32 -/
def e62 : IFunc := ⟨19, 1,
 .seq (.reg [.op (some 2) none (.mv (.c (.i .i64 0)))])
 (.seq (.seq (.reg [.op (some 3) none (.mv (.t 0)),
 .op (some 4) none (.ibin .geq (.t 3) (.c (.i .u32 65536)))])
 (.cond (.t 4)
 (.seq (.reg [.op (some 5) none (.mv (.t 0)),
 .op (some 6) none (.ibin .shr (.t 5) (.c (.i .u64 16))),
 .op (some 0) none (.mv (.t 6))])
 (.reg [.op (some 2) none (.mv (.c (.i .i64 16)))]))
 (.skip)))
 (.seq (.seq (.reg [.op (some 7) none (.mv (.t 0)),
 .op (some 8) none (.ibin .geq (.t 7) (.c (.i .u32 256)))])
 (.cond (.t 8)
 (.seq (.reg [.op (some 9) none (.mv (.t 0)),
 .op (some 10) none (.ibin .shr (.t 9) (.c (.i .u64 8))),
 .op (some 0) none (.mv (.t 10))])
 (.reg [.op (some 11) none (.mv (.t 2)),
 .op (some 12) none (.ibin .add (.t 11) (.c (.i .i64 8))),
 .op (some 2) none (.mv (.t 12))]))
 (.skip)))
 (.seq (.reg [.op (some 13) none (.mv (.t 2)),
 .op (some 14) none (.mv (.t 0)),
 .op (some 15) none (.conv .u8 (.t 14)),
 .op (some 16) none (.ixs (.c (.s ⟨#[0, 1, 2, 2, 3, 3, 3, 3, 4, 4, 4, 4, 4, 4, 4, 4, 5, 5, 5, 5, 5, 5, 5, 5, 5, 5, 5, 5, 5, 5, 5, 5, 6, 6, 6, 6, 6, 6, 6, 6, 6, 6, 6, 6, 6, 6, 6, 6, 6, 6, 6, 6, 6, 6, 6, 6, 6, 6, 6, 6, 6, 6, 6, 6, 7, 7, 7, 7, 7, 7, 7, 7, 7, 7, 7, 7, 7, 7, 7, 7, 7, 7, 7, 7, 7, 7, 7, 7, 7, 7, 7, 7, 7, 7, 7, 7, 7, 7, 7, 7, 7, 7, 7, 7, 7, 7, 7, 7, 7, 7, 7, 7, 7, 7, 7, 7, 7, 7, 7, 7, 7, 7, 7, 7, 7, 7, 7, 7, 8, 8, 8, 8, 8, 8, 8, 8, 8, 8, 8, 8, 8, 8, 8, 8, 8, 8, 8, 8, 8, 8, 8, 8, 8, 8, 8, 8, 8, 8, 8, 8, 8, 8, 8, 8, 8, 8, 8, 8, 8, 8, 8, 8, 8, 8, 8, 8, 8, 8, 8, 8, 8, 8, 8, 8, 8, 8, 8, 8, 8, 8, 8, 8, 8, 8, 8, 8, 8, 8, 8, 8, 8, 8, 8, 8, 8, 8, 8, 8, 8, 8, 8, 8, 8, 8, 8, 8, 8, 8, 8, 8, 8, 8, 8, 8, 8, 8, 8, 8, 8, 8, 8, 8, 8, 8, 8, 8, 8, 8, 8, 8, 8, 8, 8, 8, 8, 8, 8, 8, 8, 8, 8, 8, 8, 8, 8, 8]⟩)) (.t 15)),
 .op (some 17) none (.conv .i64 (.t 16)),
 .op (some 18) none (.ibin .add (.t 13) (.t 17)),
 .op (some 2) none (.mv (.t 18))])
 (.ret)))),
 [.t 2]⟩
def k62 : List Nat := [0, 2, 4, 8]
set_option maxRecDepth 100000 in
theorem c62 : compF Go.Proofs.Try.prog 1 Go.Proofs.Try.f62 = some e62 := by kernel_rfl
/-- math/bits.Len64 -/
def e63 : IFunc := ⟨25, 1,
 .seq (.reg [.op (some 2) none (.mv (.c (.i .i64 0)))])
 (.seq (.seq (.reg [.op (some 3) none (.mv (.t 0)),
 .op (some 4) none (.ibin .geq (.t 3) (.c (.i .u64 4294967296)))])
 (.cond (.t 4)
 (.seq (.reg [.op (some 5) none (.mv (.t 0)),
 .op (some 6) none (.ibin .shr (.t 5) (.c (.i .u64 32))),
 .op (some 0) none (.mv (.t 6))])
 (.reg [.op (some 2) none (.mv (.c (.i .i64 32)))]))
 (.skip)))
 (.seq (.seq (.reg [.op (some 7) none (.mv (.t 0)),
 .op (some 8) none (.ibin .geq (.t 7) (.c (.i .u64 65536)))])
 (.cond (.t 8)
 (.seq (.reg [.op (some 9) none (.mv (.t 0)),
 .op (some 10) none (.ibin .shr (.t 9) (.c (.i .u64 16))),
 .op (some 0) none (.mv (.t 10))])
 (.reg [.op (some 11) none (.mv (.t 2)),
 .op (some 12) none (.ibin .add (.t 11) (.c (.i .i64 16))),
 .op (some 2) none (.mv (.t 12))]))
 (.skip)))
 (.seq (.seq (.reg [.op (some 13) none (.mv (.t 0)),
 .op (some 14) none (.ibin .geq (.t 13) (.c (.i .u64 256)))])
 (.cond (.t 14)
 (.seq (.reg [.op (some 15) none (.mv (.t 0)),
 .op (some 16) none (.ibin .shr (.t 15) (.c (.i .u64 8))),
 .op (some 0) none (.mv (.t 16))])
 (.reg [.op (some 17) none (.mv (.t 2)),
 .op (some 18) none (.ibin .add (.t 17) (.c (.i .i64 8))),
 .op (some 2) none (.mv (.t 18))]))
 (.skip)))
 (.seq (.reg [.op (some 19) none (.mv (.t 2)),
 .op (some 20) none (.mv (.t 0)),
 .op (some 21) none (.conv .u8 (.t 20)),
 .op (some 22) none (.ixs (.c (.s ⟨#[0, 1, 2, 2, 3, 3, 3, 3, 4, 4, 4, 4, 4, 4, 4, 4, 5, 5, 5, 5, 5, 5, 5, 5, 5, 5, 5, 5, 5, 5, 5, 5, 6, 6, 6, 6, 6, 6, 6, 6, 6, 6, 6, 6, 6, 6, 6, 6, 6, 6, 6, 6, 6, 6, 6, 6, 6, 6, 6, 6, 6, 6, 6, 6, 7, 7, 7, 7, 7, 7, 7, 7, 7, 7, 7, 7, 7, 7, 7, 7, 7, 7, 7, 7, 7, 7, 7, 7, 7, 7, 7, 7, 7, 7, 7, 7, 7, 7, 7, 7, 7, 7, 7, 7, 7, 7, 7, 7, 7, 7, 7, 7, 7, 7, 7, 7, 7, 7, 7, 7, 7, 7, 7, 7, 7, 7, 7, 7, 8, 8, 8, 8, 8, 8, 8, 8, 8, 8, 8, 8, 8, 8, 8, 8, 8, 8, 8, 8, 8, 8, 8, 8, 8, 8, 8, 8, 8, 8, 8, 8, 8, 8, 8, 8, 8, 8, 8, 8, 8, 8, 8, 8, 8, 8, 8, 8, 8, 8, 8, 8, 8, 8, 8, 8, 8, 8, 8, 8, 8, 8, 8, 8, 8, 8, 8, 8, 8, 8, 8, 8, 8, 8, 8, 8, 8, 8, 8, 8, 8, 8, 8, 8, 8, 8, 8, 8, 8, 8, 8, 8, 8, 8, 8, 8, 8, 8, 8, 8, 8, 8, 8, 8, 8, 8, 8, 8, 8, 8, 8, 8, 8, 8, 8, 8, 8, 8, 8, 8, 8, 8, 8, 8, 8, 8, 8, 8]⟩)) (.t 21)),
 .op (some 23) none (.conv .i64 (.t 22)),
 .op (some 24) none (.ibin .add (.t 19) (.t 23)),
 .op (some 2) none (.mv (.t 24))])
 (.ret))))),
 [.t 2]⟩
def k63 : List Nat := [0, 2, 4, 8, 14]
set_option maxRecDepth 100000 in
theorem c63 : compF Go.Proofs.Try.prog 1 Go.Proofs.Try.f63 = some e63 := by kernel_rfl
/-- slices.siftDownCmpFunc[sandglass/fifo.item] -/
def e64 : IFunc := ⟨82, 5,
 .seq (.reg [.op (some 12) none (.mv (.t 1)),
 .op (some 10) none (.mv (.t 12))])
 (.block 0
 (.loop
 (.block 1
 (.seq (.reg [.op (some 13) none (.mv (.t 10)),
 .op (some 14) none (.ibin .mul (.c (.i .i64 2)) (.t 13)),
 .op (some 15) none (.ibin .add (.t 14) (.c (.i .i64 1))),
 .op (some 11) none (.mv (.t 15))])
 (.seq (.seq (.reg [.op (some 16) none (.mv (.t 11)),
 .op (some 17) none (.mv (.t 2)),
 .op (some 18) none (.ibin .geq (.t 16) (.t 17))])
 (.cond (.t 18)
 (.exit 0)
 (.skip)))
 (.seq (.seq (.dreg [.op (some 19) none (.mv (.t 11)),
 .op (some 20) none (.ibin .add (.t 19) (.c (.i .i64 1))),
 .op (some 21) none (.mv (.t 2)),
 .op (some 22) none (.ibin .lss (.t 20) (.t 21)),
 .op (some 23) none (.mv (.t 22)),
 .op (some 24) (some (23, true)) (.mv (.t 4)),
 .op (some 25) (some (23, true)) (.mv (.t 0)),
 .op (some 26) (some (23, true)) (.mv (.t 3)),
 .op (some 27) (some (23, true)) (.mv (.t 11)),
 .op (some 28) (some (23, true)) (.ibin .add (.t 26) (.t 27)),
 .op (some 29) (some (23, true)) (.iad 3 (.t 25) (.t 28)),
 .op (some 30) (some (23, true)) (.ldn 3 (.t 29)),
 .op (some 31) (some (23, true)) (.mv (.t 0)),
 .op (some 32) (some (23, true)) (.mv (.t 3)),
 .op (some 33) (some (23, true)) (.mv (.t 11)),
 .op (some 34) (some (23, true)) (.ibin .add (.t 32) (.t 33)),
 .op (some 35) (some (23, true)) (.ibin .add (.t 34) (.c (.i .i64 1))),
 .op (some 36) (some (23, true)) (.iad 3 (.t 31) (.t 35)),
 .op (some 37) (some (23, true)) (.ldn 3 (.t 36)),
 .call (some 38) (some (23, true)) (.t 24) [(.t 30), (.t 37)],
 .op (some 39) (some (23, true)) (.ibin .lss (.t 38) (.c (.i .i64 0))),
 .op (some 40) none (.pick (.t 23) (.t 39) (.c (.b false)))]
 [0, 1, 2, 3, 4, 5, 6, 7, 8, 9, 10, 11, 12, 13, 14, 15, 16, 17, 18, 19, 20, 21] [0, 1, 0, 7, 15, 31, 31, 31, 31, 415, 991, 2015, 31, 31, 31, 24607, 57375, 127007, 258079, 524287, 1048575, 2097151])
 (.cond (.t 40)
 (.reg [.op (some 41) none (.mv (.t 11)),
 .op (some 42) none (.ibin .add (.t 41) (.c (.i .i64 1))),
 .op (some 11) none (.mv (.t 42))])
 (.skip)))
 (.seq (.seq (.dreg [.op (some 43) none (.mv (.t 4)),
 .op (some 44) none (.mv (.t 0)),
 .op (some 45) none (.mv (.t 3)),
 .op (some 46) none (.mv (.t 10)),
 .op (some 47) none (.ibin .add (.t 45) (.t 46)),
 .op (some 48) none (.iad 3 (.t 44) (.t 47)),
 .op (some 49) none (.ldn 3 (.t 48)),
 .op (some 50) none (.mv (.t 0)),
 .op (some 51) none (.mv (.t 3)),
 .op (some 52) none (.mv (.t 11)),
 .op (some 53) none (.ibin .add (.t 51) (.t 52)),
 .op (some 54) none (.iad 3 (.t 50) (.t 53)),
 .op (some 55) none (.ldn 3 (.t 54)),
 .call (some 56) none (.t 43) [(.t 49), (.t 55)],
 .op (some 57) none (.ibin .lss (.t 56) (.c (.i .i64 0))),
 .op (some 58) none (.un .not (.t 57))]
 [0, 1, 2, 3, 4, 5, 6, 7, 8, 9, 10, 11, 12, 13, 14, 15] [0, 0, 0, 0, 12, 30, 62, 0, 0, 0, 768, 1920, 3968, 8191, 16383, 32767])
 (.cond (.t 58)
 (.ret)
 (.skip)))
 (.seq (.dreg [.op (some 59) none (.mv (.t 0)),
 .op (some 60) none (.mv (.t 3)),
 .op (some 61) none (.mv (.t 10)),
 .op (some 62) none (.ibin .add (.t 60) (.t 61)),
 .op (some 63) none (.mv (.t 0)),
 .op (some 64) none (.mv (.t 3)),
 .op (some 65) none (.mv (.t 11)),
 .op (some 66) none (.ibin .add (.t 64) (.t 65)),
 .op (some 67) none (.mv (.t 0)),
 .op (some 68) none (.mv (.t 3)),
 .op (some 69) none (.mv (.t 11)),
 .op (some 70) none (.ibin .add (.t 68) (.t 69)),
 .op (some 71) none (.iad 3 (.t 67) (.t 70)),
 .op (some 72) none (.ldn 3 (.t 71)),
 .op (some 73) none (.mv (.t 0)),
 .op (some 74) none (.mv (.t 3)),
 .op (some 75) none (.mv (.t 10)),
 .op (some 76) none (.ibin .add (.t 74) (.t 75)),
 .op (some 77) none (.iad 3 (.t 73) (.t 76)),
 .op (some 78) none (.ldn 3 (.t 77)),
 .op (some 79) none (.iad 3 (.t 59) (.t 62)),
 .op none none (.st 3 (.t 79) (.t 72)),
 .op (some 80) none (.iad 3 (.t 63) (.t 66)),
 .op none none (.st 3 (.t 80) (.t 78))]
 [0, 1, 2, 3, 4, 5, 6, 7, 8, 9, 10, 11, 12, 13, 14, 15, 16, 17, 18, 19, 20, 21, 22, 23] [0, 0, 0, 6, 0, 0, 0, 96, 0, 0, 0, 1536, 3840, 7936, 0, 0, 0, 98304, 245760, 507904, 1048335, 2096911, 4194303, 8388607])
 (.reg [.op (some 81) none (.mv (.t 11)),
 .op (some 10) none (.mv (.t 81))]))))))))),
 []⟩
def k64 : List Nat := [0, 1, 2, 3, 4, 10, 11, 18, 40, 58]
set_option maxRecDepth 100000 in
theorem c64 : compF Go.Proofs.Try.prog 5 Go.Proofs.Try.f64 = some e64 := by kernel_rfl
/-- slices.nextPowerOfTwo -/
def e65 : IFunc := ⟨7, 1,
 .seq (.reg [.op (some 2) none (.mv (.c (.i .u64 0)))])
 (.seq (.reg [.op (some 3) none (.mv (.t 0)),
 .op (some 4) none (.conv .u64 (.t 3)),
 .call (some 5) none (.c (.fn (.func 51) [] [])) [(.t 4)],
 .op (some 6) none (.ibin .shl (.c (.i .u64 1)) (.t 5)),
 .op (some 2) none (.mv (.t 6))])
 (.ret)),
 [.t 2]⟩
def k65 : List Nat := [0, 2]
set_option maxRecDepth 100000 in
theorem c65 : compF Go.Proofs.Try.prog 1 Go.Proofs.Try.f65 = some e65 := by kernel_rfl
/-- (*slices.xorshift).Next -/
def e66 : IFunc := ⟨33, 1,
 .seq (.reg [.op (some 2) none (.mv (.c (.i .u64 0)))])
 (.seq (.dreg [.op (some 3) none (.mv (.t 0)),
 .op (some 4) none (.nilchk (.t 3)),
 .op (some 5) none (.ld1 (.t 4)),
 .op (some 6) none (.mv (.t 0)),
 .op (some 7) none (.nilchk (.t 6)),
 .op (some 8) none (.ld1 (.t 7)),
 .op (some 9) none (.ibin .shl (.t 8) (.c (.i .u64 13))),
 .op (some 10) none (.ibin .xor (.t 5) (.t 9)),
 .op (some 11) none (.nilchk (.t 3)),
 .op none none (.st 1 (.t 11) (.t 10))]
 [0, 1, 2, 3, 4, 5, 6, 7, 8, 9] [0, 1, 3, 0, 8, 24, 56, 127, 255, 511])
 (.seq (.dreg [.op (some 12) none (.mv (.t 0)),
 .op (some 13) none (.nilchk (.t 12)),
 .op (some 14) none (.ld1 (.t 13)),
 .op (some 15) none (.mv (.t 0)),
 .op (some 16) none (.nilchk (.t 15)),
 .op (some 17) none (.ld1 (.t 16)),
 .op (some 18) none (.ibin .shr (.t 17) (.c (.i .u64 7))),
 .op (some 19) none (.ibin .xor (.t 14) (.t 18)),
 .op (some 20) none (.nilchk (.t 12)),
 .op none none (.st 1 (.t 20) (.t 19))]
 [0, 1, 2, 3, 4, 5, 6, 7, 8, 9] [0, 1, 3, 0, 8, 24, 56, 127, 255, 511])
 (.seq (.dreg [.op (some 21) none (.mv (.t 0)),
 .op (some 22) none (.nilchk (.t 21)),
 .op (some 23) none (.ld1 (.t 22)),
 .op (some 24) none (.mv (.t 0)),
 .op (some 25) none (.nilchk (.t 24)),
 .op (some 26) none (.ld1 (.t 25)),
 .op (some 27) none (.ibin .shl (.t 26) (.c (.i .u64 17))),
 .op (some 28) none (.ibin .xor (.t 23) (.t 27)),
 .op (some 29) none (.nilchk (.t 21)),
 .op none none (.st 1 (.t 29) (.t 28))]
 [0, 1, 2, 3, 4, 5, 6, 7, 8, 9] [0, 1, 3, 0, 8, 24, 56, 127, 255, 511])
 (.seq (.reg [.op (some 30) none (.mv (.t 0)),
 .op (some 31) none (.nilchk (.t 30)),
 .op (some 32) none (.ld1 (.t 31)),
 .op (some 2) none (.mv (.t 32))])
 (.ret))))),
 [.t 2]⟩
def k66 : List Nat := [0, 2]
set_option maxRecDepth 100000 in
theorem c66 : compF Go.Proofs.Try.prog 1 Go.Proofs.Try.f66 = some e66 := by kernel_rfl
/-- slices.medianAdjacentCmpFunc[sandglass/fifo.item] -/
def e67 : IFunc := ⟨18, 4,
 .seq (.reg [.op (some 8) none (.mv (.c (.i .i64 0)))])
 (.seq (.reg [.op (some 9) none (.mv (.t 0)),
 .op (some 10) none (.mv (.t 1)),
 .op (some 11) none (.ibin .sub (.t 10) (.c (.i .i64 1))),
 .op (some 12) none (.mv (.t 1)),
 .op (some 13) none (.mv (.t 1)),
 .op (some 14) none (.ibin .add (.t 13) (.c (.i .i64 1))),
 .op (some 15) none (.mv (.t 2)),
 .op (some 16) none (.mv (.t 3)),
 .call (some 17) none (.c (.fn (.func 68) [] [])) [(.t 9), (.t 11), (.t 12), (.t 14), (.t 15), (.t 16)],
 .op (some 8) none (.mv (.t 17))])
 (.ret)),
 [.t 8]⟩
def k67 : List Nat := [0, 1, 2, 3, 8]
set_option maxRecDepth 100000 in
theorem c67 : compF Go.Proofs.Try.prog 4 Go.Proofs.Try.f67 = some e67 := by kernel_rfl
/-- slices.medianCmpFunc[sandglass/fifo.item] -/
def e68 : IFunc := ⟨41, 6,
 .seq (.reg [.op (some 12) none (.mv (.c (.i .i64 0)))])
 (.seq (.reg [.op (some 14) none (.mv (.t 0)),
 .op (some 15) none (.mv (.t 1)),
 .op (some 16) none (.mv (.t 2)),
 .op (some 17) none (.mv (.t 4)),
 .op (some 18) none (.mv (.t 5)),
 .call (some 19) none (.c (.fn (.func 69) [] [])) [(.t 14), (.t 15), (.t 16), (.t 17), (.t 18)],
 .op (some 13) none (.mv (.t 19)),
 .op (some 20) none (.ext (.t 13) 0),
 .op (some 21) none (.ext (.t 13) 1),
 .op (some 1) none (.mv (.t 20)),
 .op (some 2) none (.mv (.t 21))])
 (.seq (.reg [.op (some 23) none (.mv (.t 0)),
 .op (some 24) none (.mv (.t 2)),
 .op (some 25) none (.mv (.t 3)),
 .op (some 26) none (.mv (.t 4)),
 .op (some 27) none (.mv (.t 5)),
 .call (some 28) none (.c (.fn (.func 69) [] [])) [(.t 23), (.t 24), (.t 25), (.t 26), (.t 27)],
 .op (some 22) none (.mv (.t 28)),
 .op (some 29) none (.ext (.t 22) 0),
 .op (some 30) none (.ext (.t 22) 1),
 .op (some 2) none (.mv (.t 29)),
 .op (some 3) none (.mv (.t 30))])
 (.seq (.reg [.op (some 32) none (.mv (.t 0)),
 .op (some 33) none (.mv (.t 1)),
 .op (some 34) none (.mv (.t 2)),
 .op (some 35) none (.mv (.t 4)),
 .op (some 36) none (.mv (.t 5)),
 .call (some 37) none (.c (.fn (.func 69) [] [])) [(.t 32), (.t 33), (.t 34), (.t 35), (.t 36)],
 .op (some 31) none (.mv (.t 37)),
 .op (some 38) none (.ext (.t 31) 0),
 .op (some 39) none (.ext (.t 31) 1),
 .op (some 1) none (.mv (.t 38)),
 .op (some 2) none (.mv (.t 39))])
 (.seq (.reg [.op (some 40) none (.mv (.t 2)),
 .op (some 12) none (.mv (.t 40))])
 (.ret))))),
 [.t 12]⟩
def k68 : List Nat := [0, 1, 2, 3, 4, 5, 12]
set_option maxRecDepth 100000 in
theorem c68 : compF Go.Proofs.Try.prog 6 Go.Proofs.Try.f68 = some e68 := by kernel_rfl
/-- slices.order2CmpFunc[sandglass/fifo.item] -/
def e69 : IFunc := ⟨32, 5,
 .seq (.reg [.op (some 10) none (.mv (.c (.i .i64 0))),
 .op (some 11) none (.mv (.c (.i .i64 0)))])
 (.seq (.seq (.dreg [.op (some 12) none (.mv (.t 4)),
 .op (some 13) none (.mv (.t 0)),
 .op (some 14) none (.mv (.t 2)),
 .op (some 15) none (.iad 3 (.t 13) (.t 14)),
 .op (some 16) none (.ldn 3 (.t 15)),
 .op (some 17) none (.mv (.t 0)),
 .op (some 18) none (.mv (.t 1)),
 .op (some 19) none (.iad 3 (.t 17) (.t 18)),
 .op (some 20) none (.ldn 3 (.t 19)),
 .call (some 21) none (.t 12) [(.t 16), (.t 20)],
 .op (some 22) none (.ibin .lss (.t 21) (.c (.i .i64 0)))]
 [0, 1, 2, 3, 4, 5, 6, 7, 8, 9, 10] [0, 0, 0, 6, 14, 0, 0, 96, 224, 511, 1023])
 (.cond (.t 22)
 (.seq (.reg [.op (some 23) none (.mv (.t 3)),
 .op (some 24) none (.nilchk (.t 23)),
 .op (some 25) none (.ld1 (.t 24)),
 .op (some 26) none (.ibin .add (.t 25) (.c (.i .i64 1))),
 .op (some 27) none (.nilchk (.t 23)),
 .op none none (.st 1 (.t 27) (.t 26))])
 (.seq (.reg [.op (some 28) none (.mv (.t 2)),
 .op (some 29) none (.mv (.t 1)),
 .op (some 10) none (.mv (.t 28)),
 .op (some 11) none (.mv (.t 29))])
 (.ret)))
 (.skip)))
 (.seq (.reg [.op (some 30) none (.mv (.t 1)),
 .op (some 31) none (.mv (.t 2)),
 .op (some 10) none (.mv (.t 30)),
 .op (some 11) none (.mv (.t 31))])
 (.ret))),
 [.t 10, .t 11]⟩
def k69 : List Nat := [0, 1, 2, 3, 4, 10, 11, 22]
set_option maxRecDepth 100000 in
theorem c69 : compF Go.Proofs.Try.prog 5 Go.Proofs.Try.f69 = some e69 := by kernel_rfl
end Go.Proofs.Ytjahkgfihdngkaa.IR
