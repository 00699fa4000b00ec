/- One text of a proof that a law answers true for every input. No condition. -/
import Derived.Test.YtnmkbnifgmeloaaProg
import Derived.Test.YtnmkbnifgmeloaaEvE
import Derived.KernelRfl
set_option linter.unusedVariables false
set_option linter.unusedSimpArgs false
set_option linter.constructorNameAsVariable false
namespace Go.Proofs.Ytnmkbnifgmeloaa.IR
open Go Go.Proofs.Ytnmkbnifgmeloaa.Ev
/-- gosem.cut.init -/
def e2 : IFunc := ⟨1, 0,
 .reg [.call (some 0) none (.c (.fn (.func 1) [] [])) []],
 []⟩
def k2 : List Nat := []
set_option maxRecDepth 100000 in
theorem c2 : compF Go.Proofs.Try.prog 0 Go.Proofs.Try.f2 = some e2 := by kernel_rfl
/-- sandglass/sandglasslaw23.TsoTells -/
def e3 : IFunc := ⟨213, 6,
 .seq (.reg [.op (some 6) none (.box (.t 0)),
 .op (some 12) none (.mv (.c (.b false)))])
 (.seq (.seq (.reg [.op (some 30) none (.mv (.t 4)),
 .op (some 31) none (.ibin .geq (.t 30) (.c (.i .i64 1))),
 .op (some 32) none (.mv (.t 31)),
 .op (some 33) (some (32, true)) (.mv (.t 4)),
 .op (some 34) (some (32, true)) (.ibin .lss (.t 33) (.c (.i .i64 16))),
 .op (some 35) none (.pick (.t 32) (.t 34) (.c (.b false))),
 .op (some 36) none (.mv (.t 35)),
 .op (some 37) (some (36, false)) (.mv (.t 5)),
 .op (some 38) (some (36, false)) (.len 2 (.t 37)),
 .op (some 39) (some (36, false)) (.ibin .gtr (.t 38) (.c (.i .i64 300))),
 .op (some 40) none (.pick (.t 36) (.c (.b true)) (.t 39))])
 (.cond (.t 40)
 (.seq (.reg [.call (some 41) none (.c (.fn (.func 8) [] [])) [],
 .op (some 12) none (.mv (.t 41))])
 (.ret))
 (.skip)))
 (.seq (.reg [.op (some 43) none (.mv (.t 1)),
 .op (some 44) none (.mv (.t 2)),
 .op (some 45) none (.mv (.t 3)),
 .call (some 46) none (.c (.fn (.func 9) [] [])) [(.t 43), (.t 44), (.t 45)],
 .op (some 42) none (.mv (.t 46)),
 .op (some 47) none (.ext (.t 42) 0),
 .op (some 48) none (.ext (.t 42) 1),
 .op (some 13) none (.mv (.t 47)),
 .op (some 14) none (.mv (.t 48))])
 (.seq (.reg [.op (some 50) none (.mv (.t 1)),
 .op (some 51) none (.mv (.t 2)),
 .op (some 52) none (.mv (.t 3)),
 .call (some 53) none (.c (.fn (.func 10) [] [])) [(.t 50), (.t 51), (.t 52)],
 .op (some 49) none (.mv (.t 53)),
 .op (some 54) none (.ext (.t 49) 0),
 .op (some 55) none (.ext (.t 49) 1),
 .op (some 15) none (.mv (.t 54)),
 .op (some 16) none (.mv (.t 55))])
 (.seq (.seq (.dreg [.op (some 56) none (.mv (.t 13)),
 .op (some 57) none (.mv (.t 15)),
 .op (some 58) none (.ibin .neq (.t 56) (.t 57)),
 .op (some 59) none (.mv (.t 58)),
 .op (some 60) (some (59, false)) (.mv (.t 14)),
 .op (some 61) (some (59, false)) (.ibin .eql (.t 60) (.c (.i .i64 0))),
 .op (some 62) (some (59, false)) (.mv (.t 16)),
 .op (some 63) (some (59, false)) (.eqn 1 true (.t 61) (.t 62)),
 .op (some 64) none (.pick (.t 59) (.c (.b true)) (.t 63)),
 .op (some 65) none (.mv (.t 64)),
 .op (some 66) (some (65, false)) (.mv (.t 16)),
 .op (some 67) (some (65, false)) (.un .not (.t 66)),
 .op (some 68) (some (65, false)) (.mv (.t 67)),
 .op (some 69) (some (68, true)) (.mv (.t 14)),
 .op (some 70) (some (68, true)) (.ibin .neq (.t 69) (.c (.i .i64 2))),
 .op (some 71) (some (65, false)) (.pick (.t 68) (.t 70) (.c (.b false))),
 .op (some 72) none (.pick (.t 65) (.c (.b true)) (.t 71)),
 .op (some 73) none (.mv (.t 72)),
 .op (some 74) (some (73, false)) (.fad 2 (.t 6)),
 .op (some 75) (some (73, false)) (.ld1 (.t 74)),
 .op (some 76) (some (73, false)) (.mv (.t 2)),
 .call (some 77) (some (73, false)) (.c (.fn (.func 11) [] [])) [(.t 75), (.t 76)],
 .op (some 78) (some (73, false)) (.fad 2 (.t 6)),
 .op (some 79) (some (73, false)) (.ld1 (.t 78)),
 .op (some 80) (some (73, false)) (.mv (.t 2)),
 .call (some 81) (some (73, false)) (.c (.fn (.func 12) [] [])) [(.t 79), (.t 80)],
 .op (some 82) (some (73, false)) (.ibin .neq (.t 77) (.t 81)),
 .op (some 83) none (.pick (.t 73) (.c (.b true)) (.t 82))]
 [0, 1, 2, 3, 4, 5, 6, 7, 8, 9, 10, 11, 12, 13, 14, 15, 16, 17, 18, 19, 20, 22, 23, 24, 21, 25, 26, 27] [0, 0, 3, 7, 15, 31, 15, 127, 255, 511, 1023, 2047, 4095, 8191, 16383, 32767, 65535, 131071, 262143, 524287, 262143, 2097151, 262143, 4456447, 262143, 33554431, 67108863, 134217727])
 (.cond (.t 83)
 (.seq (.reg [.op (some 12) none (.mv (.c (.b false)))])
 (.ret))
 (.skip)))
 (.seq (.reg [.op (some 85) none (.ldn 5 (.t 6)),
 .op (some 86) none (.mv (.t 4)),
 .call (some 87) none (.c (.fn (.func 13) [] [])) [(.t 85), (.t 86)],
 .op (some 84) none (.mv (.t 87)),
 .op (some 88) none (.ext (.t 84) 0),
 .op (some 89) none (.ext (.t 84) 1),
 .op (some 17) none (.mv (.t 88)),
 .op (some 14) none (.mv (.t 89))])
 (.seq (.reg [.op (some 91) none (.ldn 5 (.t 6)),
 .op (some 92) none (.mv (.t 4)),
 .call (some 93) none (.c (.fn (.func 14) [] [])) [(.t 91), (.t 92)],
 .op (some 90) none (.mv (.t 93)),
 .op (some 94) none (.ext (.t 90) 0),
 .op (some 95) none (.ext (.t 90) 1),
 .op (some 18) none (.mv (.t 94)),
 .op (some 16) none (.mv (.t 95))])
 (.seq (.seq (.reg [.op (some 96) none (.mv (.t 17)),
 .op (some 97) none (.mv (.t 18)),
 .call (some 98) none (.c (.fn (.func 15) [] [])) [(.t 96), (.t 97)],
 .op (some 99) none (.un .not (.t 98)),
 .op (some 100) none (.mv (.t 99)),
 .op (some 101) (some (100, false)) (.mv (.t 14)),
 .op (some 102) (some (100, false)) (.ibin .eql (.t 101) (.c (.i .i64 0))),
 .op (some 103) (some (100, false)) (.mv (.t 16)),
 .op (some 104) (some (100, false)) (.eqn 1 true (.t 102) (.t 103)),
 .op (some 105) none (.pick (.t 100) (.c (.b true)) (.t 104)),
 .op (some 106) none (.mv (.t 105)),
 .op (some 107) (some (106, false)) (.mv (.t 16)),
 .op (some 108) (some (106, false)) (.un .not (.t 107)),
 .op (some 109) (some (106, false)) (.mv (.t 108)),
 .op (some 110) (some (109, true)) (.mv (.t 14)),
 .op (some 111) (some (109, true)) (.ibin .neq (.t 110) (.c (.i .i64 2))),
 .op (some 112) (some (106, false)) (.pick (.t 109) (.t 111) (.c (.b false))),
 .op (some 113) none (.pick (.t 106) (.c (.b true)) (.t 112))])
 (.cond (.t 113)
 (.seq (.reg [.op (some 12) none (.mv (.c (.b false)))])
 (.ret))
 (.skip)))
 (.seq (.reg [.op (some 115) none (.ldn 5 (.t 6)),
 .op (some 116) none (.mv (.t 1)),
 .op (some 117) none (.mv (.t 2)),
 .op (some 118) none (.mv (.t 3)),
 .call (some 119) none (.c (.fn (.func 16) [] [])) [(.t 115), (.t 116), (.t 117), (.t 118)],
 .op (some 114) none (.mv (.t 119)),
 .op (some 120) none (.ext (.t 114) 0),
 .op (some 121) none (.ext (.t 114) 1),
 .op (some 19) none (.mv (.t 120)),
 .op (some 14) none (.mv (.t 121))])
 (.seq (.reg [.op (some 123) none (.ldn 5 (.t 6)),
 .op (some 124) none (.mv (.t 1)),
 .op (some 125) none (.mv (.t 2)),
 .op (some 126) none (.mv (.t 3)),
 .call (some 127) none (.c (.fn (.func 17) [] [])) [(.t 123), (.t 124), (.t 125), (.t 126)],
 .op (some 122) none (.mv (.t 127)),
 .op (some 128) none (.ext (.t 122) 0),
 .op (some 129) none (.ext (.t 122) 1),
 .op (some 20) none (.mv (.t 128)),
 .op (some 16) none (.mv (.t 129))])
 (.seq (.seq (.reg [.op (some 130) none (.mv (.t 19)),
 .op (some 131) none (.mv (.t 20)),
 .call (some 132) none (.c (.fn (.func 15) [] [])) [(.t 130), (.t 131)],
 .op (some 133) none (.un .not (.t 132)),
 .op (some 134) none (.mv (.t 133)),
 .op (some 135) (some (134, false)) (.mv (.t 14)),
 .op (some 136) (some (134, false)) (.ibin .eql (.t 135) (.c (.i .i64 0))),
 .op (some 137) (some (134, false)) (.mv (.t 16)),
 .op (some 138) (some (134, false)) (.eqn 1 true (.t 136) (.t 137)),
 .op (some 139) none (.pick (.t 134) (.c (.b true)) (.t 138)),
 .op (some 140) none (.mv (.t 139)),
 .op (some 141) (some (140, false)) (.mv (.t 16)),
 .op (some 142) (some (140, false)) (.un .not (.t 141)),
 .op (some 143) (some (140, false)) (.mv (.t 142)),
 .op (some 144) (some (143, true)) (.mv (.t 14)),
 .op (some 145) (some (143, true)) (.ibin .neq (.t 144) (.c (.i .i64 2))),
 .op (some 146) (some (140, false)) (.pick (.t 143) (.t 145) (.c (.b false))),
 .op (some 147) none (.pick (.t 140) (.c (.b true)) (.t 146))])
 (.cond (.t 147)
 (.seq (.reg [.op (some 12) none (.mv (.c (.b false)))])
 (.ret))
 (.skip)))
 (.seq (.seq (.reg [.op (some 148) none (.mv (.t 5)),
 .op (some 149) none (.mv (.t 18)),
 .op (some 150) none (.mv (.t 20)),
 .op (some 151) none (.bslice 1 3 [.nils, .nils, .nils] [(0, 1, (.t 148)), (1, 1, (.t 149)), (2, 1, (.t 150))]),
 .op (some 152) none (.len 2 (.t 151)),
 .op (some 153) none (.mv (.c (.i .i64 0)))])
 (.block 0
 (.loop
 (.seq (.reg [.op (some 154) none (.ibin .lss (.t 153) (.t 152))])
 (.seq (.cond (.t 154)
 (.skip)
 (.exit 0))
 (.seq (.block 1
 (.seq (.reg [.op (some 155) none (.iad 1 (.t 151) (.t 153)),
 .op (some 156) none (.ld1 (.t 155)),
 .op (some 22) none (.mv (.t 156))])
 (.seq (.reg [.op (some 158) none (.mv (.t 22)),
 .op (some 159) none (.mv (.t 4)),
 .call (some 160) none (.c (.fn (.func 18) [] [])) [(.t 158), (.t 159)],
 .op (some 157) none (.mv (.t 160)),
 .op (some 161) none (.ext (.t 157) 0),
 .op (some 162) none (.ext (.t 157) 1),
 .op (some 23) none (.box (.c (.agg [(.i .u64 0), (.i .u64 0), (.i .i64 0), (.i .u8 0), (.i .u64 0)]))),
 .op none none (.st 5 (.t 23) (.t 161)),
 .op (some 24) none (.mv (.t 162))])
 (.seq (.reg [.op (some 164) none (.mv (.t 22)),
 .op (some 165) none (.mv (.t 4)),
 .call (some 166) none (.c (.fn (.func 19) [] [])) [(.t 164), (.t 165)],
 .op (some 163) none (.mv (.t 166)),
 .op (some 167) none (.ext (.t 163) 0),
 .op (some 168) none (.ext (.t 163) 1),
 .op (some 25) none (.box (.c (.agg [(.i .u64 0), (.i .u64 0), (.i .i64 0), (.i .u8 0), (.i .u64 0)]))),
 .op none none (.st 5 (.t 25) (.t 167)),
 .op (some 26) none (.mv (.t 168))])
 (.seq (.reg [.op (some 169) none (.ldn 5 (.t 23)),
 .op (some 170) none (.ldn 5 (.t 25)),
 .op (some 171) none (.eqs [0, 0, 0, 0, 0] true (.t 169) (.t 170)),
 .op (some 172) none (.mv (.t 171)),
 .op (some 173) (some (172, false)) (.mv (.t 24)),
 .op (some 174) (some (172, false)) (.ibin .eql (.t 173) (.c (.i .i64 0))),
 .op (some 175) (some (172, false)) (.mv (.t 26)),
 .op (some 176) (some (172, false)) (.eqn 1 true (.t 174) (.t 175)),
 .op (some 177) none (.pick (.t 172) (.c (.b true)) (.t 176)),
 .op (some 178) none (.mv (.t 177)),
 .op (some 179) (some (178, false)) (.mv (.t 26)),
 .op (some 180) (some (178, false)) (.un .not (.t 179)),
 .op (some 181) (some (178, false)) (.mv (.t 180)),
 .op (some 182) (some (181, true)) (.mv (.t 24)),
 .op (some 183) (some (181, true)) (.ibin .neq (.t 182) (.c (.i .i64 2))),
 .op (some 184) (some (178, false)) (.pick (.t 181) (.t 183) (.c (.b false))),
 .op (some 185) none (.pick (.t 178) (.c (.b true)) (.t 184))])
 (.cond (.t 185)
 (.seq (.reg [.op (some 12) none (.mv (.c (.b false)))])
 (.ret))
 (.skip)))))))
 (.reg [.op (some 186) none (.ibin .add (.t 153) (.c (.i .i64 1))),
 .op (some 153) none (.mv (.t 186))])))))))
 (.seq (.seq (.reg [.op (some 187) none (.mv (.t 17)),
 .op (some 188) none (.len 2 (.t 187)),
 .op (some 189) none (.mv (.c (.i .i64 0)))])
 (.block 2
 (.loop
 (.seq (.reg [.op (some 190) none (.ibin .lss (.t 189) (.t 188))])
 (.seq (.cond (.t 190)
 (.skip)
 (.exit 2))
 (.seq (.block 3
 (.seq (.reg [.op (some 191) none (.mv (.t 189)),
 .op (some 27) none (.mv (.t 191))])
 (.reg [.op (some 192) none (.mv (.t 17)),
 .op (some 193) none (.mv (.t 27)),
 .op (some 194) none (.iad 5 (.t 192) (.t 193)),
 .op (some 195) none (.fad 2 (.t 194)),
 .op (some 196) none (.ld1 (.t 195)),
 .op (some 197) none (.ibin .add (.t 196) (.c (.i .i64 1))),
 .op (some 198) none (.iad 5 (.t 192) (.t 193)),
 .op (some 199) none (.fad 2 (.t 198)),
 .op none none (.st 1 (.t 199) (.t 197))])))
 (.reg [.op (some 200) none (.ibin .add (.t 189) (.c (.i .i64 1))),
 .op (some 189) none (.mv (.t 200))])))))))
 (.seq (.reg [.op (some 202) none (.ldn 5 (.t 6)),
 .op (some 203) none (.mv (.t 4)),
 .call (some 204) none (.c (.fn (.func 13) [] [])) [(.t 202), (.t 203)],
 .op (some 201) none (.mv (.t 204)),
 .op (some 205) none (.ext (.t 201) 0),
 .op (some 206) none (.ext (.t 201) 1),
 .op (some 28) none (.mv (.t 205)),
 .op (some 29) none (.mv (.t 206))])
 (.seq (.reg [.op (some 207) none (.mv (.t 28)),
 .op (some 208) none (.mv (.t 18)),
 .call (some 209) none (.c (.fn (.func 15) [] [])) [(.t 207), (.t 208)],
 .op (some 210) none (.mv (.t 209)),
 .call (some 211) (some (210, true)) (.c (.fn (.func 8) [] [])) [],
 .op (some 212) none (.pick (.t 210) (.t 211) (.c (.b false))),
 .op (some 12) none (.mv (.t 212))])
 (.ret))))))))))))))),
 [.t 12]⟩
def k3 : List Nat := [0, 1, 2, 3, 4, 5, 6, 12, 13, 14, 15, 16, 17, 18, 19, 20, 22, 23, 24, 25, 26, 27, 28, 40, 83, 113, 147, 151, 152, 153, 154, 185, 188, 189, 190]
set_option maxRecDepth 100000 in
theorem c3 : compF Go.Proofs.Try.prog 6 Go.Proofs.Try.f3 = some e3 := by kernel_rfl
/-- sandglass/sandglasslaw23.TsoTrains -/
def e5 : IFunc := ⟨140, 4,
 .seq (.reg [.op (some 4) none (.box (.t 0)),
 .op (some 8) none (.mv (.c (.b false)))])
 (.seq (.reg [.op (some 24) none (.ldn 5 (.t 4)),
 .op (some 25) none (.mv (.t 2)),
 .op (some 26) none (.mv (.t 3)),
 .call (some 27) none (.c (.fn (.func 20) [] [])) [(.t 24), (.t 25), (.t 26)],
 .op (some 23) none (.mv (.t 27)),
 .op (some 28) none (.ext (.t 23) 0),
 .op (some 29) none (.ext (.t 23) 1),
 .op (some 30) none (.ext (.t 23) 2),
 .op none none (.st 5 (.t 4) (.t 28)),
 .op (some 9) none (.mv (.t 29)),
 .op (some 10) none (.mv (.t 30))])
 (.seq (.reg [.op (some 32) none (.ldn 5 (.t 4)),
 .op (some 33) none (.mv (.t 1)),
 .op (some 34) none (.mv (.t 9)),
 .op (some 35) none (.mv (.t 10)),
 .call (some 36) none (.c (.fn (.func 16) [] [])) [(.t 32), (.t 33), (.t 34), (.t 35)],
 .op (some 31) none (.mv (.t 36)),
 .op (some 37) none (.ext (.t 31) 0),
 .op (some 38) none (.ext (.t 31) 1),
 .op (some 11) none (.mv (.t 37)),
 .op (some 12) none (.mv (.t 38))])
 (.seq (.reg [.op (some 40) none (.mv (.t 1)),
 .op (some 41) none (.mv (.t 9)),
 .op (some 42) none (.mv (.t 10)),
 .call (some 43) none (.c (.fn (.func 9) [] [])) [(.t 40), (.t 41), (.t 42)],
 .op (some 39) none (.mv (.t 43)),
 .op (some 44) none (.ext (.t 39) 0),
 .op (some 45) none (.ext (.t 39) 1),
 .op (some 13) none (.mv (.t 44)),
 .op (some 14) none (.mv (.t 45))])
 (.seq (.reg [.op (some 47) none (.ldn 5 (.t 4)),
 .op (some 48) none (.mv (.t 9)),
 .call (some 49) none (.c (.fn (.func 13) [] [])) [(.t 47), (.t 48)],
 .op (some 46) none (.mv (.t 49)),
 .op (some 50) none (.ext (.t 46) 0),
 .op (some 51) none (.ext (.t 46) 1),
 .op (some 15) none (.mv (.t 50)),
 .op (some 16) none (.mv (.t 51))])
 (.seq (.seq (.reg [.op (some 52) none (.mv (.t 12)),
 .op (some 53) none (.ibin .neq (.t 52) (.c (.i .i64 0))),
 .op (some 54) none (.mv (.t 53)),
 .op (some 55) (some (54, false)) (.mv (.t 14)),
 .op (some 56) (some (54, false)) (.ibin .neq (.t 55) (.c (.i .i64 0))),
 .op (some 57) none (.pick (.t 54) (.c (.b true)) (.t 56)),
 .op (some 58) none (.mv (.t 57)),
 .op (some 59) (some (58, false)) (.mv (.t 16)),
 .op (some 60) (some (58, false)) (.ibin .neq (.t 59) (.c (.i .i64 0))),
 .op (some 61) none (.pick (.t 58) (.c (.b true)) (.t 60))])
 (.cond (.t 61)
 (.seq (.reg [.op (some 8) none (.mv (.c (.b false)))])
 (.ret))
 (.skip)))
 (.seq (.reg [.op (some 17) none (.mv (.c .nils))])
 (.seq (.reg [.op (some 18) none (.mv (.c (.i .i64 0)))])
 (.seq (.seq (.reg [.op (some 62) none (.mv (.t 11)),
 .op (some 63) none (.len 2 (.t 62)),
 .op (some 64) none (.mv (.c (.i .i64 0)))])
 (.block 0
 (.loop
 (.seq (.reg [.op (some 65) none (.ibin .lss (.t 64) (.t 63))])
 (.seq (.cond (.t 65)
 (.skip)
 (.exit 0))
 (.seq (.block 1
 (.seq (.reg [.op (some 66) none (.mv (.t 64)),
 .op (some 67) none (.iad 5 (.t 62) (.t 64)),
 .op (some 68) none (.ldn 5 (.t 67)),
 .op (some 20) none (.box (.c (.agg [(.i .u64 0), (.i .u64 0), (.i .i64 0), (.i .u8 0), (.i .u64 0)]))),
 .op (some 19) none (.mv (.t 66)),
 .op none none (.st 5 (.t 20) (.t 68))])
 (.seq (.reg [.op (some 70) none (.ldn 5 (.t 20)),
 .op (some 71) none (.mv (.t 9)),
 .call (some 72) none (.c (.fn (.func 13) [] [])) [(.t 70), (.t 71)],
 .op (some 69) none (.mv (.t 72)),
 .op (some 73) none (.ext (.t 69) 0),
 .op (some 74) none (.ext (.t 69) 1),
 .op (some 21) none (.mv (.t 73)),
 .op (some 22) none (.mv (.t 74))])
 (.seq (.seq (.reg [.op (some 75) none (.mv (.t 22)),
 .op (some 76) none (.ibin .neq (.t 75) (.c (.i .i64 0))),
 .op (some 77) none (.mv (.t 76)),
 .op (some 78) (some (77, false)) (.fad 2 (.t 20)),
 .op (some 79) (some (77, false)) (.ld1 (.t 78)),
 .op (some 80) (some (77, false)) (.mv (.t 13)),
 .op (some 81) (some (77, false)) (.mv (.t 9)),
 .op (some 82) (some (77, false)) (.ibin .mul (.t 80) (.t 81)),
 .op (some 83) (some (77, false)) (.ibin .gtr (.t 79) (.t 82)),
 .op (some 84) none (.pick (.t 77) (.c (.b true)) (.t 83)),
 .op (some 85) none (.mv (.t 84)),
 .op (some 86) (some (85, false)) (.mv (.t 19)),
 .op (some 87) (some (85, false)) (.mv (.t 11)),
 .op (some 88) (some (85, false)) (.len 2 (.t 87)),
 .op (some 89) (some (85, false)) (.ibin .sub (.t 88) (.c (.i .i64 1))),
 .op (some 90) (some (85, false)) (.ibin .lss (.t 86) (.t 89)),
 .op (some 91) (some (85, false)) (.mv (.t 90)),
 .op (some 92) (some (91, true)) (.fad 2 (.t 20)),
 .op (some 93) (some (91, true)) (.ld1 (.t 92)),
 .op (some 94) (some (91, true)) (.mv (.t 13)),
 .op (some 95) (some (91, true)) (.mv (.t 9)),
 .op (some 96) (some (91, true)) (.ibin .mul (.t 94) (.t 95)),
 .op (some 97) (some (91, true)) (.ibin .neq (.t 93) (.t 96)),
 .op (some 98) (some (85, false)) (.pick (.t 91) (.t 97) (.c (.b false))),
 .op (some 99) none (.pick (.t 85) (.c (.b true)) (.t 98)),
 .op (some 100) none (.mv (.t 99)),
 .op (some 101) (some (100, false)) (.mv (.t 21)),
 .op (some 102) (some (100, false)) (.len 2 (.t 101)),
 .op (some 103) (some (100, false)) (.mv (.t 13)),
 .op (some 104) (some (100, false)) (.ibin .gtr (.t 102) (.t 103)),
 .op (some 105) none (.pick (.t 100) (.c (.b true)) (.t 104))])
 (.cond (.t 105)
 (.seq (.reg [.op (some 8) none (.mv (.c (.b false)))])
 (.ret))
 (.skip)))
 (.seq (.reg [.op (some 106) none (.mv (.t 17)),
 .op (some 107) none (.mv (.t 21)),
 .op (some 108) none (.app 5 40 (.t 106) (.t 107)),
 .op (some 17) none (.mv (.t 108))])
 (.reg [.op (some 109) none (.mv (.t 18)),
 .op (some 110) none (.fad 2 (.t 20)),
 .op (some 111) none (.ld1 (.t 110)),
 .op (some 112) none (.mv (.t 9)),
 .call (some 113) none (.c (.fn (.func 11) [] [])) [(.t 111), (.t 112)],
 .op (some 114) none (.ibin .add (.t 109) (.t 113)),
 .op (some 18) none (.mv (.t 114))]))))))
 (.reg [.op (some 115) none (.ibin .add (.t 64) (.c (.i .i64 1))),
 .op (some 64) none (.mv (.t 115))])))))))
 (.seq (.reg [.op (some 116) none (.mv (.t 17)),
 .op (some 117) none (.mv (.t 15)),
 .call (some 118) none (.c (.fn (.func 15) [] [])) [(.t 116), (.t 117)],
 .op (some 119) none (.mv (.t 118)),
 .op (some 120) (some (119, true)) (.mv (.t 18)),
 .op (some 121) (some (119, true)) (.fad 2 (.t 4)),
 .op (some 122) (some (119, true)) (.ld1 (.t 121)),
 .op (some 123) (some (119, true)) (.mv (.t 9)),
 .call (some 124) (some (119, true)) (.c (.fn (.func 11) [] [])) [(.t 122), (.t 123)],
 .op (some 125) (some (119, true)) (.ibin .eql (.t 120) (.t 124)),
 .op (some 126) none (.pick (.t 119) (.t 125) (.c (.b false))),
 .op (some 127) none (.mv (.t 126)),
 .op (some 128) (some (127, true)) (.mv (.t 18)),
 .op (some 129) (some (127, true)) (.fad 2 (.t 4)),
 .op (some 130) (some (127, true)) (.ld1 (.t 129)),
 .op (some 131) (some (127, true)) (.mv (.t 15)),
 .op (some 132) (some (127, true)) (.len 2 (.t 131)),
 .op (some 133) (some (127, true)) (.ibin .mul (.t 132) (.c (.i .i64 66))),
 .op (some 134) (some (127, true)) (.ibin .add (.t 130) (.t 133)),
 .op (some 135) (some (127, true)) (.ibin .eql (.t 128) (.t 134)),
 .op (some 136) none (.pick (.t 127) (.t 135) (.c (.b false))),
 .op (some 137) none (.mv (.t 136)),
 .call (some 138) (some (137, true)) (.c (.fn (.func 8) [] [])) [],
 .op (some 139) none (.pick (.t 137) (.t 138) (.c (.b false))),
 .op (some 8) none (.mv (.t 139))])
 (.ret)))))))))),
 [.t 8]⟩
def k5 : List Nat := [0, 1, 2, 3, 4, 8, 9, 10, 11, 12, 13, 14, 15, 16, 17, 18, 19, 20, 21, 22, 61, 62, 63, 64, 65, 105]
set_option maxRecDepth 100000 in
theorem c5 : compF Go.Proofs.Try.prog 4 Go.Proofs.Try.f5 = some e5 := by kernel_rfl
/-- sandglass/sandglasslaw23.awake -/
def e8 : IFunc := ⟨82, 0,
 .seq (.reg [.op (some 0) none (.mv (.c (.b false)))])
 (.seq (.reg [.op (some 12) none (.build [(.i .u64 0), (.i .u64 0), (.i .i64 0), (.i .u8 0), (.i .u64 0)] [(0, 1, (.c (.i .u64 9))), (2, 1, (.c (.i .i64 2500)))]),
 .op (some 1) none (.box (.c (.agg [(.i .u64 0), (.i .u64 0), (.i .i64 0), (.i .u8 0), (.i .u64 0)]))),
 .op none none (.st 5 (.t 1) (.t 12))])
 (.seq (.reg [.op (some 14) none (.ldn 5 (.t 1)),
 .call (some 15) none (.c (.fn (.func 13) [] [])) [(.t 14), (.c (.i .i64 1000))],
 .op (some 13) none (.mv (.t 15)),
 .op (some 16) none (.ext (.t 13) 0),
 .op (some 17) none (.ext (.t 13) 1),
 .op (some 2) none (.mv (.t 16)),
 .op (some 3) none (.mv (.t 17))])
 (.seq (.reg [.op (some 19) none (.mv (.t 2)),
 .call (some 20) none (.c (.fn (.func 18) [] [])) [(.t 19), (.c (.i .i64 1000))],
 .op (some 18) none (.mv (.t 20)),
 .op (some 21) none (.ext (.t 18) 0),
 .op (some 22) none (.ext (.t 18) 1),
 .op (some 4) none (.box (.c (.agg [(.i .u64 0), (.i .u64 0), (.i .i64 0), (.i .u8 0), (.i .u64 0)]))),
 .op none none (.st 5 (.t 4) (.t 21)),
 .op (some 5) none (.mv (.t 22))])
 (.seq (.reg [.op (some 24) none (.bslice 1 3 [(.i .i64 0), (.i .i64 0), (.i .i64 0)] [(0, 1, (.c (.i .i64 1000))), (1, 1, (.c (.i .i64 500))), (2, 1, (.c (.i .i64 1000)))]),
 .call (some 25) none (.c (.fn (.func 23) [] [])) [(.t 24)],
 .call (some 26) none (.c (.fn (.func 18) [] [])) [(.t 25), (.c (.i .i64 1000))],
 .op (some 23) none (.mv (.t 26)),
 .op (some 27) none (.ext (.t 23) 0),
 .op (some 28) none (.ext (.t 23) 1),
 .op (some 6) none (.box (.c (.agg [(.i .u64 0), (.i .u64 0), (.i .i64 0), (.i .u8 0), (.i .u64 0)]))),
 .op none none (.st 5 (.t 6) (.t 27)),
 .op (some 7) none (.mv (.t 28))])
 (.seq (.reg [.op (some 30) none (.ldn 5 (.t 1)),
 .call (some 31) none (.c (.fn (.func 16) [] [])) [(.t 30), (.c (.i .u64 2000000)), (.c (.i .i64 1000)), (.c (.i .i64 8))],
 .op (some 29) none (.mv (.t 31)),
 .op (some 32) none (.ext (.t 29) 0),
 .op (some 33) none (.ext (.t 29) 1),
 .op (some 8) none (.mv (.t 32)),
 .op (some 9) none (.mv (.t 33))])
 (.seq (.reg [.call (some 35) none (.c (.fn (.func 9) [] [])) [(.c (.i .u64 1)), (.c (.i .i64 63)), (.c (.i .i64 8))],
 .op (some 34) none (.mv (.t 35)),
 .op (some 36) none (.ext (.t 34) 0),
 .op (some 37) none (.ext (.t 34) 1),
 .op (some 10) none (.mv (.t 36)),
 .op (some 11) none (.mv (.t 37))])
 (.seq (.reg [.op (some 38) none (.mv (.t 3)),
 .op (some 39) none (.mv (.t 5)),
 .op (some 40) none (.ibin .add (.t 38) (.t 39)),
 .op (some 41) none (.mv (.t 9)),
 .op (some 42) none (.ibin .add (.t 40) (.t 41)),
 .op (some 43) none (.ibin .eql (.t 42) (.c (.i .i64 0))),
 .op (some 44) none (.mv (.t 43)),
 .op (some 45) (some (44, true)) (.mv (.t 7)),
 .op (some 46) (some (44, true)) (.ibin .eql (.t 45) (.c (.i .i64 2))),
 .op (some 47) none (.pick (.t 44) (.t 46) (.c (.b false))),
 .op (some 48) none (.mv (.t 47)),
 .op (some 49) (some (48, true)) (.mv (.t 11)),
 .op (some 50) (some (48, true)) (.ibin .eql (.t 49) (.c (.i .i64 2))),
 .op (some 51) none (.pick (.t 48) (.t 50) (.c (.b false))),
 .op (some 52) none (.mv (.t 51)),
 .op (some 53) (some (52, true)) (.mv (.t 2)),
 .op (some 54) (some (52, true)) (.bslice 1 3 [(.i .i64 0), (.i .i64 0), (.i .i64 0)] [(0, 1, (.c (.i .i64 1000))), (1, 1, (.c (.i .i64 1000))), (2, 1, (.c (.i .i64 500)))]),
 .call (some 55) (some (52, true)) (.c (.fn (.func 23) [] [])) [(.t 54)],
 .call (some 56) (some (52, true)) (.c (.fn (.func 15) [] [])) [(.t 53), (.t 55)],
 .op (some 57) none (.pick (.t 52) (.t 56) (.c (.b false))),
 .op (some 58) none (.mv (.t 57)),
 .op (some 59) (some (58, true)) (.ldn 5 (.t 4)),
 .op (some 60) (some (58, true)) (.ldn 5 (.t 1)),
 .op (some 61) (some (58, true)) (.eqs [0, 0, 0, 0, 0] false (.t 59) (.t 60)),
 .op (some 62) none (.pick (.t 58) (.t 61) (.c (.b false))),
 .op (some 63) none (.mv (.t 62)),
 .op (some 64) (some (63, true)) (.mv (.t 8)),
 .op (some 65) (some (63, true)) (.bslice 1 2 [(.i .i64 0), (.i .i64 0)] [(0, 1, (.c (.i .i64 2000))), (1, 1, (.c (.i .i64 500)))]),
 .call (some 66) (some (63, true)) (.c (.fn (.func 23) [] [])) [(.t 65)],
 .call (some 67) (some (63, true)) (.c (.fn (.func 15) [] [])) [(.t 64), (.t 66)],
 .op (some 68) none (.pick (.t 63) (.t 67) (.c (.b false))),
 .op (some 69) none (.mv (.t 68)),
 .call (some 70) (some (69, true)) (.c (.fn (.func 11) [] [])) [(.c (.i .i64 2500)), (.c (.i .i64 1000))],
 .op (some 71) (some (69, true)) (.ibin .eql (.t 70) (.c (.i .i64 2698))),
 .op (some 72) none (.pick (.t 69) (.t 71) (.c (.b false))),
 .op (some 73) none (.mv (.t 72)),
 .call (some 74) (some (73, true)) (.c (.fn (.func 24) [] [])) [(.c (.i .u64 0)), (.c (.i .i64 1000)), (.c (.i .i64 8)), (.c (.i .i64 8))],
 .op (some 75) none (.pick (.t 73) (.t 74) (.c (.b false))),
 .op (some 76) none (.mv (.t 75)),
 .call (some 77) (some (76, true)) (.c (.fn (.func 24) [] [])) [(.c (.i .u64 5000000)), (.c (.i .i64 1000)), (.c (.i .i64 8)), (.c (.i .i64 5))],
 .op (some 78) none (.pick (.t 76) (.t 77) (.c (.b false))),
 .op (some 79) none (.mv (.t 78)),
 .call (some 80) (some (79, true)) (.c (.fn (.func 24) [] [])) [(.c (.i .u64 10)), (.c (.i .i64 1000)), (.c (.i .i64 8)), (.c (.i .i64 1))],
 .op (some 81) none (.pick (.t 79) (.t 80) (.c (.b false))),
 .op (some 0) none (.mv (.t 81))])
 (.ret)))))))),
 [.t 0]⟩
def k8 : List Nat := [0, 1, 2, 3, 4, 5, 7, 8, 9, 11]
set_option maxRecDepth 100000 in
theorem c8 : compF Go.Proofs.Try.prog 0 Go.Proofs.Try.f8 = some e8 := by kernel_rfl
/-- sandglass/tso.Segs -/
def e9 : IFunc := ⟨29, 3,
 .seq (.reg [.op (some 6) none (.mv (.c (.i .i64 0))),
 .op (some 7) none (.mv (.c (.i .i64 0)))])
 (.seq (.block 0
 (.seq (.reg [.op (some 10) none (.mv (.t 1)),
 .op (some 11) none (.mv (.t 2)),
 .call (some 12) none (.c (.fn (.func 25) [] [])) [(.t 10), (.t 11)],
 .op (some 13) none (.un .not (.t 12)),
 .op (some 9) none (.mv (.t 13))])
 (.cond (.t 9)
 (.seq (.reg [.op (some 6) none (.mv (.c (.i .i64 0))),
 .op (some 7) none (.mv (.c (.i .i64 2)))])
 (.ret))
 (.seq (.reg [.op (some 15) none (.mv (.t 0)),
 .op (some 16) none (.ibin .eql (.t 15) (.c (.i .u64 0))),
 .op (some 14) none (.mv (.t 16))])
 (.cond (.t 14)
 (.seq (.reg [.op (some 17) none (.mv (.t 2)),
 .op (some 6) none (.mv (.t 17)),
 .op (some 7) none (.mv (.c (.i .i64 0)))])
 (.ret))
 (.skip))))))
 (.seq (.reg [.op (some 18) none (.mv (.t 0)),
 .call (some 19) none (.c (.fn (.func 22) [] [])) [(.c (.i .u64 1000000)), (.t 18)],
 .op (some 20) none (.mv (.t 1)),
 .op (some 21) none (.conv .u64 (.t 20)),
 .op (some 22) none (.ibin .quo (.t 19) (.t 21)),
 .op (some 8) none (.mv (.t 22))])
 (.seq (.reg [.op (some 23) none (.mv (.t 8)),
 .op (some 24) none (.mv (.t 2)),
 .op (some 25) none (.conv .u64 (.t 24)),
 .op (some 26) none (.mx true (.t 23) [(.t 25)]),
 .op (some 27) none (.mx false (.t 26) [(.c (.i .u64 1))]),
 .op (some 28) none (.conv .i64 (.t 27)),
 .op (some 6) none (.mv (.t 28)),
 .op (some 7) none (.mv (.c (.i .i64 0)))])
 (.ret)))),
 [.t 6, .t 7]⟩
def k9 : List Nat := [0, 1, 2, 6, 7, 8, 9, 14]
set_option maxRecDepth 100000 in
theorem c9 : compF Go.Proofs.Try.prog 3 Go.Proofs.Try.f9 = some e9 := by kernel_rfl
/-- sandglass/sandglassref23.Segs -/
def e10 : IFunc := ⟨34, 3,
 .seq (.reg [.op (some 6) none (.mv (.c (.i .i64 0))),
 .op (some 7) none (.mv (.c (.b false)))])
 (.seq (.seq (.reg [.op (some 10) none (.mv (.t 1)),
 .op (some 11) none (.mv (.t 2)),
 .call (some 12) none (.c (.fn (.func 26) [] [])) [(.t 10), (.t 11)],
 .op (some 13) none (.un .not (.t 12))])
 (.cond (.t 13)
 (.seq (.reg [.op (some 6) none (.mv (.c (.i .i64 0))),
 .op (some 7) none (.mv (.c (.b false)))])
 (.ret))
 (.skip)))
 (.seq (.seq (.reg [.op (some 14) none (.mv (.t 0)),
 .op (some 15) none (.ibin .eql (.t 14) (.c (.i .u64 0)))])
 (.cond (.t 15)
 (.seq (.reg [.op (some 16) none (.mv (.t 2)),
 .op (some 6) none (.mv (.t 16)),
 .op (some 7) none (.mv (.c (.b true)))])
 (.ret))
 (.skip)))
 (.seq (.reg [.op (some 17) none (.mv (.t 0)),
 .call (some 18) none (.c (.fn (.func 27) [] [])) [(.c (.i .u64 1000000)), (.t 17)],
 .op (some 8) none (.mv (.t 18))])
 (.seq (.reg [.op (some 19) none (.mv (.t 2)),
 .op (some 9) none (.mv (.t 19))])
 (.seq (.block 0
 (.loop
 (.seq (.seq (.reg [.op (some 20) none (.mv (.t 9)),
 .op (some 21) none (.ibin .gtr (.t 20) (.c (.i .i64 1))),
 .op (some 22) none (.mv (.t 21)),
 .op (some 23) (some (22, true)) (.mv (.t 9)),
 .op (some 24) (some (22, true)) (.conv .u64 (.t 23)),
 .op (some 25) (some (22, true)) (.mv (.t 1)),
 .op (some 26) (some (22, true)) (.conv .u64 (.t 25)),
 .op (some 27) (some (22, true)) (.ibin .mul (.t 24) (.t 26)),
 .op (some 28) (some (22, true)) (.mv (.t 8)),
 .op (some 29) (some (22, true)) (.ibin .gtr (.t 27) (.t 28)),
 .op (some 30) none (.pick (.t 22) (.t 29) (.c (.b false)))])
 (.cond (.t 30)
 (.skip)
 (.exit 0)))
 (.block 1
 (.reg [.op (some 31) none (.mv (.t 9)),
 .op (some 32) none (.ibin .sub (.t 31) (.c (.i .i64 1))),
 .op (some 9) none (.mv (.t 32))])))))
 (.seq (.reg [.op (some 33) none (.mv (.t 9)),
 .op (some 6) none (.mv (.t 33)),
 .op (some 7) none (.mv (.c (.b true)))])
 (.ret))))))),
 [.t 6, .t 7]⟩
def k10 : List Nat := [0, 1, 2, 6, 7, 8, 9, 13, 15, 30]
set_option maxRecDepth 100000 in
theorem c10 : compF Go.Proofs.Try.prog 3 Go.Proofs.Try.f10 = some e10 := by kernel_rfl
/-- sandglass/tso.Wire -/
def e11 : IFunc := ⟨25, 2,
 .seq (.reg [.op (some 4) none (.mv (.c (.i .i64 0)))])
 (.seq (.seq (.reg [.op (some 5) none (.mv (.t 0)),
 .op (some 6) none (.ibin .lss (.t 5) (.c (.i .i64 1))),
 .op (some 7) none (.mv (.t 6)),
 .op (some 8) (some (7, false)) (.mv (.t 0)),
 .op (some 9) (some (7, false)) (.ibin .gtr (.t 8) (.c (.i .i64 65536))),
 .op (some 10) none (.pick (.t 7) (.c (.b true)) (.t 9)),
 .op (some 11) none (.mv (.t 10)),
 .op (some 12) (some (11, false)) (.mv (.t 1)),
 .call (some 13) (some (11, false)) (.c (.fn (.func 25) [] [])) [(.t 12), (.c (.i .i64 1))],
 .op (some 14) (some (11, false)) (.un .not (.t 13)),
 .op (some 15) none (.pick (.t 11) (.c (.b true)) (.t 14))])
 (.cond (.t 15)
 (.seq (.reg [.op (some 4) none (.mv (.c (.i .i64 0)))])
 (.ret))
 (.skip)))
 (.seq (.reg [.op (some 16) none (.mv (.t 0)),
 .op (some 17) none (.mv (.t 0)),
 .op (some 18) none (.mv (.t 1)),
 .op (some 19) none (.ibin .add (.t 17) (.t 18)),
 .op (some 20) none (.ibin .sub (.t 19) (.c (.i .i64 1))),
 .op (some 21) none (.mv (.t 1)),
 .op (some 22) none (.ibin .quo (.t 20) (.t 21)),
 .op (some 23) none (.ibin .mul (.t 22) (.c (.i .i64 66))),
 .op (some 24) none (.ibin .add (.t 16) (.t 23)),
 .op (some 4) none (.mv (.t 24))])
 (.ret))),
 [.t 4]⟩
def k11 : List Nat := [0, 1, 4, 15]
set_option maxRecDepth 100000 in
theorem c11 : compF Go.Proofs.Try.prog 2 Go.Proofs.Try.f11 = some e11 := by kernel_rfl
/-- sandglass/sandglassref23.Wire -/
def e12 : IFunc := ⟨36, 2,
 .seq (.reg [.op (some 4) none (.mv (.c (.i .i64 0)))])
 (.seq (.seq (.reg [.op (some 7) none (.mv (.t 0)),
 .op (some 8) none (.ibin .lss (.t 7) (.c (.i .i64 1))),
 .op (some 9) none (.mv (.t 8)),
 .op (some 10) (some (9, false)) (.mv (.t 0)),
 .op (some 11) (some (9, false)) (.ibin .gtr (.t 10) (.c (.i .i64 65536))),
 .op (some 12) none (.pick (.t 9) (.c (.b true)) (.t 11)),
 .op (some 13) none (.mv (.t 12)),
 .op (some 14) (some (13, false)) (.mv (.t 1)),
 .op (some 15) (some (13, false)) (.ibin .lss (.t 14) (.c (.i .i64 64))),
 .op (some 16) none (.pick (.t 13) (.c (.b true)) (.t 15)),
 .op (some 17) none (.mv (.t 16)),
 .op (some 18) (some (17, false)) (.mv (.t 1)),
 .op (some 19) (some (17, false)) (.ibin .gtr (.t 18) (.c (.i .i64 65536))),
 .op (some 20) none (.pick (.t 17) (.c (.b true)) (.t 19))])
 (.cond (.t 20)
 (.seq (.reg [.op (some 4) none (.mv (.c (.i .i64 0)))])
 (.ret))
 (.skip)))
 (.seq (.reg [.op (some 5) none (.mv (.c (.i .i64 0)))])
 (.seq (.block 0
 (.loop
 (.seq (.seq (.reg [.op (some 21) none (.mv (.t 0)),
 .op (some 22) none (.ibin .gtr (.t 21) (.c (.i .i64 0)))])
 (.cond (.t 22)
 (.skip)
 (.exit 0)))
 (.block 1
 (.seq (.reg [.op (some 23) none (.mv (.t 0)),
 .op (some 6) none (.mv (.t 23))])
 (.seq (.seq (.reg [.op (some 24) none (.mv (.t 6)),
 .op (some 25) none (.mv (.t 1)),
 .op (some 26) none (.ibin .gtr (.t 24) (.t 25))])
 (.cond (.t 26)
 (.reg [.op (some 27) none (.mv (.t 1)),
 .op (some 6) none (.mv (.t 27))])
 (.skip)))
 (.seq (.reg [.op (some 28) none (.mv (.t 5)),
 .op (some 29) none (.mv (.t 6)),
 .op (some 30) none (.ibin .add (.t 28) (.t 29)),
 .op (some 31) none (.ibin .add (.t 30) (.c (.i .i64 66))),
 .op (some 5) none (.mv (.t 31))])
 (.reg [.op (some 32) none (.mv (.t 0)),
 .op (some 33) none (.mv (.t 6)),
 .op (some 34) none (.ibin .sub (.t 32) (.t 33)),
 .op (some 0) none (.mv (.t 34))]))))))))
 (.seq (.reg [.op (some 35) none (.mv (.t 5)),
 .op (some 4) none (.mv (.t 35))])
 (.ret))))),
 [.t 4]⟩
def k12 : List Nat := [0, 1, 4, 5, 6, 20, 22, 26]
set_option maxRecDepth 100000 in
theorem c12 : compF Go.Proofs.Try.prog 2 Go.Proofs.Try.f12 = some e12 := by kernel_rfl
/-- sandglass/tso.Cut -/
def e13 : IFunc := ⟨22, 2,
 .seq (.reg [.op (some 2) none (.box (.t 0)),
 .op (some 4) none (.mv (.c .nils)),
 .op (some 5) none (.mv (.c (.i .i64 0)))])
 (.seq (.seq (.reg [.op (some 8) none (.ldn 5 (.t 2)),
 .op (some 9) none (.mv (.t 1)),
 .call (some 10) none (.c (.fn (.func 28) [] [])) [(.t 8), (.t 9)],
 .op (some 11) none (.un .not (.t 10))])
 (.cond (.t 11)
 (.seq (.reg [.op (some 4) none (.mv (.c .nils)),
 .op (some 5) none (.mv (.c (.i .i64 2)))])
 (.ret))
 (.skip)))
 (.seq (.reg [.op (some 6) none (.box (.c (.agg [.nils])))])
 (.seq (.seq (.reg [.op (some 12) none (.ldn 5 (.t 2)),
 .op (some 13) none (.mv (.t 1)),
 .op (some 14) none (.mx true (.t 13) [(.c (.i .i64 65536))]),
 .call (some 15) none (.c (.fn (.func 29) [] [])) [(.t 12), (.t 14)]])
 (.block 0
 (.rf (.t 15) [16]
 (.reg [.op (some 7) none (.box (.c (.agg [(.i .u64 0), (.i .u64 0), (.i .i64 0), (.i .u8 0), (.i .u64 0)]))),
 .op none none (.st 5 (.t 7) (.t 16))])
 (.block 1
 (.reg [.op (some 17) none (.ld1 (.t 6)),
 .op (some 18) none (.ldn 5 (.t 7)),
 .op (some 19) none (.bslice 5 1 [(.i .u64 0), (.i .u64 0), (.i .i64 0), (.i .u8 0), (.i .u64 0)] [(0, 5, (.t 18))]),
 .op (some 20) none (.app 5 40 (.t 17) (.t 19)),
 .op none none (.st 1 (.t 6) (.t 20))])))))
 (.seq (.reg [.op (some 21) none (.ld1 (.t 6)),
 .op (some 4) none (.mv (.t 21)),
 .op (some 5) none (.mv (.c (.i .i64 0)))])
 (.ret))))),
 [.t 4, .t 5]⟩
def k13 : List Nat := [0, 1, 2, 4, 5, 6, 7, 11, 15, 16]
set_option maxRecDepth 100000 in
theorem c13 : compF Go.Proofs.Try.prog 2 Go.Proofs.Try.f13 = some e13 := by kernel_rfl
/-- sandglass/sandglassref23.Cut -/
def e14 : IFunc := ⟨40, 2,
 .seq (.reg [.op (some 2) none (.box (.t 0)),
 .op (some 4) none (.mv (.c .nils)),
 .op (some 5) none (.mv (.c (.b false)))])
 (.seq (.seq (.reg [.op (some 8) none (.fad 2 (.t 2)),
 .op (some 9) none (.ld1 (.t 8)),
 .op (some 10) none (.ibin .lss (.t 9) (.c (.i .i64 1))),
 .op (some 11) none (.mv (.t 10)),
 .op (some 12) (some (11, false)) (.fad 2 (.t 2)),
 .op (some 13) (some (11, false)) (.ld1 (.t 12)),
 .op (some 14) (some (11, false)) (.ibin .gtr (.t 13) (.c (.i .i64 65536))),
 .op (some 15) none (.pick (.t 11) (.c (.b true)) (.t 14)),
 .op (some 16) none (.mv (.t 15)),
 .op (some 17) (some (16, false)) (.mv (.t 1)),
 .op (some 18) (some (16, false)) (.ibin .lss (.t 17) (.c (.i .i64 1))),
 .op (some 19) none (.pick (.t 16) (.c (.b true)) (.t 18))])
 (.cond (.t 19)
 (.seq (.reg [.op (some 4) none (.mv (.c .nils)),
 .op (some 5) none (.mv (.c (.b false)))])
 (.ret))
 (.skip)))
 (.seq (.reg [.op (some 6) none (.mv (.c .nils))])
 (.seq (.reg [.op (some 20) none (.fad 2 (.t 2)),
 .op (some 21) none (.ld1 (.t 20)),
 .op (some 7) none (.mv (.t 21))])
 (.seq (.block 0
 (.loop
 (.seq (.seq (.reg [.op (some 22) none (.mv (.t 7)),
 .op (some 23) none (.mv (.t 1)),
 .op (some 24) none (.ibin .gtr (.t 22) (.t 23))])
 (.cond (.t 24)
 (.skip)
 (.exit 0)))
 (.block 1
 (.seq (.reg [.op (some 25) none (.mv (.t 1)),
 .op (some 26) none (.fad 2 (.t 2)),
 .op none none (.st 1 (.t 26) (.t 25))])
 (.seq (.reg [.op (some 27) none (.mv (.t 6)),
 .op (some 28) none (.ldn 5 (.t 2)),
 .op (some 29) none (.bslice 5 1 [(.i .u64 0), (.i .u64 0), (.i .i64 0), (.i .u8 0), (.i .u64 0)] [(0, 5, (.t 28))]),
 .op (some 30) none (.app 5 40 (.t 27) (.t 29)),
 .op (some 6) none (.mv (.t 30))])
 (.reg [.op (some 31) none (.mv (.t 7)),
 .op (some 32) none (.mv (.t 1)),
 .op (some 33) none (.ibin .sub (.t 31) (.t 32)),
 .op (some 7) none (.mv (.t 33))])))))))
 (.seq (.reg [.op (some 34) none (.mv (.t 7)),
 .op (some 35) none (.fad 2 (.t 2)),
 .op none none (.st 1 (.t 35) (.t 34))])
 (.seq (.reg [.op (some 36) none (.mv (.t 6)),
 .op (some 37) none (.ldn 5 (.t 2)),
 .op (some 38) none (.bslice 5 1 [(.i .u64 0), (.i .u64 0), (.i .i64 0), (.i .u8 0), (.i .u64 0)] [(0, 5, (.t 37))]),
 .op (some 39) none (.app 5 40 (.t 36) (.t 38)),
 .op (some 4) none (.mv (.t 39)),
 .op (some 5) none (.mv (.c (.b true)))])
 (.ret))))))),
 [.t 4, .t 5]⟩
def k14 : List Nat := [0, 1, 2, 4, 5, 6, 7, 19, 24]
set_option maxRecDepth 100000 in
theorem c14 : compF Go.Proofs.Try.prog 2 Go.Proofs.Try.f14 = some e14 := by kernel_rfl
/-- sandglass/sandglasslaw23.Same -/
def e15 : IFunc := ⟨26, 2,
 .seq (.reg [.op (some 4) none (.mv (.c (.b false)))])
 (.seq (.seq (.reg [.op (some 6) none (.mv (.t 0)),
 .op (some 7) none (.len 2 (.t 6)),
 .op (some 8) none (.mv (.t 1)),
 .op (some 9) none (.len 2 (.t 8)),
 .op (some 10) none (.ibin .neq (.t 7) (.t 9))])
 (.cond (.t 10)
 (.seq (.reg [.op (some 4) none (.mv (.c (.b false)))])
 (.ret))
 (.skip)))
 (.seq (.seq (.reg [.op (some 11) none (.mv (.t 0)),
 .op (some 12) none (.len 2 (.t 11)),
 .op (some 13) none (.mv (.c (.i .i64 0)))])
 (.block 0
 (.loop
 (.seq (.reg [.op (some 14) none (.ibin .lss (.t 13) (.t 12))])
 (.seq (.cond (.t 14)
 (.skip)
 (.exit 0))
 (.seq (.block 1
 (.seq (.reg [.op (some 15) none (.mv (.t 13)),
 .op (some 5) none (.mv (.t 15))])
 (.seq (.dreg [.op (some 16) none (.mv (.t 0)),
 .op (some 17) none (.mv (.t 5)),
 .op (some 18) none (.iad 5 (.t 16) (.t 17)),
 .op (some 19) none (.ldn 5 (.t 18)),
 .op (some 20) none (.mv (.t 1)),
 .op (some 21) none (.mv (.t 5)),
 .op (some 22) none (.iad 5 (.t 20) (.t 21)),
 .op (some 23) none (.ldn 5 (.t 22)),
 .op (some 24) none (.eqs [0, 0, 0, 0, 0] true (.t 19) (.t 23))]
 [0, 1, 2, 3, 4, 5, 6, 7, 8] [0, 0, 3, 7, 0, 0, 48, 112, 255])
 (.cond (.t 24)
 (.seq (.reg [.op (some 4) none (.mv (.c (.b false)))])
 (.ret))
 (.skip)))))
 (.reg [.op (some 25) none (.ibin .add (.t 13) (.c (.i .i64 1))),
 .op (some 13) none (.mv (.t 25))])))))))
 (.seq (.reg [.op (some 4) none (.mv (.c (.b true)))])
 (.ret)))),
 [.t 4]⟩
def k15 : List Nat := [0, 1, 4, 5, 10, 12, 13, 14, 24]
set_option maxRecDepth 100000 in
theorem c15 : compF Go.Proofs.Try.prog 2 Go.Proofs.Try.f15 = some e15 := by kernel_rfl
/-- sandglass/tso.Trains -/
def e16 : IFunc := ⟨29, 4,
 .seq (.reg [.op (some 4) none (.box (.t 0)),
 .op (some 8) none (.mv (.c .nils)),
 .op (some 9) none (.mv (.c (.i .i64 0)))])
 (.seq (.reg [.op (some 13) none (.mv (.t 1)),
 .op (some 14) none (.mv (.t 2)),
 .op (some 15) none (.mv (.t 3)),
 .call (some 16) none (.c (.fn (.func 9) [] [])) [(.t 13), (.t 14), (.t 15)],
 .op (some 12) none (.mv (.t 16)),
 .op (some 17) none (.ext (.t 12) 0),
 .op (some 18) none (.ext (.t 12) 1),
 .op (some 10) none (.mv (.t 17)),
 .op (some 11) none (.mv (.t 18))])
 (.seq (.seq (.reg [.op (some 19) none (.mv (.t 11)),
 .op (some 20) none (.ibin .neq (.t 19) (.c (.i .i64 0)))])
 (.cond (.t 20)
 (.seq (.reg [.op (some 21) none (.mv (.t 11)),
 .op (some 8) none (.mv (.c .nils)),
 .op (some 9) none (.mv (.t 21))])
 (.ret))
 (.skip)))
 (.seq (.reg [.op (some 22) none (.ldn 5 (.t 4)),
 .op (some 23) none (.mv (.t 10)),
 .op (some 24) none (.mv (.t 2)),
 .op (some 25) none (.ibin .mul (.t 23) (.t 24)),
 .call (some 26) none (.c (.fn (.func 13) [] [])) [(.t 22), (.t 25)],
 .op (some 27) none (.ext (.t 26) 0),
 .op (some 28) none (.ext (.t 26) 1),
 .op (some 8) none (.mv (.t 27)),
 .op (some 9) none (.mv (.t 28))])
 (.ret)))),
 [.t 8, .t 9]⟩
def k16 : List Nat := [0, 1, 2, 3, 4, 8, 9, 10, 11, 20]
set_option maxRecDepth 100000 in
theorem c16 : compF Go.Proofs.Try.prog 4 Go.Proofs.Try.f16 = some e16 := by kernel_rfl
/-- sandglass/sandglassref23.Trains -/
def e17 : IFunc := ⟨28, 4,
 .seq (.reg [.op (some 4) none (.box (.t 0)),
 .op (some 8) none (.mv (.c .nils)),
 .op (some 9) none (.mv (.c (.b false)))])
 (.seq (.reg [.op (some 13) none (.mv (.t 1)),
 .op (some 14) none (.mv (.t 2)),
 .op (some 15) none (.mv (.t 3)),
 .call (some 16) none (.c (.fn (.func 10) [] [])) [(.t 13), (.t 14), (.t 15)],
 .op (some 12) none (.mv (.t 16)),
 .op (some 17) none (.ext (.t 12) 0),
 .op (some 18) none (.ext (.t 12) 1),
 .op (some 10) none (.mv (.t 17)),
 .op (some 11) none (.mv (.t 18))])
 (.seq (.seq (.reg [.op (some 19) none (.mv (.t 11)),
 .op (some 20) none (.un .not (.t 19))])
 (.cond (.t 20)
 (.seq (.reg [.op (some 8) none (.mv (.c .nils)),
 .op (some 9) none (.mv (.c (.b false)))])
 (.ret))
 (.skip)))
 (.seq (.reg [.op (some 21) none (.ldn 5 (.t 4)),
 .op (some 22) none (.mv (.t 10)),
 .op (some 23) none (.mv (.t 2)),
 .op (some 24) none (.ibin .mul (.t 22) (.t 23)),
 .call (some 25) none (.c (.fn (.func 14) [] [])) [(.t 21), (.t 24)],
 .op (some 26) none (.ext (.t 25) 0),
 .op (some 27) none (.ext (.t 25) 1),
 .op (some 8) none (.mv (.t 26)),
 .op (some 9) none (.mv (.t 27))])
 (.ret)))),
 [.t 8, .t 9]⟩
def k17 : List Nat := [0, 1, 2, 3, 4, 8, 9, 10, 11, 20]
set_option maxRecDepth 100000 in
theorem c17 : compF Go.Proofs.Try.prog 4 Go.Proofs.Try.f17 = some e17 := by kernel_rfl
/-- sandglass/tso.Join -/
def e18 : IFunc := ⟨80, 2,
 .seq (.reg [.op (some 2) none (.box (.t 0)),
 .op (some 4) none (.box (.c (.agg [(.i .u64 0), (.i .u64 0), (.i .i64 0), (.i .u8 0), (.i .u64 0)]))),
 .op (some 5) none (.box (.c (.agg [(.i .i64 0)])))])
 (.seq (.seq (.reg [.op (some 11) none (.ld1 (.t 2)),
 .op (some 12) none (.len 2 (.t 11)),
 .op (some 13) none (.ibin .eql (.t 12) (.c (.i .i64 0))),
 .op (some 14) none (.mv (.t 13)),
 .op (some 15) (some (14, false)) (.ld1 (.t 2)),
 .op (some 16) (some (14, false)) (.len 2 (.t 15)),
 .op (some 17) (some (14, false)) (.ibin .gtr (.t 16) (.c (.i .i64 65536))),
 .op (some 18) none (.pick (.t 14) (.c (.b true)) (.t 17))])
 (.cond (.t 18)
 (.seq (.reg [.op (some 19) none (.build [(.i .u64 0), (.i .u64 0), (.i .i64 0), (.i .u8 0), (.i .u64 0)] []),
 .op none none (.st 5 (.t 4) (.t 19)),
 .op none none (.st 1 (.t 5) (.c (.i .i64 2)))])
 (.ret))
 (.skip)))
 (.seq (.reg [.op (some 20) none (.ld1 (.t 2)),
 .op (some 21) none (.iad 5 (.t 20) (.c (.i .i64 0))),
 .op (some 22) none (.ldn 5 (.t 21)),
 .op (some 6) none (.box (.c (.agg [(.i .u64 0), (.i .u64 0), (.i .i64 0), (.i .u8 0), (.i .u64 0)]))),
 .op none none (.st 5 (.t 6) (.t 22))])
 (.seq (.reg [.op (some 23) none (.fad 2 (.t 6)),
 .op none none (.st 1 (.t 23) (.c (.i .i64 0)))])
 (.seq (.seq (.reg [.op (some 24) none (.ld1 (.t 2)),
 .op (some 25) none (.len 2 (.t 24)),
 .op (some 26) none (.mv (.c (.i .i64 0)))])
 (.block 0
 (.loop
 (.seq (.reg [.op (some 27) none (.ibin .lss (.t 26) (.t 25))])
 (.seq (.cond (.t 27)
 (.skip)
 (.exit 0))
 (.seq (.block 1
 (.seq (.reg [.op (some 28) none (.iad 5 (.t 24) (.t 26)),
 .op (some 29) none (.ldn 5 (.t 28)),
 .op (some 8) none (.box (.c (.agg [(.i .u64 0), (.i .u64 0), (.i .i64 0), (.i .u8 0), (.i .u64 0)]))),
 .op none none (.st 5 (.t 8) (.t 29))])
 (.seq (.seq (.reg [.op (some 30) none (.fad 2 (.t 8)),
 .op (some 31) none (.ld1 (.t 30)),
 .op (some 32) none (.ibin .lss (.t 31) (.c (.i .i64 1))),
 .op (some 33) none (.mv (.t 32)),
 .op (some 34) (some (33, false)) (.fad 2 (.t 8)),
 .op (some 35) (some (33, false)) (.ld1 (.t 34)),
 .op (some 36) (some (33, false)) (.fad 2 (.t 6)),
 .op (some 37) (some (33, false)) (.ld1 (.t 36)),
 .op (some 38) (some (33, false)) (.ibin .sub (.c (.i .i64 65536)) (.t 37)),
 .op (some 39) (some (33, false)) (.ibin .gtr (.t 35) (.t 38)),
 .op (some 40) none (.pick (.t 33) (.c (.b true)) (.t 39))])
 (.cond (.t 40)
 (.seq (.reg [.op (some 41) none (.build [(.i .u64 0), (.i .u64 0), (.i .i64 0), (.i .u8 0), (.i .u64 0)] []),
 .op none none (.st 5 (.t 4) (.t 41)),
 .op none none (.st 1 (.t 5) (.c (.i .i64 2)))])
 (.ret))
 (.skip)))
 (.reg [.op (some 42) none (.fad 2 (.t 6)),
 .op (some 43) none (.ld1 (.t 42)),
 .op (some 44) none (.fad 2 (.t 8)),
 .op (some 45) none (.ld1 (.t 44)),
 .op (some 46) none (.ibin .add (.t 43) (.t 45)),
 .op (some 47) none (.fad 2 (.t 6)),
 .op none none (.st 1 (.t 47) (.t 46))]))))
 (.reg [.op (some 48) none (.ibin .add (.t 26) (.c (.i .i64 1))),
 .op (some 26) none (.mv (.t 48))])))))))
 (.seq (.reg [.op (some 9) none (.box (.c (.agg [(.i .i64 0)]))),
 .op none none (.st 1 (.t 9) (.c (.i .i64 0)))])
 (.seq (.seq (.reg [.op (some 49) none (.ldn 5 (.t 6)),
 .op (some 50) none (.mv (.t 1)),
 .call (some 51) none (.c (.fn (.func 28) [] [])) [(.t 49), (.t 50)],
 .op (some 52) none (.un .not (.t 51))])
 (.cond (.t 52)
 (.seq (.reg [.op (some 53) none (.build [(.i .u64 0), (.i .u64 0), (.i .i64 0), (.i .u8 0), (.i .u64 0)] []),
 .op none none (.st 5 (.t 4) (.t 53)),
 .op none none (.st 1 (.t 5) (.c (.i .i64 2)))])
 (.ret))
 (.skip)))
 (.seq (.seq (.reg [.op (some 54) none (.ldn 5 (.t 6)),
 .op (some 55) none (.mv (.t 1)),
 .op (some 56) none (.mx true (.t 55) [(.c (.i .i64 65536))]),
 .call (some 57) none (.c (.fn (.func 29) [] [])) [(.t 54), (.t 56)]])
 (.block 2
 (.rf (.t 57) [58]
 (.reg [.op (some 10) none (.box (.c (.agg [(.i .u64 0), (.i .u64 0), (.i .i64 0), (.i .u8 0), (.i .u64 0)]))),
 .op none none (.st 5 (.t 10) (.t 58))])
 (.block 3
 (.seq (.seq (.dreg [.op (some 59) none (.ld1 (.t 9)),
 .op (some 60) none (.ld1 (.t 2)),
 .op (some 61) none (.len 2 (.t 60)),
 .op (some 62) none (.ibin .eql (.t 59) (.t 61)),
 .op (some 63) none (.mv (.t 62)),
 .op (some 64) (some (63, false)) (.ld1 (.t 2)),
 .op (some 65) (some (63, false)) (.ld1 (.t 9)),
 .op (some 66) (some (63, false)) (.iad 5 (.t 64) (.t 65)),
 .op (some 67) (some (63, false)) (.ldn 5 (.t 66)),
 .op (some 68) (some (63, false)) (.ldn 5 (.t 10)),
 .op (some 69) (some (63, false)) (.eqs [0, 0, 0, 0, 0] true (.t 67) (.t 68)),
 .op (some 70) none (.pick (.t 63) (.c (.b true)) (.t 69))]
 [0, 1, 2, 3, 4, 5, 6, 7, 8, 9, 10, 11] [0, 0, 2, 7, 15, 31, 31, 127, 255, 31, 1023, 2047])
 (.cond (.t 70)
 (.seq (.reg [.op (some 71) none (.build [(.i .u64 0), (.i .u64 0), (.i .i64 0), (.i .u8 0), (.i .u64 0)] []),
 .op none none (.st 5 (.t 4) (.t 71)),
 .op none none (.st 1 (.t 5) (.c (.i .i64 2)))])
 (.ret))
 (.skip)))
 (.reg [.op (some 72) none (.ld1 (.t 9)),
 .op (some 73) none (.ibin .add (.t 72) (.c (.i .i64 1))),
 .op none none (.st 1 (.t 9) (.t 73))]))))))
 (.seq (.seq (.reg [.op (some 74) none (.ld1 (.t 9)),
 .op (some 75) none (.ld1 (.t 2)),
 .op (some 76) none (.len 2 (.t 75)),
 .op (some 77) none (.ibin .lss (.t 74) (.t 76))])
 (.cond (.t 77)
 (.seq (.reg [.op (some 78) none (.build [(.i .u64 0), (.i .u64 0), (.i .i64 0), (.i .u8 0), (.i .u64 0)] []),
 .op none none (.st 5 (.t 4) (.t 78)),
 .op none none (.st 1 (.t 5) (.c (.i .i64 2)))])
 (.ret))
 (.skip)))
 (.seq (.reg [.op (some 79) none (.ldn 5 (.t 6)),
 .op none none (.st 5 (.t 4) (.t 79)),
 .op none none (.st 1 (.t 5) (.c (.i .i64 0)))])
 (.ret)))))))))),
 [.cn 4 5, .c1 5]⟩
def k18 : List Nat := [0, 1, 2, 4, 5, 6, 8, 9, 10, 18, 24, 25, 26, 27, 40, 52, 57, 58, 70, 77]
set_option maxRecDepth 100000 in
theorem c18 : compF Go.Proofs.Try.prog 2 Go.Proofs.Try.f18 = some e18 := by kernel_rfl
/-- sandglass/sandglassref23.Join -/
def e19 : IFunc := ⟨86, 2,
 .seq (.reg [.op (some 4) none (.box (.c (.agg [(.i .u64 0), (.i .u64 0), (.i .i64 0), (.i .u8 0), (.i .u64 0)]))),
 .op (some 5) none (.mv (.c (.b false)))])
 (.seq (.reg [.op (some 6) none (.mv (.c (.i .i64 0)))])
 (.seq (.seq (.reg [.op (some 7) none (.mv (.c (.i .i64 0)))])
 (.block 0
 (.loop
 (.seq (.seq (.reg [.op (some 12) none (.mv (.t 7)),
 .op (some 13) none (.mv (.t 0)),
 .op (some 14) none (.len 2 (.t 13)),
 .op (some 15) none (.ibin .lss (.t 12) (.t 14))])
 (.cond (.t 15)
 (.skip)
 (.exit 0)))
 (.seq (.block 1
 (.seq (.seq (.reg [.op (some 18) none (.mv (.t 0)),
 .op (some 19) none (.mv (.t 7)),
 .op (some 20) none (.iad 5 (.t 18) (.t 19)),
 .op (some 21) none (.fad 2 (.t 20)),
 .op (some 22) none (.ld1 (.t 21)),
 .op (some 23) none (.ibin .lss (.t 22) (.c (.i .i64 1))),
 .op (some 24) none (.mv (.t 23)),
 .op (some 25) (some (24, false)) (.mv (.t 0)),
 .op (some 26) (some (24, false)) (.mv (.t 7)),
 .op (some 27) (some (24, false)) (.iad 5 (.t 25) (.t 26)),
 .op (some 28) (some (24, false)) (.fad 2 (.t 27)),
 .op (some 29) (some (24, false)) (.ld1 (.t 28)),
 .op (some 30) (some (24, false)) (.ibin .gtr (.t 29) (.c (.i .i64 65536))),
 .op (some 31) none (.pick (.t 24) (.c (.b true)) (.t 30)),
 .op (some 32) none (.mv (.t 31)),
 .op (some 33) (some (32, false)) (.mv (.t 6)),
 .op (some 34) (some (32, false)) (.ibin .gtr (.t 33) (.c (.i .i64 65536))),
 .op (some 35) none (.pick (.t 32) (.c (.b true)) (.t 34))])
 (.cond (.t 35)
 (.seq (.reg [.op (some 36) none (.build [(.i .u64 0), (.i .u64 0), (.i .i64 0), (.i .u8 0), (.i .u64 0)] []),
 .op none none (.st 5 (.t 4) (.t 36)),
 .op (some 5) none (.mv (.c (.b false)))])
 (.ret))
 (.skip)))
 (.reg [.op (some 37) none (.mv (.t 6)),
 .op (some 38) none (.mv (.t 0)),
 .op (some 39) none (.mv (.t 7)),
 .op (some 40) none (.iad 5 (.t 38) (.t 39)),
 .op (some 41) none (.fad 2 (.t 40)),
 .op (some 42) none (.ld1 (.t 41)),
 .op (some 43) none (.ibin .add (.t 37) (.t 42)),
 .op (some 6) none (.mv (.t 43))])))
 (.reg [.op (some 16) none (.mv (.t 7)),
 .op (some 17) none (.ibin .add (.t 16) (.c (.i .i64 1))),
 .op (some 7) none (.mv (.t 17))]))))))
 (.seq (.seq (.reg [.op (some 44) none (.mv (.t 0)),
 .op (some 45) none (.len 2 (.t 44)),
 .op (some 46) none (.ibin .eql (.t 45) (.c (.i .i64 0)))])
 (.cond (.t 46)
 (.seq (.reg [.op (some 47) none (.build [(.i .u64 0), (.i .u64 0), (.i .i64 0), (.i .u8 0), (.i .u64 0)] []),
 .op none none (.st 5 (.t 4) (.t 47)),
 .op (some 5) none (.mv (.c (.b false)))])
 (.ret))
 (.skip)))
 (.seq (.reg [.op (some 48) none (.mv (.t 0)),
 .op (some 49) none (.iad 5 (.t 48) (.c (.i .i64 0))),
 .op (some 50) none (.ldn 5 (.t 49)),
 .op (some 8) none (.box (.c (.agg [(.i .u64 0), (.i .u64 0), (.i .i64 0), (.i .u8 0), (.i .u64 0)]))),
 .op none none (.st 5 (.t 8) (.t 50))])
 (.seq (.reg [.op (some 51) none (.mv (.t 6)),
 .op (some 52) none (.fad 2 (.t 8)),
 .op none none (.st 1 (.t 52) (.t 51))])
 (.seq (.reg [.op (some 54) none (.ldn 5 (.t 8)),
 .op (some 55) none (.mv (.t 1)),
 .call (some 56) none (.c (.fn (.func 14) [] [])) [(.t 54), (.t 55)],
 .op (some 53) none (.mv (.t 56)),
 .op (some 57) none (.ext (.t 53) 0),
 .op (some 58) none (.ext (.t 53) 1),
 .op (some 9) none (.mv (.t 57)),
 .op (some 10) none (.mv (.t 58))])
 (.seq (.seq (.reg [.op (some 59) none (.mv (.t 10)),
 .op (some 60) none (.un .not (.t 59)),
 .op (some 61) none (.mv (.t 60)),
 .op (some 62) (some (61, false)) (.mv (.t 9)),
 .op (some 63) (some (61, false)) (.len 2 (.t 62)),
 .op (some 64) (some (61, false)) (.mv (.t 0)),
 .op (some 65) (some (61, false)) (.len 2 (.t 64)),
 .op (some 66) (some (61, false)) (.ibin .neq (.t 63) (.t 65)),
 .op (some 67) none (.pick (.t 61) (.c (.b true)) (.t 66))])
 (.cond (.t 67)
 (.seq (.reg [.op (some 68) none (.build [(.i .u64 0), (.i .u64 0), (.i .i64 0), (.i .u8 0), (.i .u64 0)] []),
 .op none none (.st 5 (.t 4) (.t 68)),
 .op (some 5) none (.mv (.c (.b false)))])
 (.ret))
 (.skip)))
 (.seq (.seq (.reg [.op (some 11) none (.mv (.c (.i .i64 0)))])
 (.block 2
 (.loop
 (.seq (.seq (.reg [.op (some 69) none (.mv (.t 11)),
 .op (some 70) none (.mv (.t 0)),
 .op (some 71) none (.len 2 (.t 70)),
 .op (some 72) none (.ibin .lss (.t 69) (.t 71))])
 (.cond (.t 72)
 (.skip)
 (.exit 2)))
 (.seq (.block 3
 (.seq (.dreg [.op (some 75) none (.mv (.t 0)),
 .op (some 76) none (.mv (.t 11)),
 .op (some 77) none (.iad 5 (.t 75) (.t 76)),
 .op (some 78) none (.ldn 5 (.t 77)),
 .op (some 79) none (.mv (.t 9)),
 .op (some 80) none (.mv (.t 11)),
 .op (some 81) none (.iad 5 (.t 79) (.t 80)),
 .op (some 82) none (.ldn 5 (.t 81)),
 .op (some 83) none (.eqs [0, 0, 0, 0, 0] true (.t 78) (.t 82))]
 [0, 1, 2, 3, 4, 5, 6, 7, 8] [0, 0, 3, 7, 0, 0, 48, 112, 255])
 (.cond (.t 83)
 (.seq (.reg [.op (some 84) none (.build [(.i .u64 0), (.i .u64 0), (.i .i64 0), (.i .u8 0), (.i .u64 0)] []),
 .op none none (.st 5 (.t 4) (.t 84)),
 .op (some 5) none (.mv (.c (.b false)))])
 (.ret))
 (.skip))))
 (.reg [.op (some 73) none (.mv (.t 11)),
 .op (some 74) none (.ibin .add (.t 73) (.c (.i .i64 1))),
 .op (some 11) none (.mv (.t 74))]))))))
 (.seq (.reg [.op (some 85) none (.ldn 5 (.t 8)),
 .op none none (.st 5 (.t 4) (.t 85)),
 .op (some 5) none (.mv (.c (.b true)))])
 (.ret)))))))))),
 [.cn 4 5, .t 5]⟩
def k19 : List Nat := [0, 1, 4, 5, 6, 7, 8, 9, 10, 11, 15, 35, 46, 67, 72, 83]
set_option maxRecDepth 100000 in
theorem c19 : compF Go.Proofs.Try.prog 2 Go.Proofs.Try.f19 = some e19 := by kernel_rfl
/-- sandglass/sandglasslaw23.of -/
def e23 : IFunc := ⟨19, 1,
 .seq (.reg [.op (some 2) none (.mv (.c .nils))])
 (.seq (.reg [.op (some 3) none (.mv (.c .nils))])
 (.seq (.seq (.reg [.op (some 6) none (.mv (.t 0)),
 .op (some 7) none (.len 2 (.t 6)),
 .op (some 8) none (.mv (.c (.i .i64 0)))])
 (.block 0
 (.loop
 (.seq (.reg [.op (some 9) none (.ibin .lss (.t 8) (.t 7))])
 (.seq (.cond (.t 9)
 (.skip)
 (.exit 0))
 (.seq (.block 1
 (.seq (.reg [.op (some 10) none (.iad 1 (.t 6) (.t 8)),
 .op (some 11) none (.ld1 (.t 10)),
 .op (some 5) none (.mv (.t 11))])
 (.reg [.op (some 12) none (.mv (.t 3)),
 .op (some 13) none (.mv (.t 5)),
 .op (some 14) none (.build [(.i .u64 0), (.i .u64 0), (.i .i64 0), (.i .u8 0), (.i .u64 0)] [(0, 1, (.c (.i .u64 9))), (2, 1, (.t 13))]),
 .op (some 15) none (.bslice 5 1 [(.i .u64 0), (.i .u64 0), (.i .i64 0), (.i .u8 0), (.i .u64 0)] [(0, 5, (.t 14))]),
 .op (some 16) none (.app 5 40 (.t 12) (.t 15)),
 .op (some 3) none (.mv (.t 16))])))
 (.reg [.op (some 17) none (.ibin .add (.t 8) (.c (.i .i64 1))),
 .op (some 8) none (.mv (.t 17))])))))))
 (.seq (.reg [.op (some 18) none (.mv (.t 3)),
 .op (some 2) none (.mv (.t 18))])
 (.ret)))),
 [.t 2]⟩
def k23 : List Nat := [0, 2, 3, 5, 6, 7, 8, 9]
set_option maxRecDepth 100000 in
theorem c23 : compF Go.Proofs.Try.prog 1 Go.Proofs.Try.f23 = some e23 := by kernel_rfl
/-- sandglass/sandglasslaw23.segs -/
def e24 : IFunc := ⟨25, 4,
 .seq (.reg [.op (some 8) none (.mv (.c (.b false)))])
 (.seq (.reg [.op (some 12) none (.mv (.t 0)),
 .op (some 13) none (.mv (.t 1)),
 .op (some 14) none (.mv (.t 2)),
 .call (some 15) none (.c (.fn (.func 9) [] [])) [(.t 12), (.t 13), (.t 14)],
 .op (some 11) none (.mv (.t 15)),
 .op (some 16) none (.ext (.t 11) 0),
 .op (some 17) none (.ext (.t 11) 1),
 .op (some 9) none (.mv (.t 16)),
 .op (some 10) none (.mv (.t 17))])
 (.seq (.reg [.op (some 18) none (.mv (.t 10)),
 .op (some 19) none (.ibin .eql (.t 18) (.c (.i .i64 0))),
 .op (some 20) none (.mv (.t 19)),
 .op (some 21) (some (20, true)) (.mv (.t 9)),
 .op (some 22) (some (20, true)) (.mv (.t 3)),
 .op (some 23) (some (20, true)) (.ibin .eql (.t 21) (.t 22)),
 .op (some 24) none (.pick (.t 20) (.t 23) (.c (.b false))),
 .op (some 8) none (.mv (.t 24))])
 (.ret))),
 [.t 8]⟩
def k24 : List Nat := [0, 1, 2, 3, 8, 9, 10]
set_option maxRecDepth 100000 in
theorem c24 : compF Go.Proofs.Try.prog 4 Go.Proofs.Try.f24 = some e24 := by kernel_rfl
/-- sandglass/tso.within -/
def e25 : IFunc := ⟨19, 2,
 .seq (.reg [.op (some 4) none (.mv (.c (.b false)))])
 (.seq (.reg [.op (some 5) none (.mv (.t 0)),
 .op (some 6) none (.ibin .geq (.t 5) (.c (.i .i64 64))),
 .op (some 7) none (.mv (.t 6)),
 .op (some 8) (some (7, true)) (.mv (.t 0)),
 .op (some 9) (some (7, true)) (.ibin .leq (.t 8) (.c (.i .i64 65536))),
 .op (some 10) none (.pick (.t 7) (.t 9) (.c (.b false))),
 .op (some 11) none (.mv (.t 10)),
 .op (some 12) (some (11, true)) (.mv (.t 1)),
 .op (some 13) (some (11, true)) (.ibin .geq (.t 12) (.c (.i .i64 1))),
 .op (some 14) none (.pick (.t 11) (.t 13) (.c (.b false))),
 .op (some 15) none (.mv (.t 14)),
 .op (some 16) (some (15, true)) (.mv (.t 1)),
 .op (some 17) (some (15, true)) (.ibin .leq (.t 16) (.c (.i .i64 64))),
 .op (some 18) none (.pick (.t 15) (.t 17) (.c (.b false))),
 .op (some 4) none (.mv (.t 18))])
 (.ret)),
 [.t 4]⟩
def k25 : List Nat := [0, 1, 4]
set_option maxRecDepth 100000 in
theorem c25 : compF Go.Proofs.Try.prog 2 Go.Proofs.Try.f25 = some e25 := by kernel_rfl
/-- sandglass/sandglassref23.ranges -/
def e26 : IFunc := ⟨19, 2,
 .seq (.reg [.op (some 4) none (.mv (.c (.b false)))])
 (.seq (.reg [.op (some 5) none (.mv (.t 0)),
 .op (some 6) none (.ibin .geq (.t 5) (.c (.i .i64 64))),
 .op (some 7) none (.mv (.t 6)),
 .op (some 8) (some (7, true)) (.mv (.t 0)),
 .op (some 9) (some (7, true)) (.ibin .leq (.t 8) (.c (.i .i64 65536))),
 .op (some 10) none (.pick (.t 7) (.t 9) (.c (.b false))),
 .op (some 11) none (.mv (.t 10)),
 .op (some 12) (some (11, true)) (.mv (.t 1)),
 .op (some 13) (some (11, true)) (.ibin .geq (.t 12) (.c (.i .i64 1))),
 .op (some 14) none (.pick (.t 11) (.t 13) (.c (.b false))),
 .op (some 15) none (.mv (.t 14)),
 .op (some 16) (some (15, true)) (.mv (.t 1)),
 .op (some 17) (some (15, true)) (.ibin .leq (.t 16) (.c (.i .i64 64))),
 .op (some 18) none (.pick (.t 15) (.t 17) (.c (.b false))),
 .op (some 4) none (.mv (.t 18))])
 (.ret)),
 [.t 4]⟩
def k26 : List Nat := [0, 1, 4]
set_option maxRecDepth 100000 in
theorem c26 : compF Go.Proofs.Try.prog 2 Go.Proofs.Try.f26 = some e26 := by kernel_rfl
/-- sandglass/tso.may -/
def e28 : IFunc := ⟨17, 2,
 .seq (.reg [.op (some 2) none (.box (.t 0)),
 .op (some 4) none (.mv (.c (.b false)))])
 (.seq (.reg [.op (some 5) none (.fad 2 (.t 2)),
 .op (some 6) none (.ld1 (.t 5)),
 .op (some 7) none (.ibin .geq (.t 6) (.c (.i .i64 1))),
 .op (some 8) none (.mv (.t 7)),
 .op (some 9) (some (8, true)) (.fad 2 (.t 2)),
 .op (some 10) (some (8, true)) (.ld1 (.t 9)),
 .op (some 11) (some (8, true)) (.ibin .leq (.t 10) (.c (.i .i64 65536))),
 .op (some 12) none (.pick (.t 8) (.t 11) (.c (.b false))),
 .op (some 13) none (.mv (.t 12)),
 .op (some 14) (some (13, true)) (.mv (.t 1)),
 .op (some 15) (some (13, true)) (.ibin .geq (.t 14) (.c (.i .i64 1))),
 .op (some 16) none (.pick (.t 13) (.t 15) (.c (.b false))),
 .op (some 4) none (.mv (.t 16))])
 (.ret)),
 [.t 4]⟩
def k28 : List Nat := [0, 1, 2, 4]
set_option maxRecDepth 100000 in
theorem c28 : compF Go.Proofs.Try.prog 2 Go.Proofs.Try.f28 = some e28 := by kernel_rfl
/-- sandglass/tso.pieces -/
def e29 : IFunc := ⟨6, 2,
 .seq (.reg [.op (some 2) none (.box (.t 0)),
 .op (some 3) none (.box (.t 1)),
 .op (some 4) none (.mv (.c .nilf))])
 (.seq (.reg [.op (some 5) none (.mkfn (.func 33) [] [(.t 2), (.t 3)]),
 .op (some 4) none (.mv (.t 5))])
 (.ret)),
 [.t 4]⟩
def k29 : List Nat := [0, 1, 2, 3, 4]
set_option maxRecDepth 100000 in
theorem c29 : compF Go.Proofs.Try.prog 2 Go.Proofs.Try.f29 = some e29 := by kernel_rfl
/-- sandglass/tso.pieces$1 -/
def e33 : IFunc := ⟨22, 3,
 .seq (.reg [.op (some 6) none (.fad 2 (.t 1)),
 .op (some 7) none (.ld1 (.t 6)),
 .op (some 4) none (.mv (.t 7))])
 (.block 0
 (.loop
 (.seq (.seq (.reg [.op (some 8) none (.mv (.t 4)),
 .op (some 9) none (.ibin .gtr (.t 8) (.c (.i .i64 0)))])
 (.cond (.t 9)
 (.skip)
 (.exit 0)))
 (.seq (.block 1
 (.seq (.reg [.op (some 13) none (.ldn 5 (.t 1)),
 .op (some 5) none (.box (.c (.agg [(.i .u64 0), (.i .u64 0), (.i .i64 0), (.i .u8 0), (.i .u64 0)]))),
 .op none none (.st 5 (.t 5) (.t 13))])
 (.seq (.reg [.op (some 14) none (.mv (.t 4)),
 .op (some 15) none (.ld1 (.t 2)),
 .op (some 16) none (.mx true (.t 14) [(.t 15)]),
 .op (some 17) none (.fad 2 (.t 5)),
 .op none none (.st 1 (.t 17) (.t 16))])
 (.seq (.reg [.op (some 18) none (.mv (.t 0)),
 .op (some 19) none (.ldn 5 (.t 5)),
 .call (some 20) none (.t 18) [(.t 19)],
 .op (some 21) none (.un .not (.t 20))])
 (.cond (.t 21)
 (.ret)
 (.skip))))))
 (.reg [.op (some 10) none (.mv (.t 4)),
 .op (some 11) none (.ld1 (.t 2)),
 .op (some 12) none (.ibin .sub (.t 10) (.t 11)),
 .op (some 4) none (.mv (.t 12))]))))),
 []⟩
def k33 : List Nat := [0, 1, 2, 4, 5, 9, 21]
set_option maxRecDepth 100000 in
theorem c33 : compF Go.Proofs.Try.prog 3 Go.Proofs.Try.f33 = some e33 := by kernel_rfl
end Go.Proofs.Ytnmkbnifgmeloaa.IR
