/- One text of a proof that a law answers true for every input. No condition. -/
import Derived.Test.YthpcdpnolmacpaaProg
import Derived.Test.YthpcdpnolmacpaaEvE
import Derived.KernelRfl
set_option linter.unusedVariables false
set_option linter.unusedSimpArgs false
set_option linter.constructorNameAsVariable false
namespace Go.Proofs.Ythpcdpnolmacpaa.IR
open Go Go.Proofs.Ythpcdpnolmacpaa.Ev
/-- gosem.cut.init -/
def e2 : IFunc := ⟨1, 0,
 .reg [.call (some 0) none (.c (.fn (.func 1) [] [])) []],
 []⟩
def k2 : List Nat := []
set_option maxRecDepth 100000 in
theorem c2 : compF Go.Proofs.Try.prog 0 Go.Proofs.Try.f2 = some e2 := by kernel_rfl
/-- sandglass/sandglasslaw24.RingAlone -/
def e3 : IFunc := ⟨152, 5,
 .seq (.reg [.op (some 10) none (.mv (.c (.b false)))])
 (.seq (.reg [.op (some 24) none (.mv (.t 0)),
 .call (some 25) none (.c (.fn (.func 9) [] [])) [(.c (.i .i64 2)), (.t 24)],
 .op (some 23) none (.mv (.t 25)),
 .op (some 26) none (.ext (.t 23) 0),
 .op (some 27) none (.ext (.t 23) 1),
 .op (some 11) none (.mv (.t 26)),
 .op (some 12) none (.mv (.t 27))])
 (.seq (.reg [.op (some 28) none (.mv (.t 1)),
 .op (some 29) none (.conv .i64 (.t 28)),
 .op (some 30) none (.ibin .add (.c (.i .i64 1)) (.t 29)),
 .op (some 31) none (.mv (.t 2)),
 .op (some 32) none (.conv .i64 (.t 31)),
 .op (some 33) none (.ibin .add (.c (.i .i64 1)) (.t 32)),
 .op (some 13) none (.mv (.t 30)),
 .op (some 14) none (.mv (.t 33))])
 (.seq (.seq (.reg [.op (some 34) none (.mv (.t 12)),
 .op (some 35) none (.ibin .neq (.t 34) (.c (.i .i64 0))),
 .op (some 36) none (.mv (.t 35)),
 .op (some 37) (some (36, false)) (.mv (.t 11)),
 .op (some 38) (some (36, false)) (.mv (.t 13)),
 .op (some 39) (some (36, false)) (.mv (.t 3)),
 .call (some 40) (some (36, false)) (.c (.fn (.func 10) [] [])) [(.t 37), (.c (.i .u64 1)), (.t 38), (.t 39)],
 .op (some 41) (some (36, false)) (.ibin .neq (.t 40) (.c (.i .i64 0))),
 .op (some 42) none (.pick (.t 36) (.c (.b true)) (.t 41))])
 (.cond (.t 42)
 (.seq (.reg [.op (some 10) none (.mv (.c (.b false)))])
 (.ret))
 (.skip)))
 (.seq (.reg [.op (some 43) none (.mv (.t 3)),
 .op (some 44) none (.mv (.t 13)),
 .op (some 45) none (.conv .u64 (.t 44)),
 .op (some 46) none (.mv (.t 0)),
 .call (some 47) none (.c (.fn (.func 12) [] [])) [(.t 45), (.t 46)],
 .call (some 48) none (.c (.fn (.func 11) [] [])) [(.t 43), (.t 47)],
 .op (some 15) none (.mv (.t 48))])
 (.seq (.reg [.op (some 50) none (.mv (.t 11)),
 .call (some 51) none (.c (.fn (.func 13) [] [])) [(.t 50)],
 .op (some 49) none (.mv (.t 51)),
 .op (some 52) none (.ext (.t 49) 0),
 .op (some 53) none (.ext (.t 49) 1),
 .op (some 16) none (.mv (.t 52)),
 .op (some 17) none (.mv (.t 53))])
 (.seq (.seq (.reg [.op (some 54) none (.mv (.t 17)),
 .op (some 55) none (.un .not (.t 54)),
 .op (some 56) none (.mv (.t 55)),
 .op (some 57) (some (56, false)) (.mv (.t 16)),
 .op (some 58) (some (56, false)) (.mv (.t 15)),
 .op (some 59) (some (56, false)) (.ibin .neq (.t 57) (.t 58)),
 .op (some 60) none (.pick (.t 56) (.c (.b true)) (.t 59))])
 (.cond (.t 60)
 (.seq (.reg [.op (some 10) none (.mv (.c (.b false)))])
 (.ret))
 (.skip)))
 (.seq (.reg [.op (some 61) none (.mv (.t 3)),
 .op (some 62) none (.mv (.t 4)),
 .call (some 63) none (.c (.fn (.func 11) [] [])) [(.t 61), (.t 62)],
 .op (some 18) none (.mv (.t 63))])
 (.seq (.seq (.reg [.op (some 64) none (.mv (.t 11)),
 .op (some 65) none (.mv (.t 14)),
 .op (some 66) none (.mv (.t 18)),
 .call (some 67) none (.c (.fn (.func 10) [] [])) [(.t 64), (.c (.i .u64 2)), (.t 65), (.t 66)],
 .op (some 68) none (.ibin .neq (.t 67) (.c (.i .i64 0)))])
 (.cond (.t 68)
 (.seq (.reg [.op (some 10) none (.mv (.c (.b false)))])
 (.ret))
 (.skip)))
 (.seq (.reg [.op (some 69) none (.mv (.t 15)),
 .op (some 70) none (.mv (.t 18)),
 .op (some 71) none (.mx false (.t 69) [(.t 70)]),
 .op (some 72) none (.mv (.t 14)),
 .op (some 73) none (.conv .u64 (.t 72)),
 .op (some 74) none (.mv (.t 0)),
 .call (some 75) none (.c (.fn (.func 12) [] [])) [(.t 73), (.t 74)],
 .call (some 76) none (.c (.fn (.func 11) [] [])) [(.t 71), (.t 75)],
 .op (some 19) none (.mv (.t 76))])
 (.seq (.seq (.reg [.op (some 77) none (.mv (.t 15)),
 .op (some 78) none (.mv (.t 18)),
 .op (some 79) none (.ibin .gtr (.t 77) (.t 78)),
 .op (some 80) none (.mv (.t 79)),
 .op (some 81) (some (80, true)) (.mv (.t 11)),
 .op (some 82) (some (80, true)) (.mv (.t 15)),
 .op (some 83) (some (80, true)) (.ibin .sub (.t 82) (.c (.i .u64 1))),
 .call (some 84) (some (80, true)) (.c (.fn (.func 14) [] [])) [(.t 81), (.t 83)],
 .op (some 85) (some (80, true)) (.len 2 (.t 84)),
 .op (some 86) (some (80, true)) (.ibin .neq (.t 85) (.c (.i .i64 0))),
 .op (some 87) (some (80, true)) (.mv (.t 86)),
 .op (some 88) (some (87, false)) (.mv (.t 11)),
 .call (some 89) (some (87, false)) (.c (.fn (.func 14) [] [])) [(.t 88), (.c (.i .u64 0))],
 .op (some 90) (some (87, false)) (.len 2 (.t 89)),
 .op (some 91) (some (87, false)) (.ibin .neq (.t 90) (.c (.i .i64 0))),
 .op (some 92) (some (80, true)) (.pick (.t 87) (.c (.b true)) (.t 91)),
 .op (some 93) none (.pick (.t 80) (.t 92) (.c (.b false)))])
 (.cond (.t 93)
 (.seq (.reg [.op (some 10) none (.mv (.c (.b false)))])
 (.ret))
 (.skip)))
 (.seq (.seq (.reg [.op (some 94) none (.mv (.t 11)),
 .op (some 95) none (.mv (.t 15)),
 .op (some 96) none (.mv (.t 18)),
 .op (some 97) none (.mx false (.t 95) [(.t 96)]),
 .call (some 98) none (.c (.fn (.func 14) [] [])) [(.t 94), (.t 97)],
 .op (some 20) none (.mv (.t 98))])
 (.seq (.reg [.op (some 99) none (.mv (.t 20)),
 .op (some 100) none (.len 2 (.t 99)),
 .op (some 101) none (.ibin .lss (.t 100) (.c (.i .i64 1))),
 .op (some 102) none (.mv (.t 101)),
 .op (some 103) (some (102, false)) (.mv (.t 20)),
 .op (some 104) (some (102, false)) (.iad 1 (.t 103) (.c (.i .i64 0))),
 .op (some 105) (some (102, false)) (.ld1 (.t 104)),
 .op (some 106) (some (102, false)) (.ibin .neq (.t 105) (.c (.i .u64 1))),
 .op (some 107) none (.pick (.t 102) (.c (.b true)) (.t 106)),
 .op (some 108) none (.mv (.t 107)),
 .op (some 109) (some (108, false)) (.mv (.t 20)),
 .op (some 110) (some (108, false)) (.len 2 (.t 109)),
 .op (some 111) (some (108, false)) (.ibin .eql (.t 110) (.c (.i .i64 2))),
 .op (some 112) (some (108, false)) (.mv (.t 19)),
 .op (some 113) (some (108, false)) (.mv (.t 15)),
 .op (some 114) (some (108, false)) (.mv (.t 18)),
 .op (some 115) (some (108, false)) (.mx false (.t 113) [(.t 114)]),
 .op (some 116) (some (108, false)) (.ibin .eql (.t 112) (.t 115)),
 .op (some 117) (some (108, false)) (.eqn 1 true (.t 111) (.t 116)),
 .op (some 118) none (.pick (.t 108) (.c (.b true)) (.t 117))])
 (.cond (.t 118)
 (.seq (.reg [.op (some 10) none (.mv (.c (.b false)))])
 (.ret))
 (.skip))))
 (.seq (.seq (.reg [.op (some 119) none (.mv (.t 11)),
 .call (some 120) none (.c (.fn (.func 15) [] [])) [(.t 119)],
 .op (some 121) none (.ibin .eql (.t 120) (.c (.i .i64 0)))])
 (.cond (.t 121)
 (.seq (.reg [.call (some 122) none (.c (.fn (.func 16) [] [])) [],
 .op (some 10) none (.mv (.t 122))])
 (.ret))
 (.skip)))
 (.seq (.reg [.op (some 124) none (.mv (.t 11)),
 .call (some 125) none (.c (.fn (.func 13) [] [])) [(.t 124)],
 .op (some 123) none (.mv (.t 125)),
 .op (some 126) none (.ext (.t 123) 0),
 .op (some 127) none (.ext (.t 123) 1),
 .op (some 21) none (.mv (.t 126)),
 .op (some 22) none (.mv (.t 127))])
 (.seq (.reg [.op (some 128) none (.mv (.t 22)),
 .op (some 129) none (.mv (.t 128)),
 .op (some 130) (some (129, true)) (.mv (.t 21)),
 .op (some 131) (some (129, true)) (.mv (.t 19)),
 .op (some 132) (some (129, true)) (.ibin .eql (.t 130) (.t 131)),
 .op (some 133) none (.pick (.t 129) (.t 132) (.c (.b false))),
 .op (some 134) none (.mv (.t 133)),
 .op (some 135) (some (134, true)) (.mv (.t 11)),
 .op (some 136) (some (134, true)) (.mv (.t 19)),
 .op (some 137) (some (134, true)) (.ibin .sub (.t 136) (.c (.i .u64 1))),
 .call (some 138) (some (134, true)) (.c (.fn (.func 14) [] [])) [(.t 135), (.t 137)],
 .op (some 139) (some (134, true)) (.len 2 (.t 138)),
 .op (some 140) (some (134, true)) (.ibin .eql (.t 139) (.c (.i .i64 0))),
 .op (some 141) none (.pick (.t 134) (.t 140) (.c (.b false))),
 .op (some 142) none (.mv (.t 141)),
 .op (some 143) (some (142, true)) (.mv (.t 11)),
 .op (some 144) (some (142, true)) (.mv (.t 19)),
 .call (some 145) (some (142, true)) (.c (.fn (.func 14) [] [])) [(.t 143), (.t 144)],
 .op (some 146) (some (142, true)) (.bslice 1 1 [(.i .u64 0)] [(0, 1, (.c (.i .u64 2)))]),
 .call (some 147) (some (142, true)) (.c (.fn (.func 17) [] [])) [(.t 145), (.t 146)],
 .op (some 148) none (.pick (.t 142) (.t 147) (.c (.b false))),
 .op (some 149) none (.mv (.t 148)),
 .call (some 150) (some (149, true)) (.c (.fn (.func 16) [] [])) [],
 .op (some 151) none (.pick (.t 149) (.t 150) (.c (.b false))),
 .op (some 10) none (.mv (.t 151))])
 (.ret))))))))))))))),
 [.t 10]⟩
def k3 : List Nat := [0, 1, 2, 3, 4, 10, 11, 12, 13, 14, 15, 16, 17, 18, 19, 20, 21, 22, 42, 60, 68, 93, 118, 121]
set_option maxRecDepth 100000 in
theorem c3 : compF Go.Proofs.Try.prog 5 Go.Proofs.Try.f3 = some e3 := by kernel_rfl
/-- sandglass/sandglasslaw24.RingOrder -/
def e4 : IFunc := ⟨138, 3,
 .seq (.reg [.op (some 6) none (.mv (.c (.b false)))])
 (.seq (.reg [.op (some 19) none (.mv (.t 0)),
 .op (some 20) none (.ibin .rem (.t 19) (.c (.i .u8 40))),
 .op (some 21) none (.conv .i64 (.t 20)),
 .op (some 22) none (.ibin .add (.c (.i .i64 1)) (.t 21)),
 .op (some 23) none (.mv (.t 1)),
 .call (some 24) none (.c (.fn (.func 9) [] [])) [(.t 22), (.t 23)],
 .op (some 18) none (.mv (.t 24)),
 .op (some 25) none (.ext (.t 18) 0),
 .op (some 26) none (.ext (.t 18) 1),
 .op (some 7) none (.mv (.t 25)),
 .op (some 8) none (.mv (.t 26))])
 (.seq (.seq (.reg [.op (some 27) none (.mv (.t 8)),
 .op (some 28) none (.ibin .neq (.t 27) (.c (.i .i64 0)))])
 (.cond (.t 28)
 (.seq (.reg [.op (some 6) none (.mv (.c (.b false)))])
 (.ret))
 (.skip)))
 (.seq (.reg [.op (some 9) none (.mv (.c .nils)),
 .op (some 10) none (.mv (.c .nils))])
 (.seq (.reg [.op (some 11) none (.mv (.c (.i .u64 0)))])
 (.seq (.seq (.reg [.op (some 12) none (.mv (.c (.i .i64 0)))])
 (.block 0
 (.loop
 (.seq (.seq (.reg [.op (some 29) none (.mv (.t 12)),
 .op (some 30) none (.mv (.t 2)),
 .op (some 31) none (.len 2 (.t 30)),
 .op (some 32) none (.ibin .lss (.t 29) (.t 31)),
 .op (some 33) none (.mv (.t 32)),
 .op (some 34) (some (33, true)) (.mv (.t 12)),
 .op (some 35) (some (33, true)) (.ibin .lss (.t 34) (.c (.i .i64 80))),
 .op (some 36) none (.pick (.t 33) (.t 35) (.c (.b false)))])
 (.cond (.t 36)
 (.skip)
 (.exit 0)))
 (.seq (.block 1
 (.seq (.reg [.op (some 39) none (.mv (.t 2)),
 .op (some 40) none (.mv (.t 12)),
 .op (some 41) none (.iad 4 (.t 39) (.t 40)),
 .op (some 42) none (.ldn 4 (.t 41)),
 .op (some 13) none (.box (.c (.agg [(.i .u8 0), (.i .u64 0), (.i .u64 0), (.i .i64 0)]))),
 .op none none (.st 4 (.t 13) (.t 42))])
 (.seq (.seq (.reg [.op (some 43) none (.fad 0 (.t 13)),
 .op (some 44) none (.ld1 (.t 43)),
 .op (some 45) none (.ibin .eql (.t 44) (.c (.i .u8 1)))])
 (.cond (.t 45)
 (.reg [.op (some 46) none (.mv (.t 10)),
 .op (some 47) none (.mv (.t 7)),
 .op (some 48) none (.fad 2 (.t 13)),
 .op (some 49) none (.ld1 (.t 48)),
 .call (some 50) none (.c (.fn (.func 14) [] [])) [(.t 47), (.t 49)],
 .op (some 51) none (.app 1 8 (.t 46) (.t 50)),
 .op (some 10) none (.mv (.t 51))])
 (.seq (.reg [.op (some 52) none (.mv (.t 7)),
 .op (some 53) none (.fad 1 (.t 13)),
 .op (some 54) none (.ld1 (.t 53)),
 .op (some 55) none (.fad 3 (.t 13)),
 .op (some 56) none (.ld1 (.t 55)),
 .op (some 57) none (.fad 2 (.t 13)),
 .op (some 58) none (.ld1 (.t 57)),
 .call (some 59) none (.c (.fn (.func 10) [] [])) [(.t 52), (.t 54), (.t 56), (.t 58)],
 .op (some 60) none (.ibin .eql (.t 59) (.c (.i .i64 0)))])
 (.cond (.t 60)
 (.reg [.op (some 61) none (.mv (.t 9)),
 .op (some 62) none (.fad 1 (.t 13)),
 .op (some 63) none (.ld1 (.t 62)),
 .op (some 64) none (.bslice 1 1 [(.i .u64 0)] [(0, 1, (.t 63))]),
 .op (some 65) none (.app 1 8 (.t 61) (.t 64)),
 .op (some 9) none (.mv (.t 65))])
 (.skip)))))
 (.seq (.reg [.op (some 67) none (.mv (.t 7)),
 .call (some 68) none (.c (.fn (.func 13) [] [])) [(.t 67)],
 .op (some 66) none (.mv (.t 68)),
 .op (some 69) none (.ext (.t 66) 0),
 .op (some 70) none (.ext (.t 66) 1),
 .op (some 14) none (.mv (.t 69)),
 .op (some 15) none (.mv (.t 70))])
 (.seq (.seq (.reg [.op (some 71) none (.mv (.t 15)),
 .op (some 72) none (.mv (.t 71)),
 .op (some 73) (some (72, true)) (.mv (.t 14)),
 .op (some 74) (some (72, true)) (.mv (.t 11)),
 .op (some 75) (some (72, true)) (.ibin .lss (.t 73) (.t 74)),
 .op (some 76) none (.pick (.t 72) (.t 75) (.c (.b false))),
 .op (some 77) none (.mv (.t 76)),
 .op (some 78) (some (77, false)) (.mv (.t 10)),
 .op (some 79) (some (77, false)) (.len 2 (.t 78)),
 .op (some 80) (some (77, false)) (.mv (.t 9)),
 .op (some 81) (some (77, false)) (.len 2 (.t 80)),
 .op (some 82) (some (77, false)) (.ibin .gtr (.t 79) (.t 81)),
 .op (some 83) none (.pick (.t 77) (.c (.b true)) (.t 82)),
 .op (some 84) none (.mv (.t 83)),
 .op (some 85) (some (84, false)) (.mv (.t 10)),
 .op (some 86) (some (84, false)) (.mv (.t 9)),
 .op (some 87) (some (84, false)) (.mv (.t 10)),
 .op (some 88) (some (84, false)) (.len 2 (.t 87)),
 .op (some 89) (some (84, false)) (.slice 1 (.t 86) none (some (.t 88))),
 .call (some 90) (some (84, false)) (.c (.fn (.func 17) [] [])) [(.t 85), (.t 89)],
 .op (some 91) (some (84, false)) (.un .not (.t 90)),
 .op (some 92) none (.pick (.t 84) (.c (.b true)) (.t 91)),
 .op (some 93) none (.mv (.t 92)),
 .op (some 94) (some (93, false)) (.mv (.t 7)),
 .call (some 95) (some (93, false)) (.c (.fn (.func 15) [] [])) [(.t 94)],
 .op (some 96) (some (93, false)) (.mv (.t 9)),
 .op (some 97) (some (93, false)) (.len 2 (.t 96)),
 .op (some 98) (some (93, false)) (.mv (.t 10)),
 .op (some 99) (some (93, false)) (.len 2 (.t 98)),
 .op (some 100) (some (93, false)) (.ibin .sub (.t 97) (.t 99)),
 .op (some 101) (some (93, false)) (.ibin .neq (.t 95) (.t 100)),
 .op (some 102) none (.pick (.t 93) (.c (.b true)) (.t 101))])
 (.cond (.t 102)
 (.seq (.reg [.op (some 6) none (.mv (.c (.b false)))])
 (.ret))
 (.skip)))
 (.seq (.reg [.op (some 103) none (.mv (.t 15))])
 (.cond (.t 103)
 (.reg [.op (some 104) none (.mv (.t 14)),
 .op (some 11) none (.mv (.t 104))])
 (.skip))))))))
 (.reg [.op (some 37) none (.mv (.t 12)),
 .op (some 38) none (.ibin .add (.t 37) (.c (.i .i64 1))),
 .op (some 12) none (.mv (.t 38))]))))))
 (.seq (.reg [.op (some 105) none (.mv (.t 10)),
 .op (some 106) none (.mv (.t 7)),
 .call (some 107) none (.c (.fn (.func 14) [] [])) [(.t 106), (.c (.i .u64 18446744073709551615))],
 .op (some 108) none (.app 1 8 (.t 105) (.t 107)),
 .op (some 10) none (.mv (.t 108))])
 (.seq (.reg [.op (some 110) none (.mv (.t 7)),
 .call (some 111) none (.c (.fn (.func 13) [] [])) [(.t 110)],
 .op (some 109) none (.mv (.t 111)),
 .op (some 112) none (.ext (.t 109) 0),
 .op (some 113) none (.ext (.t 109) 1),
 .op (some 16) none (.mv (.t 112)),
 .op (some 17) none (.mv (.t 113))])
 (.seq (.reg [.op (some 114) none (.mv (.t 10)),
 .op (some 115) none (.mv (.t 9)),
 .call (some 116) none (.c (.fn (.func 17) [] [])) [(.t 114), (.t 115)],
 .op (some 117) none (.mv (.t 116)),
 .op (some 118) (some (117, true)) (.mv (.t 17)),
 .op (some 119) (some (117, true)) (.un .not (.t 118)),
 .op (some 120) none (.pick (.t 117) (.t 119) (.c (.b false))),
 .op (some 121) none (.mv (.t 120)),
 .op (some 122) (some (121, true)) (.mv (.t 7)),
 .call (some 123) (some (121, true)) (.c (.fn (.func 15) [] [])) [(.t 122)],
 .op (some 124) (some (121, true)) (.ibin .eql (.t 123) (.c (.i .i64 0))),
 .op (some 125) none (.pick (.t 121) (.t 124) (.c (.b false))),
 .op (some 126) none (.mv (.t 125)),
 .op (some 127) (some (126, true)) (.mv (.t 7)),
 .call (some 128) (some (126, true)) (.c (.fn (.func 18) [] [])) [(.t 127)],
 .op (some 129) (some (126, true)) (.ibin .eql (.t 128) (.c (.i .u64 0))),
 .op (some 130) none (.pick (.t 126) (.t 129) (.c (.b false))),
 .op (some 131) none (.mv (.t 130)),
 .op (some 132) (some (131, true)) (.mv (.t 7)),
 .call (some 133) (some (131, true)) (.c (.fn (.func 19) [] [])) [(.t 132)],
 .op (some 134) none (.pick (.t 131) (.t 133) (.c (.b false))),
 .op (some 135) none (.mv (.t 134)),
 .call (some 136) (some (135, true)) (.c (.fn (.func 16) [] [])) [],
 .op (some 137) none (.pick (.t 135) (.t 136) (.c (.b false))),
 .op (some 6) none (.mv (.t 137))])
 (.ret))))))))),
 [.t 6]⟩
def k4 : List Nat := [0, 1, 2, 6, 7, 8, 9, 10, 11, 12, 13, 14, 15, 17, 28, 36, 45, 60, 102, 103]
set_option maxRecDepth 100000 in
theorem c4 : compF Go.Proofs.Try.prog 3 Go.Proofs.Try.f4 = some e4 := by kernel_rfl
/-- sandglass/sandglasslaw24.RingShuts -/
def e5 : IFunc := ⟨145, 3,
 .seq (.reg [.op (some 6) none (.mv (.c (.b false)))])
 (.seq (.reg [.op (some 15) none (.mv (.t 0)),
 .op (some 16) none (.ibin .rem (.t 15) (.c (.i .u8 100))),
 .op (some 17) none (.conv .i64 (.t 16)),
 .op (some 18) none (.ibin .add (.c (.i .i64 1)) (.t 17)),
 .op (some 7) none (.mv (.t 18))])
 (.seq (.reg [.op (some 20) none (.mv (.t 7)),
 .call (some 21) none (.c (.fn (.func 9) [] [])) [(.t 20), (.c (.i .u64 1000000000))],
 .op (some 19) none (.mv (.t 21)),
 .op (some 22) none (.ext (.t 19) 0),
 .op (some 23) none (.ext (.t 19) 1),
 .op (some 8) none (.mv (.t 22)),
 .op (some 9) none (.mv (.t 23))])
 (.seq (.seq (.reg [.op (some 24) none (.mv (.t 9)),
 .op (some 25) none (.ibin .neq (.t 24) (.c (.i .i64 0)))])
 (.cond (.t 25)
 (.seq (.reg [.op (some 6) none (.mv (.c (.b false)))])
 (.ret))
 (.skip)))
 (.seq (.reg [.op (some 26) none (.mv (.t 2)),
 .op (some 27) none (.ibin .geq (.t 26) (.c (.i .i64 1))),
 .op (some 28) none (.mv (.t 27)),
 .op (some 29) (some (28, true)) (.mv (.t 2)),
 .op (some 30) (some (28, true)) (.ibin .leq (.t 29) (.c (.i .i64 65536))),
 .op (some 31) none (.pick (.t 28) (.t 30) (.c (.b false))),
 .op (some 10) none (.mv (.t 31))])
 (.seq (.seq (.reg [.op (some 32) none (.mv (.t 7)),
 .op (some 33) none (.mv (.c (.i .i64 0)))])
 (.block 0
 (.loop
 (.seq (.reg [.op (some 34) none (.ibin .lss (.t 33) (.t 32))])
 (.seq (.cond (.t 34)
 (.skip)
 (.exit 0))
 (.seq (.block 1
 (.seq (.reg [.op (some 35) none (.mv (.t 33)),
 .op (some 11) none (.mv (.t 35))])
 (.seq (.reg [.op (some 36) none (.mv (.t 8)),
 .op (some 37) none (.mv (.t 11)),
 .op (some 38) none (.conv .u64 (.t 37)),
 .op (some 39) none (.mv (.t 2)),
 .call (some 40) none (.c (.fn (.func 10) [] [])) [(.t 36), (.t 38), (.t 39), (.c (.i .u64 0))],
 .op (some 12) none (.mv (.t 40))])
 (.seq (.seq (.reg [.op (some 41) none (.mv (.t 12)),
 .op (some 42) none (.ibin .eql (.t 41) (.c (.i .i64 0))),
 .op (some 43) none (.mv (.t 10)),
 .op (some 44) none (.eqn 1 true (.t 42) (.t 43)),
 .op (some 45) none (.mv (.t 44)),
 .op (some 46) (some (45, false)) (.mv (.t 10)),
 .op (some 47) (some (45, false)) (.un .not (.t 46)),
 .op (some 48) (some (45, false)) (.mv (.t 47)),
 .op (some 49) (some (48, true)) (.mv (.t 12)),
 .op (some 50) (some (48, true)) (.ibin .neq (.t 49) (.c (.i .i64 2))),
 .op (some 51) (some (48, true)) (.mv (.t 50)),
 .op (some 52) (some (51, false)) (.mv (.t 8)),
 .call (some 53) (some (51, false)) (.c (.fn (.func 15) [] [])) [(.t 52)],
 .op (some 54) (some (51, false)) (.ibin .neq (.t 53) (.c (.i .i64 0))),
 .op (some 55) (some (48, true)) (.pick (.t 51) (.c (.b true)) (.t 54)),
 .op (some 56) (some (45, false)) (.pick (.t 48) (.t 55) (.c (.b false))),
 .op (some 57) none (.pick (.t 45) (.c (.b true)) (.t 56))])
 (.cond (.t 57)
 (.seq (.reg [.op (some 6) none (.mv (.c (.b false)))])
 (.ret))
 (.skip)))
 (.seq (.seq (.reg [.op (some 58) none (.mv (.t 10)),
 .op (some 59) none (.un .not (.t 58))])
 (.cond (.t 59)
 (.seq (.reg [.op (some 60) none (.mv (.t 8)),
 .call (some 61) none (.c (.fn (.func 19) [] [])) [(.t 60)],
 .op (some 62) none (.mv (.t 61)),
 .op (some 63) (some (62, true)) (.mv (.t 8)),
 .call (some 64) (some (62, true)) (.c (.fn (.func 18) [] [])) [(.t 63)],
 .op (some 65) (some (62, true)) (.ibin .eql (.t 64) (.c (.i .u64 0))),
 .op (some 66) none (.pick (.t 62) (.t 65) (.c (.b false))),
 .op (some 67) none (.mv (.t 66)),
 .call (some 68) (some (67, true)) (.c (.fn (.func 16) [] [])) [],
 .op (some 69) none (.pick (.t 67) (.t 68) (.c (.b false))),
 .op (some 6) none (.mv (.t 69))])
 (.ret))
 (.skip)))
 (.seq (.reg [.op (some 70) none (.mv (.t 8)),
 .call (some 71) none (.c (.fn (.func 19) [] [])) [(.t 70)],
 .op (some 72) none (.mv (.t 11)),
 .op (some 73) none (.mv (.t 7)),
 .op (some 74) none (.ibin .sub (.t 73) (.c (.i .i64 1))),
 .op (some 75) none (.ibin .eql (.t 72) (.t 74)),
 .op (some 76) none (.eqn 1 false (.t 71) (.t 75))])
 (.cond (.t 76)
 (.seq (.reg [.op (some 6) none (.mv (.c (.b false)))])
 (.ret))
 (.skip))))))))
 (.reg [.op (some 77) none (.ibin .add (.t 33) (.c (.i .i64 1))),
 .op (some 33) none (.mv (.t 77))])))))))
 (.seq (.seq (.reg [.op (some 78) none (.mv (.t 8)),
 .op (some 79) none (.mv (.t 2)),
 .call (some 80) none (.c (.fn (.func 10) [] [])) [(.t 78), (.c (.i .u64 99)), (.t 79), (.c (.i .u64 0))],
 .op (some 81) none (.ibin .neq (.t 80) (.c (.i .i64 4))),
 .op (some 82) none (.mv (.t 81)),
 .op (some 83) (some (82, false)) (.mv (.t 8)),
 .call (some 84) (some (82, false)) (.c (.fn (.func 10) [] [])) [(.t 83), (.c (.i .u64 99)), (.c (.i .i64 0)), (.c (.i .u64 0))],
 .op (some 85) (some (82, false)) (.ibin .neq (.t 84) (.c (.i .i64 2))),
 .op (some 86) none (.pick (.t 82) (.c (.b true)) (.t 85)),
 .op (some 87) none (.mv (.t 86)),
 .op (some 88) (some (87, false)) (.mv (.t 8)),
 .call (some 89) (some (87, false)) (.c (.fn (.func 15) [] [])) [(.t 88)],
 .op (some 90) (some (87, false)) (.mv (.t 7)),
 .op (some 91) (some (87, false)) (.ibin .neq (.t 89) (.t 90)),
 .op (some 92) none (.pick (.t 87) (.c (.b true)) (.t 91)),
 .op (some 93) none (.mv (.t 92)),
 .op (some 94) (some (93, false)) (.mv (.t 8)),
 .call (some 95) (some (93, false)) (.c (.fn (.func 18) [] [])) [(.t 94)],
 .op (some 96) (some (93, false)) (.mv (.t 7)),
 .op (some 97) (some (93, false)) (.conv .u64 (.t 96)),
 .op (some 98) (some (93, false)) (.mv (.t 2)),
 .op (some 99) (some (93, false)) (.conv .u64 (.t 98)),
 .op (some 100) (some (93, false)) (.ibin .mul (.t 97) (.t 99)),
 .op (some 101) (some (93, false)) (.ibin .neq (.t 95) (.t 100)),
 .op (some 102) none (.pick (.t 93) (.c (.b true)) (.t 101))])
 (.cond (.t 102)
 (.seq (.reg [.op (some 6) none (.mv (.c (.b false)))])
 (.ret))
 (.skip)))
 (.seq (.seq (.reg [.op (some 103) none (.mv (.t 7)),
 .op (some 104) none (.mv (.t 1)),
 .op (some 105) none (.conv .i64 (.t 104)),
 .op (some 106) none (.mx true (.t 103) [(.t 105)]),
 .op (some 107) none (.mv (.c (.i .i64 0)))])
 (.block 2
 (.loop
 (.seq (.reg [.op (some 108) none (.ibin .lss (.t 107) (.t 106))])
 (.seq (.cond (.t 108)
 (.skip)
 (.exit 2))
 (.seq (.block 3
 (.seq (.reg [.op (some 109) none (.mv (.t 107)),
 .op (some 13) none (.mv (.t 109))])
 (.seq (.reg [.op (some 110) none (.mv (.t 8)),
 .op (some 111) none (.mv (.t 13)),
 .op (some 112) none (.ibin .add (.t 111) (.c (.i .i64 1))),
 .op (some 113) none (.conv .u64 (.t 112)),
 .op (some 114) none (.mv (.t 2)),
 .op (some 115) none (.conv .u64 (.t 114)),
 .op (some 116) none (.ibin .mul (.t 113) (.t 115)),
 .call (some 117) none (.c (.fn (.func 14) [] [])) [(.t 110), (.t 116)],
 .op (some 14) none (.mv (.t 117))])
 (.seq (.reg [.op (some 118) none (.mv (.t 14)),
 .op (some 119) none (.mv (.t 13)),
 .op (some 120) none (.conv .u64 (.t 119)),
 .op (some 121) none (.bslice 1 1 [(.i .u64 0)] [(0, 1, (.t 120))]),
 .call (some 122) none (.c (.fn (.func 17) [] [])) [(.t 118), (.t 121)],
 .op (some 123) none (.un .not (.t 122)),
 .op (some 124) none (.mv (.t 123)),
 .op (some 125) (some (124, false)) (.mv (.t 8)),
 .call (some 126) (some (124, false)) (.c (.fn (.func 19) [] [])) [(.t 125)],
 .op (some 127) (some (124, false)) (.mv (.t 8)),
 .call (some 128) (some (124, false)) (.c (.fn (.func 15) [] [])) [(.t 127)],
 .op (some 129) (some (124, false)) (.mv (.t 7)),
 .op (some 130) (some (124, false)) (.ibin .quo (.t 129) (.c (.i .i64 2))),
 .op (some 131) (some (124, false)) (.ibin .leq (.t 128) (.t 130)),
 .op (some 132) (some (124, false)) (.eqn 1 true (.t 126) (.t 131)),
 .op (some 133) none (.pick (.t 124) (.c (.b true)) (.t 132)),
 .op (some 134) none (.mv (.t 133)),
 .op (some 135) (some (134, false)) (.mv (.t 8)),
 .call (some 136) (some (134, false)) (.c (.fn (.func 15) [] [])) [(.t 135)],
 .op (some 137) (some (134, false)) (.mv (.t 7)),
 .op (some 138) (some (134, false)) (.ibin .sub (.t 137) (.c (.i .i64 1))),
 .op (some 139) (some (134, false)) (.mv (.t 13)),
 .op (some 140) (some (134, false)) (.ibin .sub (.t 138) (.t 139)),
 .op (some 141) (some (134, false)) (.ibin .neq (.t 136) (.t 140)),
 .op (some 142) none (.pick (.t 134) (.c (.b true)) (.t 141))])
 (.cond (.t 142)
 (.seq (.reg [.op (some 6) none (.mv (.c (.b false)))])
 (.ret))
 (.skip))))))
 (.reg [.op (some 143) none (.ibin .add (.t 107) (.c (.i .i64 1))),
 .op (some 107) none (.mv (.t 143))])))))))
 (.seq (.reg [.call (some 144) none (.c (.fn (.func 16) [] [])) [],
 .op (some 6) none (.mv (.t 144))])
 (.ret))))))))),
 [.t 6]⟩
def k5 : List Nat := [0, 1, 2, 6, 7, 8, 9, 10, 11, 12, 13, 14, 25, 32, 33, 34, 57, 59, 76, 102, 106, 107, 108, 142]
set_option maxRecDepth 100000 in
theorem c5 : compF Go.Proofs.Try.prog 3 Go.Proofs.Try.f5 = some e5 := by kernel_rfl
/-- sandglass/sandglasslaw24.RingLine -/
def e6 : IFunc := ⟨145, 5,
 .seq (.reg [.op (some 10) none (.mv (.c (.b false)))])
 (.seq (.reg [.op (some 27) none (.mv (.t 0)),
 .op (some 28) none (.ibin .rem (.t 27) (.c (.i .u8 40))),
 .op (some 29) none (.conv .i64 (.t 28)),
 .op (some 30) none (.ibin .add (.c (.i .i64 1)) (.t 29)),
 .op (some 31) none (.mv (.t 1)),
 .call (some 32) none (.c (.fn (.func 9) [] [])) [(.t 30), (.t 31)],
 .op (some 26) none (.mv (.t 32)),
 .op (some 33) none (.ext (.t 26) 0),
 .op (some 34) none (.ext (.t 26) 1),
 .op (some 11) none (.mv (.t 33)),
 .op (some 12) none (.mv (.t 34))])
 (.seq (.seq (.reg [.op (some 35) none (.mv (.t 12)),
 .op (some 36) none (.ibin .neq (.t 35) (.c (.i .i64 0)))])
 (.cond (.t 36)
 (.seq (.reg [.op (some 10) none (.mv (.c (.b false)))])
 (.ret))
 (.skip)))
 (.seq (.reg [.any (some 37) none (.mkm none),
 .op (some 13) none (.mv (.t 37))])
 (.seq (.reg [.op (some 14) none (.mv (.c (.i .u64 0))),
 .op (some 15) none (.mv (.c (.i .u64 0))),
 .op (some 16) none (.mv (.c (.i .u64 0)))])
 (.seq (.reg [.op (some 17) none (.mv (.c (.i .u64 0))),
 .op (some 18) none (.mv (.c (.i .u64 0)))])
 (.seq (.reg [.op (some 38) none (.mv (.t 3)),
 .op (some 39) none (.mv (.t 4)),
 .op (some 40) none (.mx true (.t 38) [(.t 39)]),
 .op (some 41) none (.mv (.t 3)),
 .op (some 42) none (.mv (.t 4)),
 .op (some 43) none (.mx false (.t 41) [(.t 42)]),
 .op (some 19) none (.mv (.t 40)),
 .op (some 20) none (.mv (.t 43))])
 (.seq (.seq (.reg [.op (some 21) none (.mv (.c (.i .i64 0)))])
 (.block 0
 (.loop
 (.seq (.seq (.reg [.op (some 44) none (.mv (.t 21)),
 .op (some 45) none (.mv (.t 2)),
 .op (some 46) none (.len 2 (.t 45)),
 .op (some 47) none (.ibin .lss (.t 44) (.t 46)),
 .op (some 48) none (.mv (.t 47)),
 .op (some 49) (some (48, true)) (.mv (.t 21)),
 .op (some 50) (some (48, true)) (.ibin .lss (.t 49) (.c (.i .i64 80))),
 .op (some 51) none (.pick (.t 48) (.t 50) (.c (.b false))),
 .op (some 52) none (.mv (.t 51)),
 .op (some 53) (some (52, true)) (.mv (.t 21)),
 .op (some 54) (some (52, true)) (.mv (.t 20)),
 .op (some 55) (some (52, true)) (.conv .i64 (.t 54)),
 .op (some 56) (some (52, true)) (.ibin .leq (.t 53) (.t 55)),
 .op (some 57) none (.pick (.t 52) (.t 56) (.c (.b false)))])
 (.cond (.t 57)
 (.skip)
 (.exit 0)))
 (.seq (.block 1
 (.seq (.reg [.op (some 60) none (.mv (.t 2)),
 .op (some 61) none (.mv (.t 21)),
 .op (some 62) none (.iad 4 (.t 60) (.t 61)),
 .op (some 63) none (.ldn 4 (.t 62)),
 .op (some 22) none (.box (.c (.agg [(.i .u8 0), (.i .u64 0), (.i .u64 0), (.i .i64 0)]))),
 .op none none (.st 4 (.t 22) (.t 63))])
 (.seq (.seq (.reg [.op (some 64) none (.fad 0 (.t 22)),
 .op (some 65) none (.ld1 (.t 64)),
 .op (some 66) none (.ibin .neq (.t 65) (.c (.i .u8 1)))])
 (.cond (.t 66)
 (.seq (.reg [.op (some 67) none (.mv (.t 14)),
 .op (some 68) none (.ibin .add (.t 67) (.c (.i .u64 1))),
 .op (some 14) none (.mv (.t 68))])
 (.seq (.seq (.reg [.op (some 69) none (.mv (.t 11)),
 .op (some 70) none (.mv (.t 14)),
 .op (some 71) none (.fad 3 (.t 22)),
 .op (some 72) none (.ld1 (.t 71)),
 .op (some 73) none (.fad 2 (.t 22)),
 .op (some 74) none (.ld1 (.t 73)),
 .call (some 75) none (.c (.fn (.func 10) [] [])) [(.t 69), (.t 70), (.t 72), (.t 74)],
 .op (some 23) none (.mv (.t 75))])
 (.seq (.reg [.op (some 76) none (.mv (.t 23)),
 .op (some 77) none (.ibin .eql (.t 76) (.c (.i .i64 0)))])
 (.cond (.t 77)
 (.seq (.reg [.op (some 78) none (.mv (.t 15)),
 .op (some 79) none (.fad 2 (.t 22)),
 .op (some 80) none (.ld1 (.t 79)),
 .op (some 81) none (.mx false (.t 78) [(.t 80)]),
 .op (some 15) none (.mv (.t 81))])
 (.reg [.op (some 82) none (.mv (.t 13)),
 .op (some 83) none (.mv (.t 14)),
 .op (some 84) none (.fad 3 (.t 22)),
 .op (some 85) none (.ld1 (.t 84)),
 .op (some 86) none (.conv .u64 (.t 85)),
 .any none none (.mup (.int .u64) (.t 82) (.t 83) (.t 86))]))
 (.skip))))
 (.exit 1)))
 (.skip)))
 (.seq (.reg [.op (some 87) none (.mv (.t 15)),
 .op (some 88) none (.fad 2 (.t 22)),
 .op (some 89) none (.ld1 (.t 88)),
 .op (some 90) none (.mx false (.t 87) [(.t 89)]),
 .op (some 15) none (.mv (.t 90))])
 (.seq (.seq (.reg [.op (some 91) none (.mv (.t 11)),
 .op (some 92) none (.fad 2 (.t 22)),
 .op (some 93) none (.ld1 (.t 92)),
 .call (some 94) none (.c (.fn (.func 14) [] [])) [(.t 91), (.t 93)],
 .op (some 95) none (.len 2 (.t 94)),
 .op (some 96) none (.mv (.c (.i .i64 0)))])
 (.block 2
 (.loop
 (.seq (.reg [.op (some 97) none (.ibin .lss (.t 96) (.t 95))])
 (.seq (.cond (.t 97)
 (.skip)
 (.exit 2))
 (.seq (.block 3
 (.seq (.reg [.op (some 98) none (.iad 1 (.t 94) (.t 96)),
 .op (some 99) none (.ld1 (.t 98)),
 .op (some 25) none (.mv (.t 99))])
 (.seq (.reg [.op (some 100) none (.mv (.t 21)),
 .op (some 101) none (.mv (.t 19)),
 .op (some 102) none (.conv .i64 (.t 101)),
 .op (some 103) none (.ibin .gtr (.t 100) (.t 102))])
 (.cond (.t 103)
 (.seq (.reg [.op (some 104) none (.mv (.t 17)),
 .op (some 105) none (.mv (.t 13)),
 .op (some 106) none (.mv (.t 25)),
 .op (some 107) none (.lkp (.int .u64) false (.i .u64 0) (.t 105) (.t 106)),
 .op (some 108) none (.ibin .add (.t 104) (.t 107)),
 .op (some 17) none (.mv (.t 108))])
 (.reg [.op (some 109) none (.mv (.t 18)),
 .op (some 110) none (.mv (.t 13)),
 .op (some 111) none (.mv (.t 25)),
 .op (some 112) none (.lkp (.int .u64) false (.i .u64 0) (.t 110) (.t 111)),
 .op (some 113) none (.mx false (.t 109) [(.t 112)]),
 .op (some 18) none (.mv (.t 113))]))
 (.skip)))))
 (.reg [.op (some 114) none (.ibin .add (.t 96) (.c (.i .i64 1))),
 .op (some 96) none (.mv (.t 114))])))))))
 (.seq (.seq (.reg [.op (some 115) none (.mv (.t 1)),
 .op (some 116) none (.ibin .eql (.t 115) (.c (.i .u64 0))),
 .op (some 117) none (.mv (.t 116)),
 .op (some 118) (some (117, true)) (.mv (.t 11)),
 .call (some 119) (some (117, true)) (.c (.fn (.func 15) [] [])) [(.t 118)],
 .op (some 120) (some (117, true)) (.ibin .neq (.t 119) (.c (.i .i64 0))),
 .op (some 121) none (.pick (.t 117) (.t 120) (.c (.b false)))])
 (.cond (.t 121)
 (.seq (.reg [.op (some 10) none (.mv (.c (.b false)))])
 (.ret))
 (.skip)))
 (.seq (.seq (.reg [.op (some 122) none (.mv (.t 21)),
 .op (some 123) none (.mv (.t 19)),
 .op (some 124) none (.conv .i64 (.t 123)),
 .op (some 125) none (.ibin .leq (.t 122) (.t 124))])
 (.cond (.t 125)
 (.reg [.op (some 126) none (.mv (.t 15)),
 .op (some 16) none (.mv (.t 126))])
 (.skip)))
 (.seq (.reg [.op (some 127) none (.mv (.t 1)),
 .op (some 128) none (.ibin .gtr (.t 127) (.c (.i .u64 0))),
 .op (some 129) none (.mv (.t 128)),
 .op (some 130) (some (129, true)) (.mv (.t 15)),
 .op (some 131) (some (129, true)) (.ibin .lss (.t 130) (.c (.i .u64 18446744073709551615))),
 .op (some 132) none (.pick (.t 129) (.t 131) (.c (.b false))),
 .op (some 133) none (.mv (.t 132)),
 .op (some 134) (some (133, true)) (.mv (.t 17)),
 .op (some 135) (some (133, true)) (.mv (.t 15)),
 .op (some 136) (some (133, true)) (.mv (.t 16)),
 .op (some 137) (some (133, true)) (.ibin .sub (.t 135) (.t 136)),
 .op (some 138) (some (133, true)) (.mv (.t 1)),
 .call (some 139) (some (133, true)) (.c (.fn (.func 20) [] [])) [(.t 137), (.t 138)],
 .op (some 140) (some (133, true)) (.mv (.t 18)),
 .call (some 141) (some (133, true)) (.c (.fn (.func 11) [] [])) [(.t 139), (.t 140)],
 .op (some 142) (some (133, true)) (.ibin .gtr (.t 134) (.t 141)),
 .op (some 143) none (.pick (.t 133) (.t 142) (.c (.b false)))])
 (.cond (.t 143)
 (.seq (.reg [.op (some 10) none (.mv (.c (.b false)))])
 (.ret))
 (.skip))))))))))
 (.reg [.op (some 58) none (.mv (.t 21)),
 .op (some 59) none (.ibin .add (.t 58) (.c (.i .i64 1))),
 .op (some 21) none (.mv (.t 59))]))))))
 (.seq (.reg [.call (some 144) none (.c (.fn (.func 16) [] [])) [],
 .op (some 10) none (.mv (.t 144))])
 (.ret))))))))),
 [.t 10]⟩
def k6 : List Nat := [0, 1, 2, 3, 4, 10, 11, 12, 13, 14, 15, 16, 17, 18, 19, 20, 21, 22, 23, 25, 36, 57, 66, 77, 94, 95, 96, 97, 103, 121, 125, 143]
set_option maxRecDepth 100000 in
theorem c6 : compF Go.Proofs.Try.prog 5 Go.Proofs.Try.f6 = some e6 := by kernel_rfl
/-- sandglass/sandglasslaw24.RingNone -/
def e8 : IFunc := ⟨63, 3,
 .seq (.reg [.op (some 6) none (.mv (.c (.b false)))])
 (.seq (.seq (.reg [.op (some 11) none (.build [(.i .i64 0), (.i .i64 0), .nils, (.i .u64 0), (.i .u64 0), (.i .u64 0), (.i .u64 0), (.b false)] []),
 .op (some 12) none (.box (.t 11)),
 .op (some 13) none (.bslice 1 2 [.nilp, .nilp] [(0, 1, (.c .nilp)), (1, 1, (.t 12))]),
 .op (some 14) none (.len 2 (.t 13)),
 .op (some 15) none (.mv (.c (.i .i64 0)))])
 (.block 0
 (.loop
 (.seq (.reg [.op (some 16) none (.ibin .lss (.t 15) (.t 14))])
 (.seq (.cond (.t 16)
 (.skip)
 (.exit 0))
 (.seq (.block 1
 (.seq (.reg [.op (some 17) none (.iad 1 (.t 13) (.t 15)),
 .op (some 18) none (.ld1 (.t 17)),
 .op (some 8) none (.mv (.t 18))])
 (.seq (.reg [.op (some 20) none (.mv (.t 8)),
 .call (some 21) none (.c (.fn (.func 13) [] [])) [(.t 20)],
 .op (some 19) none (.mv (.t 21)),
 .op (some 22) none (.ext (.t 19) 0),
 .op (some 23) none (.ext (.t 19) 1),
 .op (some 9) none (.mv (.t 22)),
 .op (some 10) none (.mv (.t 23))])
 (.seq (.reg [.op (some 24) none (.mv (.t 8)),
 .op (some 25) none (.mv (.t 0)),
 .op (some 26) none (.mv (.t 1)),
 .op (some 27) none (.mv (.t 2)),
 .call (some 28) none (.c (.fn (.func 10) [] [])) [(.t 24), (.t 25), (.t 26), (.t 27)],
 .op (some 29) none (.ibin .neq (.t 28) (.c (.i .i64 1))),
 .op (some 30) none (.mv (.t 29)),
 .op (some 31) (some (30, false)) (.mv (.t 8)),
 .op (some 32) (some (30, false)) (.mv (.t 2)),
 .call (some 33) (some (30, false)) (.c (.fn (.func 14) [] [])) [(.t 31), (.t 32)],
 .op (some 34) (some (30, false)) (.len 2 (.t 33)),
 .op (some 35) (some (30, false)) (.ibin .neq (.t 34) (.c (.i .i64 0))),
 .op (some 36) none (.pick (.t 30) (.c (.b true)) (.t 35)),
 .op (some 37) none (.mv (.t 36)),
 .op (some 38) (some (37, false)) (.mv (.t 9)),
 .op (some 39) (some (37, false)) (.ibin .neq (.t 38) (.c (.i .u64 0))),
 .op (some 40) none (.pick (.t 37) (.c (.b true)) (.t 39)),
 .op (some 41) none (.mv (.t 40)),
 .op (some 42) (some (41, false)) (.mv (.t 10)),
 .op (some 43) none (.pick (.t 41) (.c (.b true)) (.t 42)),
 .op (some 44) none (.mv (.t 43)),
 .op (some 45) (some (44, false)) (.mv (.t 8)),
 .call (some 46) (some (44, false)) (.c (.fn (.func 19) [] [])) [(.t 45)],
 .op (some 47) none (.pick (.t 44) (.c (.b true)) (.t 46)),
 .op (some 48) none (.mv (.t 47)),
 .op (some 49) (some (48, false)) (.mv (.t 8)),
 .call (some 50) (some (48, false)) (.c (.fn (.func 15) [] [])) [(.t 49)],
 .op (some 51) (some (48, false)) (.mv (.t 8)),
 .call (some 52) (some (48, false)) (.c (.fn (.func 24) [] [])) [(.t 51)],
 .op (some 53) (some (48, false)) (.ibin .add (.t 50) (.t 52)),
 .op (some 54) (some (48, false)) (.ibin .neq (.t 53) (.c (.i .i64 0))),
 .op (some 55) none (.pick (.t 48) (.c (.b true)) (.t 54)),
 .op (some 56) none (.mv (.t 55)),
 .op (some 57) (some (56, false)) (.mv (.t 8)),
 .call (some 58) (some (56, false)) (.c (.fn (.func 18) [] [])) [(.t 57)],
 .op (some 59) (some (56, false)) (.ibin .neq (.t 58) (.c (.i .u64 0))),
 .op (some 60) none (.pick (.t 56) (.c (.b true)) (.t 59))])
 (.cond (.t 60)
 (.seq (.reg [.op (some 6) none (.mv (.c (.b false)))])
 (.ret))
 (.skip))))))
 (.reg [.op (some 61) none (.ibin .add (.t 15) (.c (.i .i64 1))),
 .op (some 15) none (.mv (.t 61))])))))))
 (.seq (.reg [.call (some 62) none (.c (.fn (.func 16) [] [])) [],
 .op (some 6) none (.mv (.t 62))])
 (.ret))),
 [.t 6]⟩
def k8 : List Nat := [0, 1, 2, 6, 8, 9, 10, 13, 14, 15, 16, 60]
set_option maxRecDepth 100000 in
theorem c8 : compF Go.Proofs.Try.prog 3 Go.Proofs.Try.f8 = some e8 := by kernel_rfl
/-- sandglass/ring.New -/
def e9 : IFunc := ⟨18, 2,
 .seq (.reg [.op (some 4) none (.mv (.c .nilp)),
 .op (some 5) none (.mv (.c (.i .i64 0)))])
 (.seq (.seq (.reg [.op (some 6) none (.mv (.t 0)),
 .op (some 7) none (.ibin .lss (.t 6) (.c (.i .i64 1))),
 .op (some 8) none (.mv (.t 7)),
 .op (some 9) (some (8, false)) (.mv (.t 0)),
 .op (some 10) (some (8, false)) (.ibin .gtr (.t 9) (.c (.i .i64 4096))),
 .op (some 11) none (.pick (.t 8) (.c (.b true)) (.t 10))])
 (.cond (.t 11)
 (.seq (.reg [.op (some 4) none (.mv (.c .nilp)),
 .op (some 5) none (.mv (.c (.i .i64 2)))])
 (.ret))
 (.skip)))
 (.seq (.reg [.op (some 12) none (.mv (.t 0)),
 .op (some 13) none (.mksl 3 24 [(.i .u64 0), (.i .i64 0), (.i .u64 0)] (.t 12) (.t 12)),
 .op (some 14) none (.build [(.i .i64 0), (.i .i64 0), .nils] [(2, 1, (.t 13))]),
 .op (some 15) none (.mv (.t 1)),
 .op (some 16) none (.build [(.i .i64 0), (.i .i64 0), .nils, (.i .u64 0), (.i .u64 0), (.i .u64 0), (.i .u64 0), (.b false)] [(0, 3, (.t 14)), (3, 1, (.t 15))]),
 .op (some 17) none (.box (.t 16)),
 .op (some 4) none (.mv (.t 17)),
 .op (some 5) none (.mv (.c (.i .i64 0)))])
 (.ret))),
 [.t 4, .t 5]⟩
def k9 : List Nat := [0, 1, 4, 5, 11]
set_option maxRecDepth 100000 in
theorem c9 : compF Go.Proofs.Try.prog 2 Go.Proofs.Try.f9 = some e9 := by kernel_rfl
/-- (*sandglass/ring.Ring).Put -/
def e10 : IFunc := ⟨102, 4,
 .seq (.reg [.op (some 8) none (.mv (.c (.i .i64 0)))])
 (.seq (.block 0
 (.seq (.reg [.op (some 10) none (.mv (.t 0)),
 .call (some 11) none (.c (.fn (.func 27) [] [])) [(.t 10)],
 .op (some 9) none (.mv (.t 11))])
 (.cond (.t 9)
 (.seq (.reg [.op (some 8) none (.mv (.c (.i .i64 1)))])
 (.ret))
 (.seq (.reg [.op (some 13) none (.mv (.t 2)),
 .op (some 14) none (.ibin .lss (.t 13) (.c (.i .i64 1))),
 .op (some 15) none (.mv (.t 14)),
 .op (some 16) (some (15, false)) (.mv (.t 2)),
 .op (some 17) (some (15, false)) (.ibin .gtr (.t 16) (.c (.i .i64 65536))),
 .op (some 18) none (.pick (.t 15) (.c (.b true)) (.t 17)),
 .op (some 12) none (.mv (.t 18))])
 (.cond (.t 12)
 (.seq (.reg [.op (some 8) none (.mv (.c (.i .i64 2)))])
 (.ret))
 (.seq (.dreg [.op (some 20) none (.mv (.t 0)),
 .op (some 21) none (.nilchk (.t 20)),
 .op (some 22) none (.fad 0 (.t 21)),
 .op (some 23) none (.fad 1 (.t 22)),
 .op (some 24) none (.ld1 (.t 23)),
 .op (some 25) none (.mv (.t 0)),
 .op (some 26) none (.nilchk (.t 25)),
 .op (some 27) none (.fad 0 (.t 26)),
 .op (some 28) none (.fad 2 (.t 27)),
 .op (some 29) none (.ld1 (.t 28)),
 .op (some 30) none (.len 2 (.t 29)),
 .op (some 31) none (.ibin .eql (.t 24) (.t 30)),
 .op (some 19) none (.mv (.t 31))]
 [0, 1, 2, 3, 4, 5, 6, 7, 8, 9, 10, 11, 12] [0, 1, 3, 7, 15, 0, 32, 96, 224, 480, 992, 2047, 4095])
 (.cond (.t 19)
 (.seq (.reg [.op (some 8) none (.mv (.c (.i .i64 4)))])
 (.ret))
 (.skip))))))))
 (.seq (.reg [.op (some 32) none (.mv (.t 0)),
 .op (some 33) none (.mv (.t 0)),
 .op (some 34) none (.nilchk (.t 33)),
 .op (some 35) none (.fad 4 (.t 34)),
 .op (some 36) none (.ld1 (.t 35)),
 .op (some 37) none (.mv (.t 3)),
 .op (some 38) none (.mx false (.t 36) [(.t 37)]),
 .op (some 39) none (.nilchk (.t 32)),
 .op (some 40) none (.fad 4 (.t 39)),
 .op none none (.st 1 (.t 40) (.t 38))])
 (.seq (.dreg [.op (some 41) none (.mv (.t 0)),
 .op (some 42) none (.mv (.t 0)),
 .op (some 43) none (.nilchk (.t 42)),
 .op (some 44) none (.fad 4 (.t 43)),
 .op (some 45) none (.ld1 (.t 44)),
 .op (some 46) none (.mv (.t 0)),
 .op (some 47) none (.nilchk (.t 46)),
 .op (some 48) none (.fad 5 (.t 47)),
 .op (some 49) none (.ld1 (.t 48)),
 .op (some 50) none (.mx false (.t 45) [(.t 49)]),
 .op (some 51) none (.mv (.t 2)),
 .op (some 52) none (.conv .u64 (.t 51)),
 .op (some 53) none (.mv (.t 0)),
 .op (some 54) none (.nilchk (.t 53)),
 .op (some 55) none (.fad 3 (.t 54)),
 .op (some 56) none (.ld1 (.t 55)),
 .call (some 57) none (.c (.fn (.func 12) [] [])) [(.t 52), (.t 56)],
 .call (some 58) none (.c (.fn (.func 11) [] [])) [(.t 50), (.t 57)],
 .op (some 59) none (.nilchk (.t 41)),
 .op (some 60) none (.fad 5 (.t 59)),
 .op none none (.st 1 (.t 60) (.t 58))]
 [0, 1, 2, 3, 4, 5, 6, 7, 8, 9, 10, 11, 12, 13, 14, 15, 16, 17, 18, 19, 20] [0, 0, 2, 6, 14, 0, 32, 96, 224, 510, 0, 1024, 0, 4096, 12288, 28672, 64512, 131070, 262143, 524287, 1048575])
 (.seq (.dreg [.op (some 61) none (.mv (.t 0)),
 .op (some 62) none (.nilchk (.t 61)),
 .op (some 63) none (.fad 0 (.t 62)),
 .op (some 64) none (.mv (.t 1)),
 .op (some 65) none (.mv (.t 2)),
 .op (some 66) none (.mv (.t 0)),
 .op (some 67) none (.nilchk (.t 66)),
 .op (some 68) none (.fad 5 (.t 67)),
 .op (some 69) none (.ld1 (.t 68)),
 .op (some 70) none (.build [(.i .u64 0), (.i .i64 0), (.i .u64 0)] [(0, 1, (.t 64)), (1, 1, (.t 65)), (2, 1, (.t 69))]),
 .call (some 71) none (.c (.fn (.func 28) [] [])) [(.t 63), (.t 70)]]
 [0, 1, 2, 3, 4, 5, 6, 7, 8, 9, 10] [0, 1, 3, 0, 0, 0, 32, 96, 224, 504, 1023])
 (.seq (.reg [.op (some 72) none (.mv (.t 0)),
 .op (some 73) none (.nilchk (.t 72)),
 .op (some 74) none (.fad 6 (.t 73)),
 .op (some 75) none (.ld1 (.t 74)),
 .op (some 76) none (.mv (.t 2)),
 .op (some 77) none (.conv .u64 (.t 76)),
 .op (some 78) none (.ibin .add (.t 75) (.t 77)),
 .op (some 79) none (.nilchk (.t 72)),
 .op (some 80) none (.fad 6 (.t 79)),
 .op none none (.st 1 (.t 80) (.t 78))])
 (.seq (.dreg [.op (some 81) none (.mv (.t 0)),
 .op (some 82) none (.mv (.t 0)),
 .op (some 83) none (.nilchk (.t 82)),
 .op (some 84) none (.fad 7 (.t 83)),
 .op (some 85) none (.ld1 (.t 84)),
 .op (some 86) none (.mv (.t 85)),
 .op (some 87) (some (86, false)) (.mv (.t 0)),
 .op (some 88) (some (86, false)) (.nilchk (.t 87)),
 .op (some 89) (some (86, false)) (.fad 0 (.t 88)),
 .op (some 90) (some (86, false)) (.fad 1 (.t 89)),
 .op (some 91) (some (86, false)) (.ld1 (.t 90)),
 .op (some 92) (some (86, false)) (.mv (.t 0)),
 .op (some 93) (some (86, false)) (.nilchk (.t 92)),
 .op (some 94) (some (86, false)) (.fad 0 (.t 93)),
 .op (some 95) (some (86, false)) (.fad 2 (.t 94)),
 .op (some 96) (some (86, false)) (.ld1 (.t 95)),
 .op (some 97) (some (86, false)) (.len 2 (.t 96)),
 .op (some 98) (some (86, false)) (.ibin .eql (.t 91) (.t 97)),
 .op (some 99) none (.pick (.t 86) (.c (.b true)) (.t 98)),
 .op (some 100) none (.nilchk (.t 81)),
 .op (some 101) none (.fad 7 (.t 100)),
 .op none none (.st 1 (.t 101) (.t 99))]
 [0, 1, 2, 3, 4, 5, 6, 7, 8, 9, 10, 11, 12, 13, 14, 15, 16, 17, 18, 19, 20, 21] [0, 0, 2, 6, 14, 30, 62, 126, 254, 510, 1022, 62, 2110, 6206, 14398, 30782, 63550, 131070, 262142, 524287, 1048575, 2097151])
 (.seq (.reg [.op (some 8) none (.mv (.c (.i .i64 0)))])
 (.ret)))))))),
 [.t 8]⟩
def k10 : List Nat := [0, 1, 2, 3, 8, 9, 12, 19]
set_option maxRecDepth 100000 in
theorem c10 : compF Go.Proofs.Try.prog 4 Go.Proofs.Try.f10 = some e10 := by kernel_rfl
/-- (*sandglass/ring.Ring).Next -/
def e13 : IFunc := ⟨18, 1,
 .seq (.reg [.op (some 2) none (.mv (.c (.i .u64 0))),
 .op (some 3) none (.mv (.c (.b false)))])
 (.seq (.seq (.reg [.op (some 6) none (.mv (.t 0)),
 .call (some 7) none (.c (.fn (.func 27) [] [])) [(.t 6)]])
 (.cond (.t 7)
 (.seq (.reg [.op (some 2) none (.mv (.c (.i .u64 0))),
 .op (some 3) none (.mv (.c (.b false)))])
 (.ret))
 (.skip)))
 (.seq (.reg [.op (some 9) none (.mv (.t 0)),
 .op (some 10) none (.nilchk (.t 9)),
 .op (some 11) none (.fad 0 (.t 10)),
 .call (some 12) none (.c (.fn (.func 31) [] [])) [(.t 11)],
 .op (some 8) none (.mv (.t 12)),
 .op (some 13) none (.ext (.t 8) 0),
 .op (some 14) none (.ext (.t 8) 1),
 .op (some 4) none (.box (.c (.agg [(.i .u64 0), (.i .i64 0), (.i .u64 0)]))),
 .op none none (.st 3 (.t 4) (.t 13)),
 .op (some 5) none (.mv (.t 14))])
 (.seq (.reg [.op (some 15) none (.fad 2 (.t 4)),
 .op (some 16) none (.ld1 (.t 15)),
 .op (some 17) none (.mv (.t 5)),
 .op (some 2) none (.mv (.t 16)),
 .op (some 3) none (.mv (.t 17))])
 (.ret)))),
 [.t 2, .t 3]⟩
def k13 : List Nat := [0, 2, 3, 4, 5, 7]
set_option maxRecDepth 100000 in
theorem c13 : compF Go.Proofs.Try.prog 1 Go.Proofs.Try.f13 = some e13 := by kernel_rfl
/-- (*sandglass/ring.Ring).Done -/
def e14 : IFunc := ⟨73, 2,
 .seq (.reg [.op (some 4) none (.mv (.c .nils))])
 (.seq (.seq (.reg [.op (some 8) none (.mv (.t 0)),
 .call (some 9) none (.c (.fn (.func 27) [] [])) [(.t 8)]])
 (.cond (.t 9)
 (.seq (.reg [.op (some 4) none (.mv (.c .nils))])
 (.ret))
 (.skip)))
 (.seq (.reg [.op (some 10) none (.mv (.t 0)),
 .op (some 11) none (.mv (.t 0)),
 .op (some 12) none (.nilchk (.t 11)),
 .op (some 13) none (.fad 4 (.t 12)),
 .op (some 14) none (.ld1 (.t 13)),
 .op (some 15) none (.mv (.t 1)),
 .op (some 16) none (.mx false (.t 14) [(.t 15)]),
 .op (some 17) none (.nilchk (.t 10)),
 .op (some 18) none (.fad 4 (.t 17)),
 .op none none (.st 1 (.t 18) (.t 16))])
 (.seq (.reg [.op (some 5) none (.mv (.c .nils))])
 (.seq (.block 0
 (.loop
 (.block 1
 (.seq (.reg [.op (some 20) none (.mv (.t 0)),
 .op (some 21) none (.nilchk (.t 20)),
 .op (some 22) none (.fad 0 (.t 21)),
 .call (some 23) none (.c (.fn (.func 31) [] [])) [(.t 22)],
 .op (some 19) none (.mv (.t 23)),
 .op (some 24) none (.ext (.t 19) 0),
 .op (some 25) none (.ext (.t 19) 1),
 .op (some 6) none (.box (.c (.agg [(.i .u64 0), (.i .i64 0), (.i .u64 0)]))),
 .op none none (.st 3 (.t 6) (.t 24)),
 .op (some 7) none (.mv (.t 25))])
 (.seq (.seq (.dreg [.op (some 26) none (.mv (.t 7)),
 .op (some 27) none (.un .not (.t 26)),
 .op (some 28) none (.mv (.t 27)),
 .op (some 29) (some (28, false)) (.fad 2 (.t 6)),
 .op (some 30) (some (28, false)) (.ld1 (.t 29)),
 .op (some 31) (some (28, false)) (.mv (.t 0)),
 .op (some 32) (some (28, false)) (.nilchk (.t 31)),
 .op (some 33) (some (28, false)) (.fad 4 (.t 32)),
 .op (some 34) (some (28, false)) (.ld1 (.t 33)),
 .op (some 35) (some (28, false)) (.ibin .gtr (.t 30) (.t 34)),
 .op (some 36) none (.pick (.t 28) (.c (.b true)) (.t 35))]
 [0, 1, 2, 3, 4, 5, 6, 7, 8, 9, 10] [0, 1, 3, 7, 15, 7, 39, 103, 231, 511, 1023])
 (.cond (.t 36)
 (.exit 0)
 (.skip)))
 (.seq (.reg [.op (some 37) none (.mv (.t 0)),
 .op (some 38) none (.nilchk (.t 37)),
 .op (some 39) none (.fad 0 (.t 38)),
 .call (some 40) none (.c (.fn (.func 32) [] [])) [(.t 39)]])
 (.seq (.dreg [.op (some 41) none (.mv (.t 0)),
 .op (some 42) none (.nilchk (.t 41)),
 .op (some 43) none (.fad 6 (.t 42)),
 .op (some 44) none (.ld1 (.t 43)),
 .op (some 45) none (.fad 1 (.t 6)),
 .op (some 46) none (.ld1 (.t 45)),
 .op (some 47) none (.conv .u64 (.t 46)),
 .op (some 48) none (.ibin .sub (.t 44) (.t 47)),
 .op (some 49) none (.nilchk (.t 41)),
 .op (some 50) none (.fad 6 (.t 49)),
 .op none none (.st 1 (.t 50) (.t 48))]
 [0, 1, 2, 3, 4, 5, 6, 7, 8, 9, 10] [0, 1, 3, 7, 0, 16, 48, 127, 255, 511, 1023])
 (.reg [.op (some 51) none (.mv (.t 5)),
 .op (some 52) none (.fad 0 (.t 6)),
 .op (some 53) none (.ld1 (.t 52)),
 .op (some 54) none (.bslice 1 1 [(.i .u64 0)] [(0, 1, (.t 53))]),
 .op (some 55) none (.app 1 8 (.t 51) (.t 54)),
 .op (some 5) none (.mv (.t 55))]))))))))
 (.seq (.seq (.dreg [.op (some 56) none (.mv (.t 0)),
 .op (some 57) none (.nilchk (.t 56)),
 .op (some 58) none (.fad 0 (.t 57)),
 .op (some 59) none (.fad 1 (.t 58)),
 .op (some 60) none (.ld1 (.t 59)),
 .op (some 61) none (.mv (.t 0)),
 .op (some 62) none (.nilchk (.t 61)),
 .op (some 63) none (.fad 0 (.t 62)),
 .op (some 64) none (.fad 2 (.t 63)),
 .op (some 65) none (.ld1 (.t 64)),
 .op (some 66) none (.len 2 (.t 65)),
 .op (some 67) none (.ibin .quo (.t 66) (.c (.i .i64 2))),
 .op (some 68) none (.ibin .leq (.t 60) (.t 67))]
 [0, 1, 2, 3, 4, 5, 6, 7, 8, 9, 10, 11, 12] [0, 1, 3, 7, 15, 0, 32, 96, 224, 480, 992, 2016, 4095])
 (.cond (.t 68)
 (.reg [.op (some 69) none (.mv (.t 0)),
 .op (some 70) none (.nilchk (.t 69)),
 .op (some 71) none (.fad 7 (.t 70)),
 .op none none (.st 1 (.t 71) (.c (.b false)))])
 (.skip)))
 (.seq (.reg [.op (some 72) none (.mv (.t 5)),
 .op (some 4) none (.mv (.t 72))])
 (.ret))))))),
 [.t 4]⟩
def k14 : List Nat := [0, 1, 4, 5, 6, 7, 9, 36, 68]
set_option maxRecDepth 100000 in
theorem c14 : compF Go.Proofs.Try.prog 2 Go.Proofs.Try.f14 = some e14 := by kernel_rfl
/-- (*sandglass/ring.Ring).Used -/
def e15 : IFunc := ⟨10, 1,
 .seq (.reg [.op (some 2) none (.mv (.c (.i .i64 0)))])
 (.seq (.seq (.reg [.op (some 3) none (.mv (.t 0)),
 .call (some 4) none (.c (.fn (.func 27) [] [])) [(.t 3)]])
 (.cond (.t 4)
 (.seq (.reg [.op (some 2) none (.mv (.c (.i .i64 0)))])
 (.ret))
 (.skip)))
 (.seq (.reg [.op (some 5) none (.mv (.t 0)),
 .op (some 6) none (.nilchk (.t 5)),
 .op (some 7) none (.fad 0 (.t 6)),
 .op (some 8) none (.fad 1 (.t 7)),
 .op (some 9) none (.ld1 (.t 8)),
 .op (some 2) none (.mv (.t 9))])
 (.ret))),
 [.t 2]⟩
def k15 : List Nat := [0, 2, 4]
set_option maxRecDepth 100000 in
theorem c15 : compF Go.Proofs.Try.prog 1 Go.Proofs.Try.f15 = some e15 := by kernel_rfl
/-- sandglass/sandglasslaw24.awake -/
def e16 : IFunc := ⟨114, 0,
 .seq (.reg [.op (some 0) none (.mv (.c (.b false)))])
 (.seq (.reg [.call (some 19) none (.c (.fn (.func 9) [] [])) [(.c (.i .i64 2)), (.c (.i .u64 1000))],
 .op (some 18) none (.mv (.t 19)),
 .op (some 20) none (.ext (.t 18) 0),
 .op (some 21) none (.ext (.t 18) 1),
 .op (some 1) none (.mv (.t 20)),
 .op (some 2) none (.mv (.t 21))])
 (.seq (.reg [.call (some 23) none (.c (.fn (.func 9) [] [])) [(.c (.i .i64 0)), (.c (.i .u64 1000))],
 .op (some 22) none (.mv (.t 23)),
 .op (some 24) none (.ext (.t 22) 0),
 .op (some 25) none (.ext (.t 22) 1),
 .op (some 3) none (.mv (.t 24)),
 .op (some 4) none (.mv (.t 25))])
 (.seq (.reg [.op (some 26) none (.mv (.t 1)),
 .call (some 27) none (.c (.fn (.func 10) [] [])) [(.t 26), (.c (.i .u64 7)), (.c (.i .i64 10)), (.c (.i .u64 0))],
 .op (some 28) none (.mv (.t 1)),
 .call (some 29) none (.c (.fn (.func 10) [] [])) [(.t 28), (.c (.i .u64 8)), (.c (.i .i64 20)), (.c (.i .u64 0))],
 .op (some 30) none (.mv (.t 1)),
 .call (some 31) none (.c (.fn (.func 10) [] [])) [(.t 30), (.c (.i .u64 9)), (.c (.i .i64 1)), (.c (.i .u64 0))],
 .op (some 5) none (.mv (.t 27)),
 .op (some 6) none (.mv (.t 29)),
 .op (some 7) none (.mv (.t 31))])
 (.seq (.reg [.op (some 32) none (.mv (.t 1)),
 .call (some 33) none (.c (.fn (.func 19) [] [])) [(.t 32)],
 .op (some 34) none (.un .not (.t 33)),
 .op (some 8) none (.mv (.t 34))])
 (.seq (.reg [.op (some 36) none (.mv (.t 1)),
 .call (some 37) none (.c (.fn (.func 13) [] [])) [(.t 36)],
 .op (some 35) none (.mv (.t 37)),
 .op (some 38) none (.ext (.t 35) 0),
 .op (some 39) none (.ext (.t 35) 1),
 .op (some 9) none (.mv (.t 38)),
 .op (some 10) none (.mv (.t 39))])
 (.seq (.reg [.op (some 40) none (.mv (.t 1)),
 .call (some 41) none (.c (.fn (.func 14) [] [])) [(.t 40), (.c (.i .u64 9999999))],
 .op (some 42) none (.mv (.t 1)),
 .call (some 43) none (.c (.fn (.func 14) [] [])) [(.t 42), (.c (.i .u64 10000000))],
 .op (some 11) none (.mv (.t 41)),
 .op (some 12) none (.mv (.t 43))])
 (.seq (.reg [.op (some 44) none (.mv (.t 1)),
 .call (some 45) none (.c (.fn (.func 19) [] [])) [(.t 44)],
 .op (some 13) none (.mv (.t 45))])
 (.seq (.reg [.op (some 46) none (.mv (.t 1)),
 .call (some 47) none (.c (.fn (.func 10) [] [])) [(.t 46), (.c (.i .u64 9)), (.c (.i .i64 5)), (.c (.i .u64 10000000))],
 .op (some 14) none (.mv (.t 47))])
 (.seq (.reg [.op (some 48) none (.mv (.t 1)),
 .call (some 49) none (.c (.fn (.func 19) [] [])) [(.t 48)],
 .op (some 50) none (.un .not (.t 49)),
 .op (some 15) none (.mv (.t 50))])
 (.seq (.reg [.op (some 51) none (.mv (.t 1)),
 .call (some 52) none (.c (.fn (.func 14) [] [])) [(.t 51), (.c (.i .u64 30000000))],
 .op (some 53) none (.mv (.t 1)),
 .call (some 54) none (.c (.fn (.func 14) [] [])) [(.t 53), (.c (.i .u64 35000000))],
 .op (some 16) none (.mv (.t 52)),
 .op (some 17) none (.mv (.t 54))])
 (.seq (.reg [.op (some 55) none (.mv (.t 2)),
 .op (some 56) none (.ibin .eql (.t 55) (.c (.i .i64 0))),
 .op (some 57) none (.mv (.t 56)),
 .op (some 58) (some (57, true)) (.mv (.t 4)),
 .op (some 59) (some (57, true)) (.ibin .eql (.t 58) (.c (.i .i64 2))),
 .op (some 60) none (.pick (.t 57) (.t 59) (.c (.b false))),
 .op (some 61) none (.mv (.t 60)),
 .op (some 62) (some (61, true)) (.mv (.t 5)),
 .op (some 63) (some (61, true)) (.mv (.t 6)),
 .op (some 64) (some (61, true)) (.ibin .add (.t 62) (.t 63)),
 .op (some 65) (some (61, true)) (.mv (.t 14)),
 .op (some 66) (some (61, true)) (.ibin .add (.t 64) (.t 65)),
 .op (some 67) (some (61, true)) (.ibin .eql (.t 66) (.c (.i .i64 0))),
 .op (some 68) none (.pick (.t 61) (.t 67) (.c (.b false))),
 .op (some 69) none (.mv (.t 68)),
 .op (some 70) (some (69, true)) (.mv (.t 7)),
 .op (some 71) (some (69, true)) (.ibin .eql (.t 70) (.c (.i .i64 4))),
 .op (some 72) none (.pick (.t 69) (.t 71) (.c (.b false))),
 .op (some 73) none (.mv (.t 72)),
 .op (some 74) (some (73, true)) (.mv (.t 8)),
 .op (some 75) none (.pick (.t 73) (.t 74) (.c (.b false))),
 .op (some 76) none (.mv (.t 75)),
 .op (some 77) (some (76, true)) (.mv (.t 9)),
 .op (some 78) (some (76, true)) (.ibin .eql (.t 77) (.c (.i .u64 10000000))),
 .op (some 79) none (.pick (.t 76) (.t 78) (.c (.b false))),
 .op (some 80) none (.mv (.t 79)),
 .op (some 81) (some (80, true)) (.mv (.t 10)),
 .op (some 82) none (.pick (.t 80) (.t 81) (.c (.b false))),
 .op (some 83) none (.mv (.t 82)),
 .op (some 84) (some (83, true)) (.mv (.t 11)),
 .op (some 85) (some (83, true)) (.len 2 (.t 84)),
 .op (some 86) (some (83, true)) (.ibin .eql (.t 85) (.c (.i .i64 0))),
 .op (some 87) none (.pick (.t 83) (.t 86) (.c (.b false))),
 .op (some 88) none (.mv (.t 87)),
 .op (some 89) (some (88, true)) (.mv (.t 12)),
 .op (some 90) (some (88, true)) (.bslice 1 1 [(.i .u64 0)] [(0, 1, (.c (.i .u64 7)))]),
 .call (some 91) (some (88, true)) (.c (.fn (.func 17) [] [])) [(.t 89), (.t 90)],
 .op (some 92) none (.pick (.t 88) (.t 91) (.c (.b false))),
 .op (some 93) none (.mv (.t 92)),
 .op (some 94) (some (93, true)) (.mv (.t 13)),
 .op (some 95) none (.pick (.t 93) (.t 94) (.c (.b false))),
 .op (some 96) none (.mv (.t 95)),
 .op (some 97) (some (96, true)) (.mv (.t 15)),
 .op (some 98) none (.pick (.t 96) (.t 97) (.c (.b false))),
 .op (some 99) none (.mv (.t 98)),
 .op (some 100) (some (99, true)) (.mv (.t 16)),
 .op (some 101) (some (99, true)) (.bslice 1 1 [(.i .u64 0)] [(0, 1, (.c (.i .u64 8)))]),
 .call (some 102) (some (99, true)) (.c (.fn (.func 17) [] [])) [(.t 100), (.t 101)],
 .op (some 103) none (.pick (.t 99) (.t 102) (.c (.b false))),
 .op (some 104) none (.mv (.t 103)),
 .op (some 105) (some (104, true)) (.mv (.t 17)),
 .op (some 106) (some (104, true)) (.bslice 1 1 [(.i .u64 0)] [(0, 1, (.c (.i .u64 9)))]),
 .call (some 107) (some (104, true)) (.c (.fn (.func 17) [] [])) [(.t 105), (.t 106)],
 .op (some 108) none (.pick (.t 104) (.t 107) (.c (.b false))),
 .op (some 109) none (.mv (.t 108)),
 .op (some 110) (some (109, true)) (.mv (.t 1)),
 .call (some 111) (some (109, true)) (.c (.fn (.func 15) [] [])) [(.t 110)],
 .op (some 112) (some (109, true)) (.ibin .eql (.t 111) (.c (.i .i64 0))),
 .op (some 113) none (.pick (.t 109) (.t 112) (.c (.b false))),
 .op (some 0) none (.mv (.t 113))])
 (.ret)))))))))))),
 [.t 0]⟩
def k16 : List Nat := [0, 1, 2, 4, 5, 6, 7, 8, 9, 10, 11, 12, 13, 14, 15, 16, 17]
set_option maxRecDepth 100000 in
theorem c16 : compF Go.Proofs.Try.prog 0 Go.Proofs.Try.f16 = some e16 := by kernel_rfl
/-- sandglass/sandglasslaw24.handles -/
def e17 : IFunc := ⟨26, 2,
 .seq (.reg [.op (some 4) none (.mv (.c (.b false)))])
 (.seq (.seq (.reg [.op (some 6) none (.mv (.t 0)),
 .op (some 7) none (.len 2 (.t 6)),
 .op (some 8) none (.mv (.t 1)),
 .op (some 9) none (.len 2 (.t 8)),
 .op (some 10) none (.ibin .neq (.t 7) (.t 9))])
 (.cond (.t 10)
 (.seq (.reg [.op (some 4) none (.mv (.c (.b false)))])
 (.ret))
 (.skip)))
 (.seq (.seq (.reg [.op (some 11) none (.mv (.t 0)),
 .op (some 12) none (.len 2 (.t 11)),
 .op (some 13) none (.mv (.c (.i .i64 0)))])
 (.block 0
 (.loop
 (.seq (.reg [.op (some 14) none (.ibin .lss (.t 13) (.t 12))])
 (.seq (.cond (.t 14)
 (.skip)
 (.exit 0))
 (.seq (.block 1
 (.seq (.reg [.op (some 15) none (.mv (.t 13)),
 .op (some 5) none (.mv (.t 15))])
 (.seq (.dreg [.op (some 16) none (.mv (.t 0)),
 .op (some 17) none (.mv (.t 5)),
 .op (some 18) none (.iad 1 (.t 16) (.t 17)),
 .op (some 19) none (.ld1 (.t 18)),
 .op (some 20) none (.mv (.t 1)),
 .op (some 21) none (.mv (.t 5)),
 .op (some 22) none (.iad 1 (.t 20) (.t 21)),
 .op (some 23) none (.ld1 (.t 22)),
 .op (some 24) none (.ibin .neq (.t 19) (.t 23))]
 [0, 1, 2, 3, 4, 5, 6, 7, 8] [0, 0, 3, 7, 0, 0, 48, 112, 255])
 (.cond (.t 24)
 (.seq (.reg [.op (some 4) none (.mv (.c (.b false)))])
 (.ret))
 (.skip)))))
 (.reg [.op (some 25) none (.ibin .add (.t 13) (.c (.i .i64 1))),
 .op (some 13) none (.mv (.t 25))])))))))
 (.seq (.reg [.op (some 4) none (.mv (.c (.b true)))])
 (.ret)))),
 [.t 4]⟩
def k17 : List Nat := [0, 1, 4, 5, 10, 12, 13, 14, 24]
set_option maxRecDepth 100000 in
theorem c17 : compF Go.Proofs.Try.prog 2 Go.Proofs.Try.f17 = some e17 := by kernel_rfl
/-- (*sandglass/ring.Ring).Bytes -/
def e18 : IFunc := ⟨9, 1,
 .seq (.reg [.op (some 2) none (.mv (.c (.i .u64 0)))])
 (.seq (.seq (.reg [.op (some 3) none (.mv (.t 0)),
 .call (some 4) none (.c (.fn (.func 27) [] [])) [(.t 3)]])
 (.cond (.t 4)
 (.seq (.reg [.op (some 2) none (.mv (.c (.i .u64 0)))])
 (.ret))
 (.skip)))
 (.seq (.reg [.op (some 5) none (.mv (.t 0)),
 .op (some 6) none (.nilchk (.t 5)),
 .op (some 7) none (.fad 6 (.t 6)),
 .op (some 8) none (.ld1 (.t 7)),
 .op (some 2) none (.mv (.t 8))])
 (.ret))),
 [.t 2]⟩
def k18 : List Nat := [0, 2, 4]
set_option maxRecDepth 100000 in
theorem c18 : compF Go.Proofs.Try.prog 1 Go.Proofs.Try.f18 = some e18 := by kernel_rfl
/-- (*sandglass/ring.Ring).Open -/
def e19 : IFunc := ⟨13, 1,
 .seq (.reg [.op (some 2) none (.mv (.c (.b false)))])
 (.seq (.reg [.op (some 3) none (.mv (.t 0)),
 .call (some 4) none (.c (.fn (.func 27) [] [])) [(.t 3)],
 .op (some 5) none (.un .not (.t 4)),
 .op (some 6) none (.mv (.t 5)),
 .op (some 7) (some (6, true)) (.mv (.t 0)),
 .op (some 8) (some (6, true)) (.nilchk (.t 7)),
 .op (some 9) (some (6, true)) (.fad 7 (.t 8)),
 .op (some 10) (some (6, true)) (.ld1 (.t 9)),
 .op (some 11) (some (6, true)) (.un .not (.t 10)),
 .op (some 12) none (.pick (.t 6) (.t 11) (.c (.b false))),
 .op (some 2) none (.mv (.t 12))])
 (.ret)),
 [.t 2]⟩
def k19 : List Nat := [0, 2]
set_option maxRecDepth 100000 in
theorem c19 : compF Go.Proofs.Try.prog 1 Go.Proofs.Try.f19 = some e19 := by kernel_rfl
/-- (*sandglass/ring.Ring).Room -/
def e24 : IFunc := ⟨11, 1,
 .seq (.reg [.op (some 2) none (.mv (.c (.i .i64 0)))])
 (.seq (.seq (.reg [.op (some 3) none (.mv (.t 0)),
 .call (some 4) none (.c (.fn (.func 27) [] [])) [(.t 3)]])
 (.cond (.t 4)
 (.seq (.reg [.op (some 2) none (.mv (.c (.i .i64 0)))])
 (.ret))
 (.skip)))
 (.seq (.reg [.op (some 5) none (.mv (.t 0)),
 .op (some 6) none (.nilchk (.t 5)),
 .op (some 7) none (.fad 0 (.t 6)),
 .op (some 8) none (.fad 2 (.t 7)),
 .op (some 9) none (.ld1 (.t 8)),
 .op (some 10) none (.len 2 (.t 9)),
 .op (some 2) none (.mv (.t 10))])
 (.ret))),
 [.t 2]⟩
def k24 : List Nat := [0, 2, 4]
set_option maxRecDepth 100000 in
theorem c24 : compF Go.Proofs.Try.prog 1 Go.Proofs.Try.f24 = some e24 := by kernel_rfl
/-- (*sandglass/ring.Ring).none -/
def e27 : IFunc := ⟨13, 1,
 .seq (.reg [.op (some 2) none (.mv (.c (.b false)))])
 (.seq (.reg [.op (some 3) none (.mv (.t 0)),
 .op (some 4) none (.eqn 2 false (.t 3) (.c .nilp)),
 .op (some 5) none (.mv (.t 4)),
 .op (some 6) (some (5, false)) (.mv (.t 0)),
 .op (some 7) (some (5, false)) (.nilchk (.t 6)),
 .op (some 8) (some (5, false)) (.fad 0 (.t 7)),
 .op (some 9) (some (5, false)) (.fad 2 (.t 8)),
 .op (some 10) (some (5, false)) (.ld1 (.t 9)),
 .op (some 11) (some (5, false)) (.eqn 3 false (.t 10) (.c .nils)),
 .op (some 12) none (.pick (.t 5) (.c (.b true)) (.t 11)),
 .op (some 2) none (.mv (.t 12))])
 (.ret)),
 [.t 2]⟩
def k27 : List Nat := [0, 2]
set_option maxRecDepth 100000 in
theorem c27 : compF Go.Proofs.Try.prog 1 Go.Proofs.Try.f27 = some e27 := by kernel_rfl
/-- (*sandglass/ring.round[sandglass/ring.sent]).push -/
def e28 : IFunc := ⟨32, 2,
 .seq (.reg [.op (some 3) none (.box (.t 1))])
 (.seq (.dreg [.op (some 4) none (.mv (.t 0)),
 .op (some 5) none (.nilchk (.t 4)),
 .op (some 6) none (.fad 2 (.t 5)),
 .op (some 7) none (.ld1 (.t 6)),
 .op (some 8) none (.mv (.t 0)),
 .op (some 9) none (.nilchk (.t 8)),
 .op (some 10) none (.fad 0 (.t 9)),
 .op (some 11) none (.ld1 (.t 10)),
 .op (some 12) none (.mv (.t 0)),
 .op (some 13) none (.nilchk (.t 12)),
 .op (some 14) none (.fad 1 (.t 13)),
 .op (some 15) none (.ld1 (.t 14)),
 .op (some 16) none (.ibin .add (.t 11) (.t 15)),
 .op (some 17) none (.mv (.t 0)),
 .op (some 18) none (.nilchk (.t 17)),
 .op (some 19) none (.fad 2 (.t 18)),
 .op (some 20) none (.ld1 (.t 19)),
 .op (some 21) none (.len 2 (.t 20)),
 .op (some 22) none (.ibin .rem (.t 16) (.t 21)),
 .op (some 23) none (.ldn 3 (.t 3)),
 .op (some 24) none (.iad 3 (.t 7) (.t 22)),
 .op none none (.st 3 (.t 24) (.t 23))]
 [0, 1, 2, 3, 4, 5, 6, 7, 8, 9, 10, 11, 12, 13, 14, 15, 16, 17, 18, 19, 20, 21] [0, 1, 3, 7, 0, 16, 48, 112, 0, 256, 768, 1792, 4080, 0, 8192, 24576, 57344, 122880, 262128, 0, 1048575, 2097151])
 (.reg [.op (some 25) none (.mv (.t 0)),
 .op (some 26) none (.nilchk (.t 25)),
 .op (some 27) none (.fad 1 (.t 26)),
 .op (some 28) none (.ld1 (.t 27)),
 .op (some 29) none (.ibin .add (.t 28) (.c (.i .i64 1))),
 .op (some 30) none (.nilchk (.t 25)),
 .op (some 31) none (.fad 1 (.t 30)),
 .op none none (.st 1 (.t 31) (.t 29))])),
 []⟩
def k28 : List Nat := [0, 1, 3]
set_option maxRecDepth 100000 in
theorem c28 : compF Go.Proofs.Try.prog 2 Go.Proofs.Try.f28 = some e28 := by kernel_rfl
/-- (*sandglass/ring.round[sandglass/ring.sent]).head -/
def e31 : IFunc := ⟨21, 1,
 .seq (.reg [.op (some 2) none (.box (.c (.agg [(.i .u64 0), (.i .i64 0), (.i .u64 0)]))),
 .op (some 3) none (.mv (.c (.b false)))])
 (.seq (.reg [.op (some 4) none (.box (.c (.agg [(.i .u64 0), (.i .i64 0), (.i .u64 0)])))])
 (.seq (.seq (.reg [.op (some 5) none (.mv (.t 0)),
 .op (some 6) none (.nilchk (.t 5)),
 .op (some 7) none (.fad 1 (.t 6)),
 .op (some 8) none (.ld1 (.t 7)),
 .op (some 9) none (.ibin .eql (.t 8) (.c (.i .i64 0)))])
 (.cond (.t 9)
 (.seq (.reg [.op (some 10) none (.ldn 3 (.t 4)),
 .op none none (.st 3 (.t 2) (.t 10)),
 .op (some 3) none (.mv (.c (.b false)))])
 (.ret))
 (.skip)))
 (.seq (.dreg [.op (some 11) none (.mv (.t 0)),
 .op (some 12) none (.nilchk (.t 11)),
 .op (some 13) none (.fad 2 (.t 12)),
 .op (some 14) none (.ld1 (.t 13)),
 .op (some 15) none (.mv (.t 0)),
 .op (some 16) none (.nilchk (.t 15)),
 .op (some 17) none (.fad 0 (.t 16)),
 .op (some 18) none (.ld1 (.t 17)),
 .op (some 19) none (.iad 3 (.t 14) (.t 18)),
 .op (some 20) none (.ldn 3 (.t 19)),
 .op none none (.st 3 (.t 2) (.t 20)),
 .op (some 3) none (.mv (.c (.b true)))]
 [0, 1, 2, 3, 4, 5, 6, 7, 8, 9, 10, 11] [0, 1, 3, 7, 0, 16, 48, 112, 255, 511, 1023, 2047])
 (.ret)))),
 [.cn 2 3, .t 3]⟩
def k31 : List Nat := [0, 2, 3, 4, 9]
set_option maxRecDepth 100000 in
theorem c31 : compF Go.Proofs.Try.prog 1 Go.Proofs.Try.f31 = some e31 := by kernel_rfl
/-- (*sandglass/ring.round[sandglass/ring.sent]).pop -/
def e32 : IFunc := ⟨23, 1,
 .seq (.dreg [.op (some 2) none (.mv (.t 0)),
 .op (some 3) none (.mv (.t 0)),
 .op (some 4) none (.nilchk (.t 3)),
 .op (some 5) none (.fad 0 (.t 4)),
 .op (some 6) none (.ld1 (.t 5)),
 .op (some 7) none (.ibin .add (.t 6) (.c (.i .i64 1))),
 .op (some 8) none (.mv (.t 0)),
 .op (some 9) none (.nilchk (.t 8)),
 .op (some 10) none (.fad 2 (.t 9)),
 .op (some 11) none (.ld1 (.t 10)),
 .op (some 12) none (.len 2 (.t 11)),
 .op (some 13) none (.ibin .rem (.t 7) (.t 12)),
 .op (some 14) none (.nilchk (.t 2)),
 .op (some 15) none (.fad 0 (.t 14)),
 .op none none (.st 1 (.t 15) (.t 13))]
 [0, 1, 2, 3, 4, 5, 6, 7, 8, 9, 10, 11, 12, 13, 14] [0, 0, 2, 6, 14, 30, 0, 64, 192, 448, 960, 2046, 4095, 8191, 16383])
 (.reg [.op (some 16) none (.mv (.t 0)),
 .op (some 17) none (.nilchk (.t 16)),
 .op (some 18) none (.fad 1 (.t 17)),
 .op (some 19) none (.ld1 (.t 18)),
 .op (some 20) none (.ibin .sub (.t 19) (.c (.i .i64 1))),
 .op (some 21) none (.nilchk (.t 16)),
 .op (some 22) none (.fad 1 (.t 21)),
 .op none none (.st 1 (.t 22) (.t 20))]),
 []⟩
def k32 : List Nat := [0]
set_option maxRecDepth 100000 in
theorem c32 : compF Go.Proofs.Try.prog 1 Go.Proofs.Try.f32 = some e32 := by kernel_rfl
end Go.Proofs.Ythpcdpnolmacpaa.IR
