/- One text of a proof that a law answers true for every input. No condition. -/
import Derived.Test.YtphlceiachdneaaDoorProg
import Derived.Test.YtphlceiachdneaaDoorEvE
import Derived.KernelRfl
set_option linter.unusedVariables false
set_option linter.unusedSimpArgs false
set_option linter.constructorNameAsVariable false
namespace Go.Proofs.YtphlceiachdneaaDoor.IR
open Go Go.Proofs.YtphlceiachdneaaDoor.Ev
/-- sandglass/sandglasslaw08.BitmapRound -/
def e3 : IFunc := ⟨94, 3,
 .seq (.reg [.op (some 6) none (.mv (.c (.b false)))])
 (.seq (.reg [.op (some 20) none (.mv (.t 0)),
 .op (some 21) none (.mv (.t 1)),
 .call (some 22) none (.c (.fn (.func 9) [] [])) [(.t 20), (.t 21)],
 .op (some 19) none (.mv (.t 22)),
 .op (some 23) none (.ext (.t 19) 0),
 .op (some 24) none (.ext (.t 19) 1),
 .op (some 25) none (.ext (.t 19) 2),
 .op (some 7) none (.mv (.t 23)),
 .op (some 8) none (.mv (.t 24)),
 .op (some 9) none (.mv (.t 25))])
 (.seq (.reg [.op (some 26) none (.mv (.t 2)),
 .op (some 27) none (.conv .i64 (.t 26)),
 .op (some 28) none (.mv (.t 8)),
 .op (some 29) none (.ibin .rem (.t 27) (.t 28)),
 .op (some 10) none (.mv (.t 29))])
 (.seq (.reg [.any (some 30) none (.mkm none),
 .op (some 11) none (.mv (.t 30))])
 (.seq (.reg [.op (some 31) none (.mv (.t 10)),
 .op (some 32) none (.ibin .sub (.t 31) (.c (.i .i64 1))),
 .op (some 12) none (.mv (.t 32))])
 (.seq (.reg [.op (some 13) none (.mv (.c (.b false)))])
 (.seq (.seq (.reg [.op (some 33) none (.mv (.t 9)),
 .op (some 34) none (.len 3 (.t 33)),
 .op (some 35) none (.ibin .mul (.c (.i .i64 2)) (.t 34)),
 .op (some 36) none (.mv (.c (.i .i64 0)))])
 (.block 0
 (.loop
 (.seq (.reg [.op (some 37) none (.ibin .lss (.t 36) (.t 35))])
 (.seq (.cond (.t 37)
 (.skip)
 (.exit 0))
 (.seq (.block 1
 (.seq (.reg [.op (some 39) none (.mv (.t 7)),
 .op (some 40) none (.mv (.t 10)),
 .call (some 41) none (.c (.fn (.func 10) [] [])) [(.t 39), (.t 40)],
 .op (some 38) none (.mv (.t 41)),
 .op (some 42) none (.ext (.t 38) 0),
 .op (some 43) none (.ext (.t 38) 1),
 .op (some 14) none (.mv (.t 42)),
 .op (some 15) none (.mv (.t 43))])
 (.seq (.seq (.reg [.op (some 44) none (.mv (.t 15)),
 .op (some 45) none (.un .not (.t 44)),
 .op (some 46) none (.mv (.t 45)),
 .op (some 47) (some (46, false)) (.mv (.t 9)),
 .op (some 48) (some (46, false)) (.mv (.t 14)),
 .op (some 49) (some (46, false)) (.lkp (.int .i64) false (.i .i64 0) (.t 47) (.t 48)),
 .op (some 50) (some (46, false)) (.ibin .eql (.t 49) (.c (.i .i64 0))),
 .op (some 51) none (.pick (.t 46) (.c (.b true)) (.t 50))])
 (.cond (.t 51)
 (.seq (.reg [.op (some 6) none (.mv (.c (.b false)))])
 (.ret))
 (.skip)))
 (.seq (.seq (.reg [.op (some 52) none (.mv (.t 14)),
 .op (some 53) none (.mv (.t 12)),
 .op (some 54) none (.ibin .leq (.t 52) (.t 53))])
 (.cond (.t 54)
 (.seq (.seq (.reg [.op (some 55) none (.mv (.t 13)),
 .op (some 56) none (.mv (.t 55)),
 .op (some 57) (some (56, true)) (.mv (.t 11)),
 .op (some 58) (some (56, true)) (.mv (.t 14)),
 .op (some 59) (some (56, true)) (.lkp (.int .i64) false (.i .i64 0) (.t 57) (.t 58)),
 .op (some 60) (some (56, true)) (.ibin .eql (.t 59) (.c (.i .i64 0))),
 .op (some 61) none (.pick (.t 56) (.t 60) (.c (.b false)))])
 (.cond (.t 61)
 (.seq (.reg [.op (some 6) none (.mv (.c (.b false)))])
 (.ret))
 (.skip)))
 (.reg [.op (some 13) none (.mv (.c (.b true)))]))
 (.skip)))
 (.seq (.reg [.op (some 62) none (.mv (.t 11)),
 .op (some 63) none (.mv (.t 14)),
 .op (some 64) none (.lkp (.int .i64) false (.i .i64 0) (.t 62) (.t 63)),
 .op (some 65) none (.ibin .add (.t 64) (.c (.i .i64 1))),
 .any none none (.mup (.int .i64) (.t 62) (.t 63) (.t 65))])
 (.reg [.op (some 66) none (.mv (.t 14)),
 .op (some 67) none (.mv (.t 14)),
 .op (some 68) none (.ibin .add (.t 67) (.c (.i .i64 1))),
 .op (some 12) none (.mv (.t 66)),
 .op (some 10) none (.mv (.t 68))]))))))
 (.reg [.op (some 69) none (.ibin .add (.t 36) (.c (.i .i64 1))),
 .op (some 36) none (.mv (.t 69))])))))))
 (.seq (.seq (.reg [.op (some 70) none (.mv (.t 9)),
 .any (some 71) none (.rng (.t 70))])
 (.block 2
 (.loop
 (.seq (.reg [.any (some 72) none (.nxt (.t 71)),
 .op (some 73) none (.ext (.t 72) 0)])
 (.seq (.cond (.t 73)
 (.skip)
 (.exit 2))
 (.block 3
 (.seq (.reg [.op (some 74) none (.ent (.t 71)),
 .op (some 75) none (.ext (.t 74) 0),
 .op (some 16) none (.mv (.t 75))])
 (.seq (.reg [.op (some 76) none (.mv (.t 11)),
 .op (some 77) none (.mv (.t 16)),
 .op (some 78) none (.lkp (.int .i64) false (.i .i64 0) (.t 76) (.t 77)),
 .op (some 79) none (.ibin .neq (.t 78) (.c (.i .i64 2)))])
 (.cond (.t 79)
 (.seq (.reg [.op (some 6) none (.mv (.c (.b false)))])
 (.ret))
 (.skip))))))))))
 (.seq (.reg [.op (some 81) none (.mv (.t 7)),
 .op (some 82) none (.mv (.t 10)),
 .call (some 83) none (.c (.fn (.func 10) [] [])) [(.t 81), (.t 82)],
 .op (some 80) none (.mv (.t 83)),
 .op (some 84) none (.ext (.t 80) 0),
 .op (some 85) none (.ext (.t 80) 1),
 .op (some 17) none (.mv (.t 84)),
 .op (some 18) none (.mv (.t 85))])
 (.seq (.reg [.op (some 86) none (.mv (.t 18)),
 .op (some 87) none (.mv (.t 9)),
 .op (some 88) none (.len 3 (.t 87)),
 .op (some 89) none (.ibin .gtr (.t 88) (.c (.i .i64 0))),
 .op (some 90) none (.eqn 1 false (.t 86) (.t 89)),
 .op (some 91) none (.mv (.t 90)),
 .call (some 92) (some (91, true)) (.c (.fn (.func 11) [] [])) [],
 .op (some 93) none (.pick (.t 91) (.t 92) (.c (.b false))),
 .op (some 6) none (.mv (.t 93))])
 (.ret)))))))))),
 [.t 6]⟩
def k3 : List Nat := [0, 1, 2, 6, 7, 8, 9, 10, 11, 12, 13, 14, 15, 16, 18, 35, 36, 37, 51, 54, 61, 71, 73, 79]
set_option maxRecDepth 100000 in
theorem c3 : compF Go.Proofs.Tryd.prog 3 Go.Proofs.Tryd.f3 = some e3 := by kernel_rfl
/-- sandglass/sandglasslaw08.BitmapNext -/
def e4 : IFunc := ⟨78, 3,
 .seq (.reg [.op (some 6) none (.mv (.c (.b false)))])
 (.seq (.reg [.op (some 14) none (.mv (.t 0)),
 .op (some 15) none (.mv (.t 1)),
 .call (some 16) none (.c (.fn (.func 9) [] [])) [(.t 14), (.t 15)],
 .op (some 13) none (.mv (.t 16)),
 .op (some 17) none (.ext (.t 13) 0),
 .op (some 18) none (.ext (.t 13) 1),
 .op (some 19) none (.ext (.t 13) 2),
 .op (some 7) none (.mv (.t 17)),
 .op (some 8) none (.mv (.t 18)),
 .op (some 9) none (.mv (.t 19))])
 (.seq (.reg [.op (some 21) none (.mv (.t 7)),
 .op (some 22) none (.mv (.t 2)),
 .call (some 23) none (.c (.fn (.func 12) [] [])) [(.t 21), (.t 22)],
 .op (some 20) none (.mv (.t 23)),
 .op (some 24) none (.ext (.t 20) 0),
 .op (some 25) none (.ext (.t 20) 1),
 .op (some 10) none (.mv (.t 24)),
 .op (some 11) none (.mv (.t 25))])
 (.seq (.seq (.reg [.op (some 26) none (.mv (.t 11)),
 .op (some 27) none (.mv (.t 26)),
 .op (some 28) (some (27, true)) (.mv (.t 7)),
 .op (some 29) (some (27, true)) (.mv (.t 10)),
 .call (some 30) (some (27, true)) (.c (.fn (.func 13) [] [])) [(.t 28), (.t 29)],
 .op (some 31) (some (27, true)) (.un .not (.t 30)),
 .op (some 32) (some (27, true)) (.mv (.t 31)),
 .op (some 33) (some (32, false)) (.mv (.t 9)),
 .op (some 34) (some (32, false)) (.mv (.t 10)),
 .op (some 35) (some (32, false)) (.lkp (.int .i64) false (.i .i64 0) (.t 33) (.t 34)),
 .op (some 36) (some (32, false)) (.ibin .eql (.t 35) (.c (.i .i64 0))),
 .op (some 37) (some (27, true)) (.pick (.t 32) (.c (.b true)) (.t 36)),
 .op (some 38) (some (27, true)) (.mv (.t 37)),
 .op (some 39) (some (38, false)) (.mv (.t 10)),
 .op (some 40) (some (38, false)) (.mv (.t 2)),
 .op (some 41) (some (38, false)) (.ibin .lss (.t 39) (.t 40)),
 .op (some 42) (some (27, true)) (.pick (.t 38) (.c (.b true)) (.t 41)),
 .op (some 43) none (.pick (.t 27) (.t 42) (.c (.b false))),
 .op (some 44) none (.mv (.t 43)),
 .op (some 45) (some (44, false)) (.mv (.t 11)),
 .op (some 46) (some (44, false)) (.un .not (.t 45)),
 .op (some 47) (some (44, false)) (.mv (.t 46)),
 .op (some 48) (some (47, true)) (.mv (.t 10)),
 .op (some 49) (some (47, true)) (.ibin .neq (.t 48) (.c (.i .i64 0))),
 .op (some 50) (some (44, false)) (.pick (.t 47) (.t 49) (.c (.b false))),
 .op (some 51) none (.pick (.t 44) (.c (.b true)) (.t 50))])
 (.cond (.t 51)
 (.seq (.reg [.op (some 6) none (.mv (.c (.b false)))])
 (.ret))
 (.skip)))
 (.seq (.seq (.reg [.op (some 52) none (.mv (.t 9)),
 .any (some 53) none (.rng (.t 52))])
 (.block 0
 (.loop
 (.seq (.reg [.any (some 54) none (.nxt (.t 53)),
 .op (some 55) none (.ext (.t 54) 0)])
 (.seq (.cond (.t 55)
 (.skip)
 (.exit 0))
 (.block 1
 (.seq (.reg [.op (some 56) none (.ent (.t 53)),
 .op (some 57) none (.ext (.t 56) 0),
 .op (some 12) none (.mv (.t 57))])
 (.seq (.reg [.op (some 58) none (.mv (.t 12)),
 .op (some 59) none (.mv (.t 2)),
 .op (some 60) none (.ibin .geq (.t 58) (.t 59)),
 .op (some 61) none (.mv (.t 60)),
 .op (some 62) (some (61, true)) (.mv (.t 11)),
 .op (some 63) (some (61, true)) (.un .not (.t 62)),
 .op (some 64) (some (61, true)) (.mv (.t 63)),
 .op (some 65) (some (64, false)) (.mv (.t 12)),
 .op (some 66) (some (64, false)) (.mv (.t 10)),
 .op (some 67) (some (64, false)) (.ibin .lss (.t 65) (.t 66)),
 .op (some 68) (some (61, true)) (.pick (.t 64) (.c (.b true)) (.t 67)),
 .op (some 69) none (.pick (.t 61) (.t 68) (.c (.b false)))])
 (.cond (.t 69)
 (.seq (.reg [.op (some 6) none (.mv (.c (.b false)))])
 (.ret))
 (.skip))))))))))
 (.seq (.reg [.op (some 70) none (.mv (.t 7)),
 .call (some 71) none (.c (.fn (.func 14) [] [])) [(.t 70)],
 .op (some 72) none (.mv (.t 9)),
 .op (some 73) none (.len 3 (.t 72)),
 .op (some 74) none (.ibin .eql (.t 71) (.t 73)),
 .op (some 75) none (.mv (.t 74)),
 .call (some 76) (some (75, true)) (.c (.fn (.func 11) [] [])) [],
 .op (some 77) none (.pick (.t 75) (.t 76) (.c (.b false))),
 .op (some 6) none (.mv (.t 77))])
 (.ret)))))),
 [.t 6]⟩
def k4 : List Nat := [0, 1, 2, 6, 7, 9, 10, 11, 12, 51, 53, 55, 69]
set_option maxRecDepth 100000 in
theorem c4 : compF Go.Proofs.Tryd.prog 3 Go.Proofs.Tryd.f4 = some e4 := by kernel_rfl
/-- sandglass/sandglasslaw08.BitmapTells -/
def e5 : IFunc := ⟨183, 2,
 .seq (.reg [.op (some 4) none (.mv (.c (.b false)))])
 (.seq (.reg [.op (some 24) none (.mv (.t 0)),
 .call (some 25) none (.c (.fn (.func 15) [] [])) [(.t 24)],
 .op (some 23) none (.mv (.t 25)),
 .op (some 26) none (.ext (.t 23) 0),
 .op (some 27) none (.ext (.t 23) 1),
 .op (some 5) none (.mv (.t 26)),
 .op (some 6) none (.mv (.t 27))])
 (.seq (.reg [.op (some 29) none (.mv (.t 0)),
 .op (some 30) none (.mx true (.t 29) [(.c (.i .i64 65537))]),
 .call (some 31) none (.c (.fn (.func 16) [] [])) [(.t 30)],
 .op (some 28) none (.mv (.t 31)),
 .op (some 32) none (.ext (.t 28) 0),
 .op (some 33) none (.ext (.t 28) 1),
 .op (some 7) none (.box (.c (.agg [.nils]))),
 .op none none (.st 1 (.t 7) (.t 32)),
 .op (some 8) none (.mv (.t 33))])
 (.seq (.seq (.reg [.op (some 34) none (.mv (.t 6)),
 .op (some 35) none (.ibin .eql (.t 34) (.c (.i .i64 0))),
 .op (some 36) none (.mv (.t 8)),
 .op (some 37) none (.eqn 1 true (.t 35) (.t 36)),
 .op (some 38) none (.mv (.t 37)),
 .op (some 39) (some (38, false)) (.mv (.t 8)),
 .op (some 40) (some (38, false)) (.un .not (.t 39)),
 .op (some 41) (some (38, false)) (.mv (.t 40)),
 .op (some 42) (some (41, true)) (.mv (.t 6)),
 .op (some 43) (some (41, true)) (.ibin .neq (.t 42) (.c (.i .i64 2))),
 .op (some 44) (some (41, true)) (.mv (.t 43)),
 .op (some 45) (some (44, false)) (.mv (.t 5)),
 .op (some 46) (some (44, false)) (.eqn 2 true (.t 45) (.c .nilp)),
 .op (some 47) (some (41, true)) (.pick (.t 44) (.c (.b true)) (.t 46)),
 .op (some 48) (some (38, false)) (.pick (.t 41) (.t 47) (.c (.b false))),
 .op (some 49) none (.pick (.t 38) (.c (.b true)) (.t 48))])
 (.cond (.t 49)
 (.seq (.reg [.op (some 4) none (.mv (.c (.b false)))])
 (.ret))
 (.skip)))
 (.seq (.seq (.reg [.op (some 50) none (.mv (.t 8)),
 .op (some 51) none (.un .not (.t 50)),
 .op (some 52) none (.mv (.t 51)),
 .op (some 53) (some (52, false)) (.mv (.t 0)),
 .op (some 54) (some (52, false)) (.ibin .gtr (.t 53) (.c (.i .i64 9000))),
 .op (some 55) none (.pick (.t 52) (.c (.b true)) (.t 54)),
 .op (some 56) none (.mv (.t 55)),
 .op (some 57) (some (56, false)) (.mv (.t 1)),
 .op (some 58) (some (56, false)) (.len 2 (.t 57)),
 .op (some 59) (some (56, false)) (.ibin .gtr (.t 58) (.c (.i .i64 40))),
 .op (some 60) none (.pick (.t 56) (.c (.b true)) (.t 59))])
 (.cond (.t 60)
 (.seq (.reg [.call (some 61) none (.c (.fn (.func 11) [] [])) [],
 .op (some 4) none (.mv (.t 61))])
 (.ret))
 (.skip)))
 (.seq (.seq (.reg [.op (some 62) none (.mv (.t 1)),
 .op (some 63) none (.len 2 (.t 62)),
 .op (some 64) none (.mv (.c (.i .i64 0)))])
 (.block 0
 (.loop
 (.seq (.reg [.op (some 65) none (.ibin .lss (.t 64) (.t 63))])
 (.seq (.cond (.t 65)
 (.skip)
 (.exit 0))
 (.seq (.block 1
 (.seq (.reg [.op (some 66) none (.iad 2 (.t 62) (.t 64)),
 .op (some 67) none (.ldn 2 (.t 66)),
 .op (some 10) none (.box (.c (.agg [(.i .u8 0), (.i .i64 0)]))),
 .op none none (.st 2 (.t 10) (.t 67))])
 (.seq (.reg [.op (some 68) none (.fad 0 (.t 10)),
 .op (some 69) none (.ld1 (.t 68))])
 (.block 2
 (.seq (.seq (.reg [.op (some 71) none (.ibin .eql (.t 69) (.c (.i .u8 1))),
 .op (some 70) none (.mv (.t 71))])
 (.cond (.t 70)
 (.skip)
 (.reg [.op (some 72) none (.ibin .eql (.t 69) (.c (.i .u8 2))),
 .op (some 70) none (.mv (.t 72))])))
 (.cond (.t 70)
 (.seq (.reg [.op (some 74) none (.ldn 1 (.t 7)),
 .op (some 75) none (.fad 1 (.t 10)),
 .op (some 76) none (.ld1 (.t 75)),
 .op (some 77) none (.fad 0 (.t 10)),
 .op (some 78) none (.ld1 (.t 77)),
 .op (some 79) none (.ibin .eql (.t 78) (.c (.i .u8 1))),
 .call (some 80) none (.c (.fn (.func 17) [] [])) [(.t 74), (.t 76), (.t 79)],
 .op (some 73) none (.mv (.t 80)),
 .op (some 81) none (.ext (.t 73) 0),
 .op (some 82) none (.ext (.t 73) 1),
 .op (some 11) none (.box (.c (.agg [.nils]))),
 .op none none (.st 1 (.t 11) (.t 81)),
 .op (some 12) none (.mv (.t 82))])
 (.seq (.reg [.op (some 83) none (.ldn 1 (.t 11)),
 .op none none (.st 1 (.t 7) (.t 83))])
 (.seq (.reg [.op (some 84) none (.fad 0 (.t 10)),
 .op (some 85) none (.ld1 (.t 84)),
 .op (some 86) none (.ibin .eql (.t 85) (.c (.i .u8 1))),
 .op (some 87) none (.mv (.t 86)),
 .op (some 88) (some (87, true)) (.mv (.t 5)),
 .op (some 89) (some (87, true)) (.fad 1 (.t 10)),
 .op (some 90) (some (87, true)) (.ld1 (.t 89)),
 .call (some 91) (some (87, true)) (.c (.fn (.func 18) [] [])) [(.t 88), (.t 90)],
 .op (some 92) none (.pick (.t 87) (.t 91) (.c (.b false))),
 .op (some 93) none (.mv (.t 92)),
 .op (some 94) (some (93, false)) (.fad 0 (.t 10)),
 .op (some 95) (some (93, false)) (.ld1 (.t 94)),
 .op (some 96) (some (93, false)) (.ibin .eql (.t 95) (.c (.i .u8 2))),
 .op (some 97) (some (93, false)) (.mv (.t 96)),
 .op (some 98) (some (97, true)) (.mv (.t 5)),
 .op (some 99) (some (97, true)) (.fad 1 (.t 10)),
 .op (some 100) (some (97, true)) (.ld1 (.t 99)),
 .call (some 101) (some (97, true)) (.c (.fn (.func 19) [] [])) [(.t 98), (.t 100)],
 .op (some 102) (some (93, false)) (.pick (.t 97) (.t 101) (.c (.b false))),
 .op (some 103) none (.pick (.t 93) (.c (.b true)) (.t 102)),
 .op (some 13) none (.mv (.t 103))])
 (.seq (.reg [.op (some 104) none (.mv (.t 13)),
 .op (some 105) none (.mv (.t 12)),
 .op (some 106) none (.eqn 1 true (.t 104) (.t 105))])
 (.cond (.t 106)
 (.seq (.reg [.op (some 4) none (.mv (.c (.b false)))])
 (.ret))
 (.skip))))))
 (.seq (.reg [.op (some 108) none (.ibin .eql (.t 69) (.c (.i .u8 3))),
 .op (some 107) none (.mv (.t 108))])
 (.cond (.t 107)
 (.seq (.reg [.op (some 110) none (.mv (.t 5)),
 .op (some 111) none (.fad 1 (.t 10)),
 .op (some 112) none (.ld1 (.t 111)),
 .call (some 113) none (.c (.fn (.func 12) [] [])) [(.t 110), (.t 112)],
 .op (some 109) none (.mv (.t 113)),
 .op (some 114) none (.ext (.t 109) 0),
 .op (some 115) none (.ext (.t 109) 1),
 .op (some 14) none (.mv (.t 114)),
 .op (some 15) none (.mv (.t 115))])
 (.seq (.reg [.op (some 117) none (.ldn 1 (.t 7)),
 .op (some 118) none (.fad 1 (.t 10)),
 .op (some 119) none (.ld1 (.t 118)),
 .call (some 120) none (.c (.fn (.func 20) [] [])) [(.t 117), (.t 119)],
 .op (some 116) none (.mv (.t 120)),
 .op (some 121) none (.ext (.t 116) 0),
 .op (some 122) none (.ext (.t 116) 1),
 .op (some 16) none (.mv (.t 121)),
 .op (some 17) none (.mv (.t 122))])
 (.seq (.reg [.op (some 123) none (.mv (.t 14)),
 .op (some 124) none (.mv (.t 16)),
 .op (some 125) none (.ibin .neq (.t 123) (.t 124)),
 .op (some 126) none (.mv (.t 125)),
 .op (some 127) (some (126, false)) (.mv (.t 15)),
 .op (some 128) (some (126, false)) (.mv (.t 17)),
 .op (some 129) (some (126, false)) (.eqn 1 true (.t 127) (.t 128)),
 .op (some 130) none (.pick (.t 126) (.c (.b true)) (.t 129))])
 (.cond (.t 130)
 (.seq (.reg [.op (some 4) none (.mv (.c (.b false)))])
 (.ret))
 (.skip)))))
 (.seq (.reg [.op (some 132) none (.ibin .eql (.t 69) (.c (.i .u8 4))),
 .op (some 131) none (.mv (.t 132))])
 (.cond (.t 131)
 (.seq (.reg [.op (some 134) none (.mv (.t 5)),
 .op (some 135) none (.fad 1 (.t 10)),
 .op (some 136) none (.ld1 (.t 135)),
 .call (some 137) none (.c (.fn (.func 10) [] [])) [(.t 134), (.t 136)],
 .op (some 133) none (.mv (.t 137)),
 .op (some 138) none (.ext (.t 133) 0),
 .op (some 139) none (.ext (.t 133) 1),
 .op (some 18) none (.mv (.t 138)),
 .op (some 19) none (.mv (.t 139))])
 (.seq (.reg [.op (some 141) none (.ldn 1 (.t 7)),
 .op (some 142) none (.fad 1 (.t 10)),
 .op (some 143) none (.ld1 (.t 142)),
 .call (some 144) none (.c (.fn (.func 21) [] [])) [(.t 141), (.t 143)],
 .op (some 140) none (.mv (.t 144)),
 .op (some 145) none (.ext (.t 140) 0),
 .op (some 146) none (.ext (.t 140) 1),
 .op (some 20) none (.mv (.t 145)),
 .op (some 21) none (.mv (.t 146))])
 (.seq (.reg [.op (some 147) none (.mv (.t 18)),
 .op (some 148) none (.mv (.t 20)),
 .op (some 149) none (.ibin .neq (.t 147) (.t 148)),
 .op (some 150) none (.mv (.t 149)),
 .op (some 151) (some (150, false)) (.mv (.t 19)),
 .op (some 152) (some (150, false)) (.mv (.t 21)),
 .op (some 153) (some (150, false)) (.eqn 1 true (.t 151) (.t 152)),
 .op (some 154) none (.pick (.t 150) (.c (.b true)) (.t 153))])
 (.cond (.t 154)
 (.seq (.reg [.op (some 4) none (.mv (.c (.b false)))])
 (.ret))
 (.skip)))))
 (.seq (.reg [.op (some 156) none (.ibin .eql (.t 69) (.c (.i .u8 5))),
 .op (some 155) none (.mv (.t 156))])
 (.cond (.t 155)
 (.seq (.dreg [.op (some 157) none (.mv (.t 5)),
 .op (some 158) none (.fad 1 (.t 10)),
 .op (some 159) none (.ld1 (.t 158)),
 .call (some 160) none (.c (.fn (.func 13) [] [])) [(.t 157), (.t 159)],
 .op (some 161) none (.ldn 1 (.t 7)),
 .op (some 162) none (.fad 1 (.t 10)),
 .op (some 163) none (.ld1 (.t 162)),
 .call (some 164) none (.c (.fn (.func 22) [] [])) [(.t 161), (.t 163)],
 .op (some 165) none (.eqn 1 true (.t 160) (.t 164))]
 [0, 1, 2, 4, 5, 6, 3, 7, 8] [0, 0, 2, 7, 0, 0, 32, 127, 255])
 (.cond (.t 165)
 (.seq (.reg [.op (some 4) none (.mv (.c (.b false)))])
 (.ret))
 (.skip)))
 (.skip)))))))))))))
 (.reg [.op (some 166) none (.ibin .add (.t 64) (.c (.i .i64 1))),
 .op (some 64) none (.mv (.t 166))])))))))
 (.seq (.reg [.op (some 167) none (.ldn 1 (.t 7)),
 .call (some 168) none (.c (.fn (.func 23) [] [])) [(.t 167)],
 .op (some 22) none (.mv (.t 168))])
 (.seq (.reg [.op (some 169) none (.mv (.t 5)),
 .call (some 170) none (.c (.fn (.func 25) [] [])) [(.t 169)],
 .op (some 171) none (.mv (.t 22)),
 .call (some 172) none (.c (.fn (.func 24) [] [])) [(.t 170), (.t 171)],
 .op (some 173) none (.mv (.t 172)),
 .op (some 174) (some (173, true)) (.mv (.t 5)),
 .call (some 175) (some (173, true)) (.c (.fn (.func 14) [] [])) [(.t 174)],
 .op (some 176) (some (173, true)) (.mv (.t 22)),
 .op (some 177) (some (173, true)) (.len 2 (.t 176)),
 .op (some 178) (some (173, true)) (.ibin .eql (.t 175) (.t 177)),
 .op (some 179) none (.pick (.t 173) (.t 178) (.c (.b false))),
 .op (some 180) none (.mv (.t 179)),
 .call (some 181) (some (180, true)) (.c (.fn (.func 11) [] [])) [],
 .op (some 182) none (.pick (.t 180) (.t 181) (.c (.b false))),
 .op (some 4) none (.mv (.t 182))])
 (.ret)))))))),
 [.t 4]⟩
def k5 : List Nat := [0, 1, 4, 5, 6, 7, 8, 10, 11, 12, 13, 14, 15, 16, 17, 18, 19, 20, 21, 22, 49, 60, 62, 63, 64, 65, 69, 70, 106, 107, 130, 131, 154, 155, 165]
set_option maxRecDepth 100000 in
theorem c5 : compF Go.Proofs.Tryd.prog 2 Go.Proofs.Tryd.f5 = some e5 := by kernel_rfl
/-- sandglass/sandglasslaw08.BitmapBack -/
def e6 : IFunc := ⟨130, 3,
 .seq (.reg [.op (some 6) none (.mv (.c (.b false)))])
 (.seq (.reg [.op (some 18) none (.mv (.t 0)),
 .op (some 19) none (.mv (.t 1)),
 .call (some 20) none (.c (.fn (.func 9) [] [])) [(.t 18), (.t 19)],
 .op (some 17) none (.mv (.t 20)),
 .op (some 21) none (.ext (.t 17) 0),
 .op (some 22) none (.ext (.t 17) 1),
 .op (some 23) none (.ext (.t 17) 2),
 .op (some 7) none (.mv (.t 21)),
 .op (some 8) none (.mv (.t 22)),
 .op (some 9) none (.mv (.t 23))])
 (.seq (.reg [.op (some 24) none (.mv (.t 7)),
 .call (some 25) none (.c (.fn (.func 25) [] [])) [(.t 24)],
 .op (some 10) none (.mv (.t 25))])
 (.seq (.reg [.op (some 26) none (.mv (.t 2)),
 .op (some 27) none (.conv .i64 (.t 26)),
 .op (some 28) none (.mv (.t 8)),
 .op (some 29) none (.ibin .rem (.t 27) (.t 28)),
 .op (some 11) none (.mv (.t 29))])
 (.seq (.seq (.reg [.op (some 30) none (.mv (.t 9)),
 .op (some 31) none (.mv (.t 11)),
 .op (some 32) none (.lkp (.int .i64) false (.i .i64 0) (.t 30) (.t 31)),
 .op (some 33) none (.ibin .eql (.t 32) (.c (.i .i64 0))),
 .op (some 34) none (.mv (.t 33)),
 .op (some 35) (some (34, true)) (.mv (.t 7)),
 .op (some 36) (some (34, true)) (.mv (.t 11)),
 .call (some 37) (some (34, true)) (.c (.fn (.func 18) [] [])) [(.t 35), (.t 36)],
 .op (some 38) (some (34, true)) (.un .not (.t 37)),
 .op (some 39) (some (34, true)) (.mv (.t 38)),
 .op (some 40) (some (39, false)) (.mv (.t 7)),
 .op (some 41) (some (39, false)) (.mv (.t 11)),
 .call (some 42) (some (39, false)) (.c (.fn (.func 18) [] [])) [(.t 40), (.t 41)],
 .op (some 43) (some (34, true)) (.pick (.t 39) (.c (.b true)) (.t 42)),
 .op (some 44) (some (34, true)) (.mv (.t 43)),
 .op (some 45) (some (44, false)) (.mv (.t 7)),
 .op (some 46) (some (44, false)) (.mv (.t 11)),
 .call (some 47) (some (44, false)) (.c (.fn (.func 13) [] [])) [(.t 45), (.t 46)],
 .op (some 48) (some (44, false)) (.un .not (.t 47)),
 .op (some 49) (some (34, true)) (.pick (.t 44) (.c (.b true)) (.t 48)),
 .op (some 50) none (.pick (.t 34) (.t 49) (.c (.b false)))])
 (.cond (.t 50)
 (.seq (.reg [.op (some 6) none (.mv (.c (.b false)))])
 (.ret))
 (.skip)))
 (.seq (.seq (.reg [.op (some 51) none (.mv (.t 7)),
 .op (some 52) none (.mv (.t 11)),
 .call (some 53) none (.c (.fn (.func 19) [] [])) [(.t 51), (.t 52)],
 .op (some 54) none (.un .not (.t 53)),
 .op (some 55) none (.mv (.t 54)),
 .op (some 56) (some (55, false)) (.mv (.t 7)),
 .op (some 57) (some (55, false)) (.mv (.t 11)),
 .call (some 58) (some (55, false)) (.c (.fn (.func 19) [] [])) [(.t 56), (.t 57)],
 .op (some 59) none (.pick (.t 55) (.c (.b true)) (.t 58)),
 .op (some 60) none (.mv (.t 59)),
 .op (some 61) (some (60, false)) (.mv (.t 7)),
 .op (some 62) (some (60, false)) (.mv (.t 11)),
 .call (some 63) (some (60, false)) (.c (.fn (.func 13) [] [])) [(.t 61), (.t 62)],
 .op (some 64) none (.pick (.t 60) (.c (.b true)) (.t 63))])
 (.cond (.t 64)
 (.seq (.reg [.op (some 6) none (.mv (.c (.b false)))])
 (.ret))
 (.skip)))
 (.seq (.seq (.reg [.op (some 65) none (.mv (.t 9)),
 .op (some 66) none (.mv (.t 11)),
 .op (some 67) none (.lkp (.int .i64) false (.i .i64 0) (.t 65) (.t 66)),
 .op (some 68) none (.ibin .eql (.t 67) (.c (.i .i64 1)))])
 (.cond (.t 68)
 (.reg [.op (some 69) none (.mv (.t 7)),
 .op (some 70) none (.mv (.t 11)),
 .call (some 71) none (.c (.fn (.func 18) [] [])) [(.t 69), (.t 70)]])
 (.skip)))
 (.seq (.seq (.reg [.op (some 72) none (.mv (.t 7)),
 .call (some 73) none (.c (.fn (.func 25) [] [])) [(.t 72)],
 .op (some 74) none (.mv (.t 10)),
 .call (some 75) none (.c (.fn (.func 24) [] [])) [(.t 73), (.t 74)],
 .op (some 76) none (.un .not (.t 75)),
 .op (some 77) none (.mv (.t 76)),
 .op (some 78) (some (77, false)) (.mv (.t 10)),
 .op (some 79) (some (77, false)) (.len 2 (.t 78)),
 .op (some 80) (some (77, false)) (.mv (.t 9)),
 .op (some 81) (some (77, false)) (.len 3 (.t 80)),
 .op (some 82) (some (77, false)) (.ibin .neq (.t 79) (.t 81)),
 .op (some 83) none (.pick (.t 77) (.c (.b true)) (.t 82))])
 (.cond (.t 83)
 (.seq (.reg [.op (some 6) none (.mv (.c (.b false)))])
 (.ret))
 (.skip)))
 (.seq (.seq (.reg [.op (some 84) none (.mv (.t 1)),
 .op (some 85) none (.mv (.t 1)),
 .op (some 86) none (.len 2 (.t 85)),
 .op (some 87) none (.mx true (.t 86) [(.c (.i .i64 60))]),
 .op (some 88) none (.slice 1 (.t 84) none (some (.t 87))),
 .op (some 89) none (.len 2 (.t 88)),
 .op (some 90) none (.mv (.c (.i .i64 0)))])
 (.block 0
 (.loop
 (.seq (.reg [.op (some 91) none (.ibin .lss (.t 90) (.t 89))])
 (.seq (.cond (.t 91)
 (.skip)
 (.exit 0))
 (.seq (.block 1
 (.seq (.reg [.op (some 92) none (.iad 1 (.t 88) (.t 90)),
 .op (some 93) none (.ld1 (.t 92)),
 .op (some 13) none (.mv (.t 93))])
 (.seq (.reg [.op (some 94) none (.mv (.t 13)),
 .op (some 95) none (.conv .i64 (.t 94)),
 .op (some 96) none (.mv (.t 8)),
 .op (some 97) none (.ibin .rem (.t 95) (.t 96)),
 .op (some 14) none (.mv (.t 97))])
 (.seq (.seq (.dreg [.op (some 98) none (.mv (.t 7)),
 .op (some 99) none (.mv (.t 14)),
 .call (some 100) none (.c (.fn (.func 19) [] [])) [(.t 98), (.t 99)],
 .op (some 101) none (.mv (.t 9)),
 .op (some 102) none (.mv (.t 14)),
 .op (some 103) none (.lkp (.int .i64) false (.i .i64 0) (.t 101) (.t 102)),
 .op (some 104) none (.ibin .eql (.t 103) (.c (.i .i64 1))),
 .op (some 105) none (.eqn 1 true (.t 100) (.t 104))]
 [0, 1, 3, 4, 5, 6, 2, 7] [0, 0, 3, 0, 0, 24, 56, 127])
 (.cond (.t 105)
 (.seq (.reg [.op (some 6) none (.mv (.c (.b false)))])
 (.ret))
 (.skip)))
 (.reg [.op (some 106) none (.mv (.t 9)),
 .op (some 107) none (.mv (.t 14)),
 .any none none (.mup (.int .i64) (.t 106) (.t 107) (.c (.i .i64 0)))])))))
 (.reg [.op (some 108) none (.ibin .add (.t 90) (.c (.i .i64 1))),
 .op (some 90) none (.mv (.t 108))])))))))
 (.seq (.reg [.op (some 110) none (.mv (.t 7)),
 .call (some 111) none (.c (.fn (.func 12) [] [])) [(.t 110), (.c (.i .i64 0))],
 .op (some 109) none (.mv (.t 111)),
 .op (some 112) none (.ext (.t 109) 0),
 .op (some 113) none (.ext (.t 109) 1),
 .op (some 15) none (.mv (.t 112)),
 .op (some 16) none (.mv (.t 113))])
 (.seq (.reg [.op (some 114) none (.mv (.t 16)),
 .op (some 115) none (.un .not (.t 114)),
 .op (some 116) none (.mv (.t 115)),
 .op (some 117) (some (116, true)) (.mv (.t 7)),
 .call (some 118) (some (116, true)) (.c (.fn (.func 14) [] [])) [(.t 117)],
 .op (some 119) (some (116, true)) (.ibin .eql (.t 118) (.c (.i .i64 0))),
 .op (some 120) none (.pick (.t 116) (.t 119) (.c (.b false))),
 .op (some 121) none (.mv (.t 120)),
 .op (some 122) (some (121, true)) (.mv (.t 7)),
 .call (some 123) (some (121, true)) (.c (.fn (.func 25) [] [])) [(.t 122)],
 .op (some 124) (some (121, true)) (.len 2 (.t 123)),
 .op (some 125) (some (121, true)) (.ibin .eql (.t 124) (.c (.i .i64 0))),
 .op (some 126) none (.pick (.t 121) (.t 125) (.c (.b false))),
 .op (some 127) none (.mv (.t 126)),
 .call (some 128) (some (127, true)) (.c (.fn (.func 11) [] [])) [],
 .op (some 129) none (.pick (.t 127) (.t 128) (.c (.b false))),
 .op (some 6) none (.mv (.t 129))])
 (.ret))))))))))),
 [.t 6]⟩
def k6 : List Nat := [0, 1, 2, 6, 7, 8, 9, 10, 11, 13, 14, 16, 50, 64, 68, 83, 88, 89, 90, 91, 105]
set_option maxRecDepth 100000 in
theorem c6 : compF Go.Proofs.Tryd.prog 3 Go.Proofs.Tryd.f6 = some e6 := by kernel_rfl
/-- sandglass/sandglasslaw08.BitmapAll -/
def e7 : IFunc := ⟨140, 4,
 .seq (.reg [.op (some 8) none (.mv (.c (.b false)))])
 (.seq (.reg [.op (some 21) none (.mv (.t 0)),
 .op (some 22) none (.mv (.t 1)),
 .call (some 23) none (.c (.fn (.func 9) [] [])) [(.t 21), (.t 22)],
 .op (some 20) none (.mv (.t 23)),
 .op (some 24) none (.ext (.t 20) 0),
 .op (some 25) none (.ext (.t 20) 1),
 .op (some 26) none (.ext (.t 20) 2),
 .op (some 9) none (.mv (.t 24)),
 .op (some 10) none (.mv (.t 25)),
 .op (some 11) none (.mv (.t 26))])
 (.seq (.reg [.op (some 27) none (.mv (.t 9)),
 .call (some 28) none (.c (.fn (.func 25) [] [])) [(.t 27)],
 .op (some 12) none (.mv (.t 28))])
 (.seq (.seq (.reg [.op (some 29) none (.mv (.t 12)),
 .op (some 30) none (.len 2 (.t 29)),
 .op (some 31) none (.mv (.c (.i .i64 0)))])
 (.block 0
 (.loop
 (.seq (.reg [.op (some 32) none (.ibin .lss (.t 31) (.t 30))])
 (.seq (.cond (.t 32)
 (.skip)
 (.exit 0))
 (.seq (.block 1
 (.seq (.reg [.op (some 33) none (.mv (.t 31)),
 .op (some 34) none (.iad 1 (.t 29) (.t 31)),
 .op (some 35) none (.ld1 (.t 34)),
 .op (some 13) none (.mv (.t 33)),
 .op (some 14) none (.mv (.t 35))])
 (.seq (.reg [.op (some 36) none (.mv (.t 11)),
 .op (some 37) none (.mv (.t 14)),
 .op (some 38) none (.lkp (.int .i64) false (.i .i64 0) (.t 36) (.t 37)),
 .op (some 39) none (.ibin .eql (.t 38) (.c (.i .i64 0))),
 .op (some 40) none (.mv (.t 39)),
 .op (some 41) (some (40, false)) (.mv (.t 13)),
 .op (some 42) (some (40, false)) (.ibin .gtr (.t 41) (.c (.i .i64 0))),
 .op (some 43) (some (40, false)) (.mv (.t 42)),
 .op (some 44) (some (43, true)) (.mv (.t 12)),
 .op (some 45) (some (43, true)) (.mv (.t 13)),
 .op (some 46) (some (43, true)) (.ibin .sub (.t 45) (.c (.i .i64 1))),
 .op (some 47) (some (43, true)) (.iad 1 (.t 44) (.t 46)),
 .op (some 48) (some (43, true)) (.ld1 (.t 47)),
 .op (some 49) (some (43, true)) (.mv (.t 14)),
 .op (some 50) (some (43, true)) (.ibin .geq (.t 48) (.t 49)),
 .op (some 51) (some (40, false)) (.pick (.t 43) (.t 50) (.c (.b false))),
 .op (some 52) none (.pick (.t 40) (.c (.b true)) (.t 51))])
 (.cond (.t 52)
 (.seq (.reg [.op (some 8) none (.mv (.c (.b false)))])
 (.ret))
 (.skip)))))
 (.reg [.op (some 53) none (.ibin .add (.t 31) (.c (.i .i64 1))),
 .op (some 31) none (.mv (.t 53))])))))))
 (.seq (.seq (.reg [.op (some 54) none (.mv (.t 12)),
 .op (some 55) none (.len 2 (.t 54)),
 .op (some 56) none (.mv (.t 11)),
 .op (some 57) none (.len 3 (.t 56)),
 .op (some 58) none (.ibin .neq (.t 55) (.t 57)),
 .op (some 59) none (.mv (.t 58)),
 .op (some 60) (some (59, false)) (.mv (.t 2)),
 .op (some 61) (some (59, false)) (.ibin .lss (.t 60) (.c (.i .i64 0))),
 .op (some 62) (some (59, false)) (.mv (.t 61)),
 .op (some 63) (some (62, false)) (.mv (.t 2)),
 .op (some 64) (some (62, false)) (.mv (.t 10)),
 .op (some 65) (some (62, false)) (.ibin .geq (.t 63) (.t 64)),
 .op (some 66) (some (59, false)) (.pick (.t 62) (.c (.b true)) (.t 65)),
 .op (some 67) (some (59, false)) (.mv (.t 66)),
 .op (some 68) (some (67, true)) (.mv (.t 9)),
 .op (some 69) (some (67, true)) (.mv (.t 2)),
 .call (some 70) (some (67, true)) (.c (.fn (.func 18) [] [])) [(.t 68), (.t 69)],
 .op (some 71) (some (67, true)) (.mv (.t 70)),
 .op (some 72) (some (71, false)) (.mv (.t 9)),
 .op (some 73) (some (71, false)) (.mv (.t 2)),
 .call (some 74) (some (71, false)) (.c (.fn (.func 19) [] [])) [(.t 72), (.t 73)],
 .op (some 75) (some (67, true)) (.pick (.t 71) (.c (.b true)) (.t 74)),
 .op (some 76) (some (67, true)) (.mv (.t 75)),
 .op (some 77) (some (76, false)) (.mv (.t 9)),
 .op (some 78) (some (76, false)) (.mv (.t 2)),
 .call (some 79) (some (76, false)) (.c (.fn (.func 13) [] [])) [(.t 77), (.t 78)],
 .op (some 80) (some (67, true)) (.pick (.t 76) (.c (.b true)) (.t 79)),
 .op (some 81) (some (59, false)) (.pick (.t 67) (.t 80) (.c (.b false))),
 .op (some 82) none (.pick (.t 59) (.c (.b true)) (.t 81)),
 .op (some 83) none (.mv (.t 82)),
 .op (some 84) (some (83, false)) (.mv (.t 9)),
 .call (some 85) (some (83, false)) (.c (.fn (.func 14) [] [])) [(.t 84)],
 .op (some 86) (some (83, false)) (.mv (.t 12)),
 .op (some 87) (some (83, false)) (.len 2 (.t 86)),
 .op (some 88) (some (83, false)) (.ibin .neq (.t 85) (.t 87)),
 .op (some 89) none (.pick (.t 83) (.c (.b true)) (.t 88))])
 (.cond (.t 89)
 (.seq (.reg [.op (some 8) none (.mv (.c (.b false)))])
 (.ret))
 (.skip)))
 (.seq (.reg [.op (some 91) none (.mv (.t 3)),
 .op (some 92) none (.ibin .rem (.t 91) (.c (.i .u16 300))),
 .op (some 93) none (.conv .i64 (.t 92)),
 .op (some 94) none (.ibin .add (.c (.i .i64 1)) (.t 93)),
 .call (some 95) none (.c (.fn (.func 15) [] [])) [(.t 94)],
 .op (some 90) none (.mv (.t 95)),
 .op (some 96) none (.ext (.t 90) 0),
 .op (some 97) none (.ext (.t 90) 1),
 .op (some 15) none (.mv (.t 96)),
 .op (some 16) none (.mv (.t 97))])
 (.seq (.seq (.reg [.op (some 98) none (.mv (.t 3)),
 .op (some 99) none (.ibin .rem (.t 98) (.c (.i .u16 300))),
 .op (some 100) none (.conv .i64 (.t 99)),
 .op (some 101) none (.ibin .add (.c (.i .i64 1)) (.t 100)),
 .op (some 102) none (.mv (.c (.i .i64 0)))])
 (.block 2
 (.loop
 (.seq (.reg [.op (some 103) none (.ibin .lss (.t 102) (.t 101))])
 (.seq (.cond (.t 103)
 (.skip)
 (.exit 2))
 (.seq (.block 3
 (.seq (.reg [.op (some 104) none (.mv (.t 102)),
 .op (some 17) none (.mv (.t 104))])
 (.seq (.reg [.op (some 105) none (.mv (.t 15)),
 .op (some 106) none (.mv (.t 17)),
 .call (some 107) none (.c (.fn (.func 18) [] [])) [(.t 105), (.t 106)],
 .op (some 108) none (.un .not (.t 107))])
 (.cond (.t 108)
 (.seq (.reg [.op (some 8) none (.mv (.c (.b false)))])
 (.ret))
 (.skip)))))
 (.reg [.op (some 109) none (.ibin .add (.t 102) (.c (.i .i64 1))),
 .op (some 102) none (.mv (.t 109))])))))))
 (.seq (.seq (.reg [.op (some 110) none (.mv (.t 15)),
 .call (some 111) none (.c (.fn (.func 25) [] [])) [(.t 110)],
 .op (some 112) none (.len 2 (.t 111)),
 .op (some 113) none (.mv (.c (.i .i64 0)))])
 (.block 4
 (.loop
 (.seq (.reg [.op (some 114) none (.ibin .lss (.t 113) (.t 112))])
 (.seq (.cond (.t 114)
 (.skip)
 (.exit 4))
 (.seq (.block 5
 (.seq (.reg [.op (some 115) none (.mv (.t 113)),
 .op (some 116) none (.iad 1 (.t 111) (.t 113)),
 .op (some 117) none (.ld1 (.t 116)),
 .op (some 18) none (.mv (.t 115)),
 .op (some 19) none (.mv (.t 117))])
 (.seq (.reg [.op (some 118) none (.mv (.t 19)),
 .op (some 119) none (.mv (.t 18)),
 .op (some 120) none (.ibin .neq (.t 118) (.t 119))])
 (.cond (.t 120)
 (.seq (.reg [.op (some 8) none (.mv (.c (.b false)))])
 (.ret))
 (.skip)))))
 (.reg [.op (some 121) none (.ibin .add (.t 113) (.c (.i .i64 1))),
 .op (some 113) none (.mv (.t 121))])))))))
 (.seq (.reg [.op (some 122) none (.mv (.t 15)),
 .call (some 123) none (.c (.fn (.func 14) [] [])) [(.t 122)],
 .op (some 124) none (.mv (.t 3)),
 .op (some 125) none (.ibin .rem (.t 124) (.c (.i .u16 300))),
 .op (some 126) none (.conv .i64 (.t 125)),
 .op (some 127) none (.ibin .add (.c (.i .i64 1)) (.t 126)),
 .op (some 128) none (.ibin .eql (.t 123) (.t 127)),
 .op (some 129) none (.mv (.t 128)),
 .op (some 130) (some (129, true)) (.mv (.t 15)),
 .call (some 131) (some (129, true)) (.c (.fn (.func 25) [] [])) [(.t 130)],
 .op (some 132) (some (129, true)) (.len 2 (.t 131)),
 .op (some 133) (some (129, true)) (.mv (.t 15)),
 .call (some 134) (some (129, true)) (.c (.fn (.func 14) [] [])) [(.t 133)],
 .op (some 135) (some (129, true)) (.ibin .eql (.t 132) (.t 134)),
 .op (some 136) none (.pick (.t 129) (.t 135) (.c (.b false))),
 .op (some 137) none (.mv (.t 136)),
 .call (some 138) (some (137, true)) (.c (.fn (.func 11) [] [])) [],
 .op (some 139) none (.pick (.t 137) (.t 138) (.c (.b false))),
 .op (some 8) none (.mv (.t 139))])
 (.ret))))))))),
 [.t 8]⟩
def k7 : List Nat := [0, 1, 2, 3, 8, 9, 10, 11, 12, 13, 14, 15, 17, 18, 19, 29, 30, 31, 32, 52, 89, 101, 102, 103, 108, 111, 112, 113, 114, 120]
set_option maxRecDepth 100000 in
theorem c7 : compF Go.Proofs.Tryd.prog 4 Go.Proofs.Tryd.f7 = some e7 := by kernel_rfl
/-- sandglass/sandglasslaw08.BitmapNone -/
def e8 : IFunc := ⟨63, 1,
 .seq (.reg [.op (some 2) none (.mv (.c (.b false)))])
 (.seq (.seq (.reg [.op (some 9) none (.build [.nils, (.i .i64 0), (.i .i64 0)] []),
 .op (some 10) none (.box (.t 9)),
 .op (some 11) none (.bslice 1 2 [.nilp, .nilp] [(0, 1, (.c .nilp)), (1, 1, (.t 10))]),
 .op (some 12) none (.len 2 (.t 11)),
 .op (some 13) none (.mv (.c (.i .i64 0)))])
 (.block 0
 (.loop
 (.seq (.reg [.op (some 14) none (.ibin .lss (.t 13) (.t 12))])
 (.seq (.cond (.t 14)
 (.skip)
 (.exit 0))
 (.seq (.block 1
 (.seq (.reg [.op (some 15) none (.iad 1 (.t 11) (.t 13)),
 .op (some 16) none (.ld1 (.t 15)),
 .op (some 4) none (.mv (.t 16))])
 (.seq (.reg [.op (some 18) none (.mv (.t 4)),
 .op (some 19) none (.mv (.t 0)),
 .call (some 20) none (.c (.fn (.func 12) [] [])) [(.t 18), (.t 19)],
 .op (some 17) none (.mv (.t 20)),
 .op (some 21) none (.ext (.t 17) 0),
 .op (some 22) none (.ext (.t 17) 1),
 .op (some 5) none (.mv (.t 21)),
 .op (some 6) none (.mv (.t 22))])
 (.seq (.reg [.op (some 24) none (.mv (.t 4)),
 .op (some 25) none (.mv (.t 0)),
 .call (some 26) none (.c (.fn (.func 10) [] [])) [(.t 24), (.t 25)],
 .op (some 23) none (.mv (.t 26)),
 .op (some 27) none (.ext (.t 23) 0),
 .op (some 28) none (.ext (.t 23) 1),
 .op (some 7) none (.mv (.t 27)),
 .op (some 8) none (.mv (.t 28))])
 (.seq (.reg [.op (some 29) none (.mv (.t 4)),
 .op (some 30) none (.mv (.t 0)),
 .call (some 31) none (.c (.fn (.func 18) [] [])) [(.t 29), (.t 30)],
 .op (some 32) none (.mv (.t 31)),
 .op (some 33) (some (32, false)) (.mv (.t 4)),
 .op (some 34) (some (32, false)) (.mv (.t 0)),
 .call (some 35) (some (32, false)) (.c (.fn (.func 19) [] [])) [(.t 33), (.t 34)],
 .op (some 36) none (.pick (.t 32) (.c (.b true)) (.t 35)),
 .op (some 37) none (.mv (.t 36)),
 .op (some 38) (some (37, false)) (.mv (.t 4)),
 .op (some 39) (some (37, false)) (.mv (.t 0)),
 .call (some 40) (some (37, false)) (.c (.fn (.func 13) [] [])) [(.t 38), (.t 39)],
 .op (some 41) none (.pick (.t 37) (.c (.b true)) (.t 40)),
 .op (some 42) none (.mv (.t 41)),
 .op (some 43) (some (42, false)) (.mv (.t 6)),
 .op (some 44) none (.pick (.t 42) (.c (.b true)) (.t 43)),
 .op (some 45) none (.mv (.t 44)),
 .op (some 46) (some (45, false)) (.mv (.t 8)),
 .op (some 47) none (.pick (.t 45) (.c (.b true)) (.t 46)),
 .op (some 48) none (.mv (.t 47)),
 .op (some 49) (some (48, false)) (.mv (.t 5)),
 .op (some 50) (some (48, false)) (.mv (.t 7)),
 .op (some 51) (some (48, false)) (.ibin .add (.t 49) (.t 50)),
 .op (some 52) (some (48, false)) (.mv (.t 4)),
 .call (some 53) (some (48, false)) (.c (.fn (.func 14) [] [])) [(.t 52)],
 .op (some 54) (some (48, false)) (.ibin .add (.t 51) (.t 53)),
 .op (some 55) (some (48, false)) (.mv (.t 4)),
 .call (some 56) (some (48, false)) (.c (.fn (.func 25) [] [])) [(.t 55)],
 .op (some 57) (some (48, false)) (.len 2 (.t 56)),
 .op (some 58) (some (48, false)) (.ibin .add (.t 54) (.t 57)),
 .op (some 59) (some (48, false)) (.ibin .neq (.t 58) (.c (.i .i64 0))),
 .op (some 60) none (.pick (.t 48) (.c (.b true)) (.t 59))])
 (.cond (.t 60)
 (.seq (.reg [.op (some 2) none (.mv (.c (.b false)))])
 (.ret))
 (.skip)))))))
 (.reg [.op (some 61) none (.ibin .add (.t 13) (.c (.i .i64 1))),
 .op (some 13) none (.mv (.t 61))])))))))
 (.seq (.reg [.call (some 62) none (.c (.fn (.func 11) [] [])) [],
 .op (some 2) none (.mv (.t 62))])
 (.ret))),
 [.t 2]⟩
def k8 : List Nat := [0, 2, 4, 5, 6, 7, 8, 11, 12, 13, 14, 60]
set_option maxRecDepth 100000 in
theorem c8 : compF Go.Proofs.Tryd.prog 1 Go.Proofs.Tryd.f8 = some e8 := by kernel_rfl
/-- sandglass/sandglasslaw08.played -/
def e9 : IFunc := ⟨46, 2,
 .seq (.reg [.op (some 4) none (.mv (.c .nilp)),
 .op (some 5) none (.mv (.c (.i .i64 0))),
 .op (some 6) none (.mv (.c .nilm))])
 (.seq (.reg [.op (some 14) none (.mv (.t 0)),
 .op (some 15) none (.conv .i64 (.t 14)),
 .op (some 16) none (.ibin .add (.c (.i .i64 1)) (.t 15)),
 .op (some 7) none (.mv (.t 16))])
 (.seq (.reg [.op (some 18) none (.mv (.t 7)),
 .call (some 19) none (.c (.fn (.func 15) [] [])) [(.t 18)],
 .op (some 17) none (.mv (.t 19)),
 .op (some 20) none (.ext (.t 17) 0),
 .op (some 21) none (.ext (.t 17) 1),
 .op (some 8) none (.mv (.t 20)),
 .op (some 9) none (.mv (.t 21))])
 (.seq (.reg [.any (some 22) none (.mkm none),
 .op (some 10) none (.mv (.t 22))])
 (.seq (.seq (.reg [.op (some 23) none (.mv (.t 1)),
 .op (some 24) none (.mv (.t 1)),
 .op (some 25) none (.len 2 (.t 24)),
 .op (some 26) none (.mx true (.t 25) [(.c (.i .i64 60))]),
 .op (some 27) none (.slice 1 (.t 23) none (some (.t 26))),
 .op (some 28) none (.len 2 (.t 27)),
 .op (some 29) none (.mv (.c (.i .i64 0)))])
 (.block 0
 (.loop
 (.seq (.reg [.op (some 30) none (.ibin .lss (.t 29) (.t 28))])
 (.seq (.cond (.t 30)
 (.skip)
 (.exit 0))
 (.seq (.block 1
 (.seq (.reg [.op (some 31) none (.iad 1 (.t 27) (.t 29)),
 .op (some 32) none (.ld1 (.t 31)),
 .op (some 12) none (.mv (.t 32))])
 (.seq (.reg [.op (some 33) none (.mv (.t 12)),
 .op (some 34) none (.conv .i64 (.t 33)),
 .op (some 35) none (.mv (.t 7)),
 .op (some 36) none (.ibin .rem (.t 34) (.t 35)),
 .op (some 13) none (.mv (.t 36))])
 (.seq (.reg [.op (some 37) none (.mv (.t 8)),
 .op (some 38) none (.mv (.t 13)),
 .call (some 39) none (.c (.fn (.func 18) [] [])) [(.t 37), (.t 38)]])
 (.reg [.op (some 40) none (.mv (.t 10)),
 .op (some 41) none (.mv (.t 13)),
 .any none none (.mup (.int .i64) (.t 40) (.t 41) (.c (.i .i64 1)))])))))
 (.reg [.op (some 42) none (.ibin .add (.t 29) (.c (.i .i64 1))),
 .op (some 29) none (.mv (.t 42))])))))))
 (.seq (.reg [.op (some 43) none (.mv (.t 8)),
 .op (some 44) none (.mv (.t 7)),
 .op (some 45) none (.mv (.t 10)),
 .op (some 4) none (.mv (.t 43)),
 .op (some 5) none (.mv (.t 44)),
 .op (some 6) none (.mv (.t 45))])
 (.ret)))))),
 [.t 4, .t 5, .t 6]⟩
def k9 : List Nat := [0, 1, 4, 5, 6, 7, 8, 10, 12, 13, 27, 28, 29, 30]
set_option maxRecDepth 100000 in
theorem c9 : compF Go.Proofs.Tryd.prog 2 Go.Proofs.Tryd.f9 = some e9 := by kernel_rfl
/-- (*sandglass/bitmap.Bits).Round -/
def e10 : IFunc := ⟨20, 2,
 .seq (.reg [.op (some 4) none (.mv (.c (.i .i64 0))),
 .op (some 5) none (.mv (.c (.b false)))])
 (.seq (.seq (.reg [.op (some 9) none (.mv (.t 0)),
 .op (some 10) none (.mv (.t 1)),
 .call (some 11) none (.c (.fn (.func 12) [] [])) [(.t 9), (.t 10)],
 .op (some 8) none (.mv (.t 11)),
 .op (some 12) none (.ext (.t 8) 0),
 .op (some 13) none (.ext (.t 8) 1),
 .op (some 6) none (.mv (.t 12)),
 .op (some 7) none (.mv (.t 13))])
 (.seq (.reg [.op (some 14) none (.mv (.t 7))])
 (.cond (.t 14)
 (.seq (.reg [.op (some 15) none (.mv (.t 6)),
 .op (some 4) none (.mv (.t 15)),
 .op (some 5) none (.mv (.c (.b true)))])
 (.ret))
 (.skip))))
 (.seq (.reg [.op (some 16) none (.mv (.t 0)),
 .call (some 17) none (.c (.fn (.func 12) [] [])) [(.t 16), (.c (.i .i64 0))],
 .op (some 18) none (.ext (.t 17) 0),
 .op (some 19) none (.ext (.t 17) 1),
 .op (some 4) none (.mv (.t 18)),
 .op (some 5) none (.mv (.t 19))])
 (.ret))),
 [.t 4, .t 5]⟩
def k10 : List Nat := [0, 1, 4, 5, 6, 7, 14]
set_option maxRecDepth 100000 in
theorem c10 : compF Go.Proofs.Tryd.prog 2 Go.Proofs.Tryd.f10 = some e10 := by kernel_rfl
/-- sandglass/sandglasslaw08.awake -/
def e11 : IFunc := ⟨108, 0,
 .seq (.reg [.op (some 0) none (.mv (.c (.b false)))])
 (.seq (.reg [.call (some 18) none (.c (.fn (.func 15) [] [])) [(.c (.i .i64 200))],
 .op (some 17) none (.mv (.t 18)),
 .op (some 19) none (.ext (.t 17) 0),
 .op (some 20) none (.ext (.t 17) 1),
 .op (some 1) none (.mv (.t 19)),
 .op (some 2) none (.mv (.t 20))])
 (.seq (.reg [.op (some 21) none (.mv (.t 1)),
 .call (some 22) none (.c (.fn (.func 18) [] [])) [(.t 21), (.c (.i .i64 3))]])
 (.seq (.reg [.op (some 23) none (.mv (.t 1)),
 .call (some 24) none (.c (.fn (.func 18) [] [])) [(.t 23), (.c (.i .i64 150))]])
 (.seq (.reg [.op (some 26) none (.mv (.t 1)),
 .call (some 27) none (.c (.fn (.func 12) [] [])) [(.t 26), (.c (.i .i64 0))],
 .op (some 25) none (.mv (.t 27)),
 .op (some 28) none (.ext (.t 25) 0),
 .op (some 29) none (.ext (.t 25) 1),
 .op (some 3) none (.mv (.t 28)),
 .op (some 4) none (.mv (.t 29))])
 (.seq (.reg [.op (some 31) none (.mv (.t 1)),
 .call (some 32) none (.c (.fn (.func 12) [] [])) [(.t 31), (.c (.i .i64 4))],
 .op (some 30) none (.mv (.t 32)),
 .op (some 33) none (.ext (.t 30) 0),
 .op (some 34) none (.ext (.t 30) 1),
 .op (some 5) none (.mv (.t 33)),
 .op (some 6) none (.mv (.t 34))])
 (.seq (.reg [.op (some 36) none (.mv (.t 1)),
 .call (some 37) none (.c (.fn (.func 12) [] [])) [(.t 36), (.c (.i .i64 151))],
 .op (some 35) none (.mv (.t 37)),
 .op (some 38) none (.ext (.t 35) 0),
 .op (some 39) none (.ext (.t 35) 1),
 .op (some 7) none (.mv (.t 38)),
 .op (some 8) none (.mv (.t 39))])
 (.seq (.reg [.op (some 41) none (.mv (.t 1)),
 .call (some 42) none (.c (.fn (.func 10) [] [])) [(.t 41), (.c (.i .i64 151))],
 .op (some 40) none (.mv (.t 42)),
 .op (some 43) none (.ext (.t 40) 0),
 .op (some 44) none (.ext (.t 40) 1),
 .op (some 9) none (.mv (.t 43)),
 .op (some 10) none (.mv (.t 44))])
 (.seq (.reg [.op (some 45) none (.mv (.t 1)),
 .call (some 46) none (.c (.fn (.func 18) [] [])) [(.t 45), (.c (.i .i64 3))],
 .op (some 47) none (.mv (.t 1)),
 .call (some 48) none (.c (.fn (.func 19) [] [])) [(.t 47), (.c (.i .i64 3))],
 .op (some 11) none (.mv (.t 46)),
 .op (some 12) none (.mv (.t 48))])
 (.seq (.reg [.op (some 50) none (.mv (.t 1)),
 .call (some 51) none (.c (.fn (.func 12) [] [])) [(.t 50), (.c (.i .i64 (-5)))],
 .op (some 49) none (.mv (.t 51)),
 .op (some 52) none (.ext (.t 49) 0),
 .op (some 53) none (.ext (.t 49) 1),
 .op (some 13) none (.mv (.t 52)),
 .op (some 14) none (.mv (.t 53))])
 (.seq (.reg [.call (some 55) none (.c (.fn (.func 15) [] [])) [(.c (.i .i64 0))],
 .op (some 54) none (.mv (.t 55)),
 .op (some 56) none (.ext (.t 54) 0),
 .op (some 57) none (.ext (.t 54) 1),
 .op (some 15) none (.mv (.t 56)),
 .op (some 16) none (.mv (.t 57))])
 (.seq (.reg [.op (some 58) none (.mv (.t 2)),
 .op (some 59) none (.ibin .eql (.t 58) (.c (.i .i64 0))),
 .op (some 60) none (.mv (.t 59)),
 .op (some 61) (some (60, true)) (.mv (.t 3)),
 .op (some 62) (some (60, true)) (.ibin .eql (.t 61) (.c (.i .i64 3))),
 .op (some 63) none (.pick (.t 60) (.t 62) (.c (.b false))),
 .op (some 64) none (.mv (.t 63)),
 .op (some 65) (some (64, true)) (.mv (.t 4)),
 .op (some 66) none (.pick (.t 64) (.t 65) (.c (.b false))),
 .op (some 67) none (.mv (.t 66)),
 .op (some 68) (some (67, true)) (.mv (.t 5)),
 .op (some 69) (some (67, true)) (.ibin .eql (.t 68) (.c (.i .i64 150))),
 .op (some 70) none (.pick (.t 67) (.t 69) (.c (.b false))),
 .op (some 71) none (.mv (.t 70)),
 .op (some 72) (some (71, true)) (.mv (.t 6)),
 .op (some 73) none (.pick (.t 71) (.t 72) (.c (.b false))),
 .op (some 74) none (.mv (.t 73)),
 .op (some 75) (some (74, true)) (.mv (.t 8)),
 .op (some 76) (some (74, true)) (.un .not (.t 75)),
 .op (some 77) none (.pick (.t 74) (.t 76) (.c (.b false))),
 .op (some 78) none (.mv (.t 77)),
 .op (some 79) (some (78, true)) (.mv (.t 9)),
 .op (some 80) (some (78, true)) (.ibin .eql (.t 79) (.c (.i .i64 3))),
 .op (some 81) none (.pick (.t 78) (.t 80) (.c (.b false))),
 .op (some 82) none (.mv (.t 81)),
 .op (some 83) (some (82, true)) (.mv (.t 10)),
 .op (some 84) none (.pick (.t 82) (.t 83) (.c (.b false))),
 .op (some 85) none (.mv (.t 84)),
 .op (some 86) (some (85, true)) (.mv (.t 11)),
 .op (some 87) (some (85, true)) (.un .not (.t 86)),
 .op (some 88) none (.pick (.t 85) (.t 87) (.c (.b false))),
 .op (some 89) none (.mv (.t 88)),
 .op (some 90) (some (89, true)) (.mv (.t 12)),
 .op (some 91) none (.pick (.t 89) (.t 90) (.c (.b false))),
 .op (some 92) none (.mv (.t 91)),
 .op (some 93) (some (92, true)) (.mv (.t 13)),
 .op (some 94) (some (92, true)) (.ibin .eql (.t 93) (.c (.i .i64 150))),
 .op (some 95) none (.pick (.t 92) (.t 94) (.c (.b false))),
 .op (some 96) none (.mv (.t 95)),
 .op (some 97) (some (96, true)) (.mv (.t 14)),
 .op (some 98) none (.pick (.t 96) (.t 97) (.c (.b false))),
 .op (some 99) none (.mv (.t 98)),
 .op (some 100) (some (99, true)) (.mv (.t 1)),
 .call (some 101) (some (99, true)) (.c (.fn (.func 18) [] [])) [(.t 100), (.c (.i .i64 200))],
 .op (some 102) (some (99, true)) (.un .not (.t 101)),
 .op (some 103) none (.pick (.t 99) (.t 102) (.c (.b false))),
 .op (some 104) none (.mv (.t 103)),
 .op (some 105) (some (104, true)) (.mv (.t 16)),
 .op (some 106) (some (104, true)) (.ibin .eql (.t 105) (.c (.i .i64 2))),
 .op (some 107) none (.pick (.t 104) (.t 106) (.c (.b false))),
 .op (some 0) none (.mv (.t 107))])
 (.ret)))))))))))),
 [.t 0]⟩
def k11 : List Nat := [0, 1, 2, 3, 4, 5, 6, 8, 9, 10, 11, 12, 13, 14, 16]
set_option maxRecDepth 100000 in
theorem c11 : compF Go.Proofs.Tryd.prog 0 Go.Proofs.Tryd.f11 = some e11 := by kernel_rfl
/-- (*sandglass/bitmap.Bits).Next -/
def e12 : IFunc := ⟨62, 2,
 .seq (.reg [.op (some 4) none (.mv (.c (.i .i64 0))),
 .op (some 5) none (.mv (.c (.b false)))])
 (.seq (.reg [.op (some 10) none (.mv (.t 1)),
 .op (some 11) none (.mx false (.t 10) [(.c (.i .i64 0))]),
 .op (some 1) none (.mv (.t 11))])
 (.seq (.seq (.reg [.op (some 12) none (.mv (.t 0)),
 .op (some 13) none (.mv (.t 1)),
 .call (some 14) none (.c (.fn (.func 26) [] [])) [(.t 12), (.t 13)],
 .op (some 15) none (.un .not (.t 14))])
 (.cond (.t 15)
 (.seq (.reg [.op (some 4) none (.mv (.c (.i .i64 0))),
 .op (some 5) none (.mv (.c (.b false)))])
 (.ret))
 (.skip)))
 (.seq (.reg [.op (some 16) none (.mv (.t 1)),
 .op (some 6) none (.mv (.t 16))])
 (.seq (.seq (.reg [.op (some 17) none (.mv (.t 0)),
 .op (some 18) none (.nilchk (.t 17)),
 .op (some 19) none (.fad 0 (.t 18)),
 .op (some 20) none (.ld1 (.t 19)),
 .op (some 21) none (.len 2 (.t 20)),
 .op (some 22) none (.mv (.c (.i .i64 0)))])
 (.block 0
 (.loop
 (.seq (.reg [.op (some 23) none (.ibin .lss (.t 22) (.t 21))])
 (.seq (.cond (.t 23)
 (.skip)
 (.exit 0))
 (.seq (.block 1
 (.seq (.reg [.op (some 24) none (.mv (.t 22)),
 .op (some 7) none (.mv (.t 24))])
 (.seq (.reg [.op (some 25) none (.mv (.t 6)),
 .op (some 26) none (.ibin .shr (.t 25) (.c (.i .u64 6))),
 .op (some 8) none (.mv (.t 26))])
 (.seq (.seq (.reg [.op (some 27) none (.mv (.t 8)),
 .op (some 28) none (.mv (.t 0)),
 .op (some 29) none (.nilchk (.t 28)),
 .op (some 30) none (.fad 0 (.t 29)),
 .op (some 31) none (.ld1 (.t 30)),
 .op (some 32) none (.mv (.t 7)),
 .op (some 33) none (.iad 1 (.t 31) (.t 32)),
 .op (some 34) none (.ld1 (.t 33)),
 .op (some 35) none (.len 2 (.t 34)),
 .op (some 36) none (.ibin .lss (.t 27) (.t 35))])
 (.cond (.t 36)
 (.seq (.reg [.op (some 37) none (.mv (.t 0)),
 .op (some 38) none (.nilchk (.t 37)),
 .op (some 39) none (.fad 0 (.t 38)),
 .op (some 40) none (.ld1 (.t 39)),
 .op (some 41) none (.mv (.t 7)),
 .op (some 42) none (.iad 1 (.t 40) (.t 41)),
 .op (some 43) none (.ld1 (.t 42)),
 .op (some 44) none (.mv (.t 8)),
 .op (some 45) none (.iad 1 (.t 43) (.t 44)),
 .op (some 46) none (.ld1 (.t 45)),
 .op (some 47) none (.mv (.t 6)),
 .op (some 48) none (.ibin .rem (.t 47) (.c (.i .i64 64))),
 .op (some 49) none (.ibin .shr (.t 46) (.t 48)),
 .op (some 9) none (.mv (.t 49))])
 (.seq (.reg [.op (some 50) none (.mv (.t 9)),
 .op (some 51) none (.ibin .neq (.t 50) (.c (.i .u64 0)))])
 (.cond (.t 51)
 (.seq (.reg [.op (some 52) none (.mv (.t 0)),
 .op (some 53) none (.mv (.t 7)),
 .op (some 54) none (.mv (.t 6)),
 .op (some 55) none (.mv (.t 9)),
 .call (some 56) none (.c (.fn (.func 28) [] [])) [(.t 55)],
 .op (some 57) none (.ibin .add (.t 54) (.t 56)),
 .call (some 58) none (.c (.fn (.func 27) [] [])) [(.t 52), (.t 53), (.t 57)],
 .op (some 4) none (.mv (.t 58)),
 .op (some 5) none (.mv (.c (.b true)))])
 (.ret))
 (.skip))))
 (.skip)))
 (.reg [.op (some 59) none (.mv (.t 8)),
 .op (some 60) none (.ibin .add (.t 59) (.c (.i .i64 1))),
 .op (some 6) none (.mv (.t 60))])))))
 (.reg [.op (some 61) none (.ibin .add (.t 22) (.c (.i .i64 1))),
 .op (some 22) none (.mv (.t 61))])))))))
 (.seq (.reg [.op (some 4) none (.mv (.c (.i .i64 0))),
 .op (some 5) none (.mv (.c (.b false)))])
 (.ret)))))),
 [.t 4, .t 5]⟩
def k12 : List Nat := [0, 1, 4, 5, 6, 7, 8, 9, 15, 21, 22, 23, 36, 51]
set_option maxRecDepth 100000 in
theorem c12 : compF Go.Proofs.Tryd.prog 2 Go.Proofs.Tryd.f12 = some e12 := by kernel_rfl
/-- (*sandglass/bitmap.Bits).Has -/
def e13 : IFunc := ⟨25, 2,
 .seq (.reg [.op (some 4) none (.mv (.c (.b false)))])
 (.seq (.reg [.op (some 5) none (.mv (.t 0)),
 .op (some 6) none (.mv (.t 1)),
 .call (some 7) none (.c (.fn (.func 26) [] [])) [(.t 5), (.t 6)],
 .op (some 8) none (.mv (.t 7)),
 .op (some 9) (some (8, true)) (.mv (.t 0)),
 .op (some 10) (some (8, true)) (.nilchk (.t 9)),
 .op (some 11) (some (8, true)) (.fad 0 (.t 10)),
 .op (some 12) (some (8, true)) (.ld1 (.t 11)),
 .op (some 13) (some (8, true)) (.iad 1 (.t 12) (.c (.i .i64 0))),
 .op (some 14) (some (8, true)) (.ld1 (.t 13)),
 .op (some 15) (some (8, true)) (.mv (.t 1)),
 .op (some 16) (some (8, true)) (.ibin .shr (.t 15) (.c (.i .u64 6))),
 .op (some 17) (some (8, true)) (.iad 1 (.t 14) (.t 16)),
 .op (some 18) (some (8, true)) (.ld1 (.t 17)),
 .op (some 19) (some (8, true)) (.mv (.t 1)),
 .op (some 20) (some (8, true)) (.ibin .rem (.t 19) (.c (.i .i64 64))),
 .op (some 21) (some (8, true)) (.ibin .shr (.t 18) (.t 20)),
 .op (some 22) (some (8, true)) (.ibin .and (.t 21) (.c (.i .u64 1))),
 .op (some 23) (some (8, true)) (.ibin .eql (.t 22) (.c (.i .u64 1))),
 .op (some 24) none (.pick (.t 8) (.t 23) (.c (.b false))),
 .op (some 4) none (.mv (.t 24))])
 (.ret)),
 [.t 4]⟩
def k13 : List Nat := [0, 1, 4]
set_option maxRecDepth 100000 in
theorem c13 : compF Go.Proofs.Tryd.prog 2 Go.Proofs.Tryd.f13 = some e13 := by kernel_rfl
/-- (*sandglass/bitmap.Bits).Len -/
def e14 : IFunc := ⟨9, 1,
 .seq (.reg [.op (some 2) none (.mv (.c (.i .i64 0)))])
 (.seq (.seq (.reg [.op (some 3) none (.mv (.t 0)),
 .op (some 4) none (.eqn 2 false (.t 3) (.c .nilp))])
 (.cond (.t 4)
 (.seq (.reg [.op (some 2) none (.mv (.c (.i .i64 0)))])
 (.ret))
 (.skip)))
 (.seq (.reg [.op (some 5) none (.mv (.t 0)),
 .op (some 6) none (.nilchk (.t 5)),
 .op (some 7) none (.fad 2 (.t 6)),
 .op (some 8) none (.ld1 (.t 7)),
 .op (some 2) none (.mv (.t 8))])
 (.ret))),
 [.t 2]⟩
def k14 : List Nat := [0, 2, 4]
set_option maxRecDepth 100000 in
theorem c14 : compF Go.Proofs.Tryd.prog 1 Go.Proofs.Tryd.f14 = some e14 := by kernel_rfl
/-- sandglass/bitmap.New -/
def e15 : IFunc := ⟨42, 1,
 .seq (.reg [.op (some 2) none (.mv (.c .nilp)),
 .op (some 3) none (.mv (.c (.i .i64 0)))])
 (.seq (.seq (.reg [.op (some 6) none (.mv (.t 0)),
 .op (some 7) none (.ibin .lss (.t 6) (.c (.i .i64 1))),
 .op (some 8) none (.mv (.t 7)),
 .op (some 9) (some (8, false)) (.mv (.t 0)),
 .op (some 10) (some (8, false)) (.ibin .gtr (.t 9) (.c (.i .i64 65536))),
 .op (some 11) none (.pick (.t 8) (.c (.b true)) (.t 10))])
 (.cond (.t 11)
 (.seq (.reg [.op (some 2) none (.mv (.c .nilp)),
 .op (some 3) none (.mv (.c (.i .i64 2)))])
 (.ret))
 (.skip)))
 (.seq (.reg [.op (some 12) none (.mv (.t 0)),
 .op (some 13) none (.build [.nils, (.i .i64 0), (.i .i64 0)] [(1, 1, (.t 12))]),
 .op (some 14) none (.box (.t 13)),
 .op (some 4) none (.mv (.t 14))])
 (.seq (.seq (.reg [.op (some 15) none (.mv (.t 0)),
 .op (some 5) none (.mv (.t 15))])
 (.block 0
 (.loop
 (.seq (.seq (.reg [.op (some 16) none (.mv (.t 5)),
 .op (some 17) none (.ibin .gtr (.t 16) (.c (.i .i64 1))),
 .op (some 18) none (.mv (.t 17)),
 .op (some 19) (some (18, false)) (.mv (.t 4)),
 .op (some 20) (some (18, false)) (.nilchk (.t 19)),
 .op (some 21) (some (18, false)) (.fad 0 (.t 20)),
 .op (some 22) (some (18, false)) (.ld1 (.t 21)),
 .op (some 23) (some (18, false)) (.len 2 (.t 22)),
 .op (some 24) (some (18, false)) (.ibin .eql (.t 23) (.c (.i .i64 0))),
 .op (some 25) none (.pick (.t 18) (.c (.b true)) (.t 24))])
 (.cond (.t 25)
 (.skip)
 (.exit 0)))
 (.block 1
 (.seq (.reg [.op (some 26) none (.mv (.t 5)),
 .op (some 27) none (.ibin .add (.t 26) (.c (.i .i64 64))),
 .op (some 28) none (.ibin .sub (.t 27) (.c (.i .i64 1))),
 .op (some 29) none (.ibin .quo (.t 28) (.c (.i .i64 64))),
 .op (some 5) none (.mv (.t 29))])
 (.dreg [.op (some 30) none (.mv (.t 4)),
 .op (some 31) none (.mv (.t 4)),
 .op (some 32) none (.nilchk (.t 31)),
 .op (some 33) none (.fad 0 (.t 32)),
 .op (some 34) none (.ld1 (.t 33)),
 .op (some 35) none (.mv (.t 5)),
 .op (some 36) none (.mksl 1 8 [(.i .u64 0)] (.t 35) (.t 35)),
 .op (some 37) none (.bslice 1 1 [.nils] [(0, 1, (.t 36))]),
 .op (some 38) none (.app 1 24 (.t 34) (.t 37)),
 .op (some 39) none (.nilchk (.t 30)),
 .op (some 40) none (.fad 0 (.t 39)),
 .op none none (.st 1 (.t 40) (.t 38))]
 [0, 1, 2, 3, 4, 5, 6, 7, 8, 9, 10, 11] [0, 0, 2, 6, 14, 0, 32, 96, 254, 511, 1023, 2047])))))))
 (.seq (.reg [.op (some 41) none (.mv (.t 4)),
 .op (some 2) none (.mv (.t 41)),
 .op (some 3) none (.mv (.c (.i .i64 0)))])
 (.ret))))),
 [.t 2, .t 3]⟩
def k15 : List Nat := [0, 2, 3, 4, 5, 11, 25]
set_option maxRecDepth 100000 in
theorem c15 : compF Go.Proofs.Tryd.prog 1 Go.Proofs.Tryd.f15 = some e15 := by kernel_rfl
/-- sandglass/sandglassref08.New -/
def e16 : IFunc := ⟨14, 1,
 .seq (.reg [.op (some 2) none (.box (.c (.agg [.nils]))),
 .op (some 3) none (.mv (.c (.b false)))])
 (.seq (.seq (.reg [.op (some 4) none (.mv (.t 0)),
 .op (some 5) none (.ibin .lss (.t 4) (.c (.i .i64 1))),
 .op (some 6) none (.mv (.t 5)),
 .op (some 7) (some (6, false)) (.mv (.t 0)),
 .op (some 8) (some (6, false)) (.ibin .gtr (.t 7) (.c (.i .i64 65536))),
 .op (some 9) none (.pick (.t 6) (.c (.b true)) (.t 8))])
 (.cond (.t 9)
 (.seq (.reg [.op (some 10) none (.build [.nils] []),
 .op none none (.st 1 (.t 2) (.t 10)),
 .op (some 3) none (.mv (.c (.b false)))])
 (.ret))
 (.skip)))
 (.seq (.reg [.op (some 11) none (.mv (.t 0)),
 .op (some 12) none (.mksl 1 1 [(.b false)] (.t 11) (.t 11)),
 .op (some 13) none (.build [.nils] [(0, 1, (.t 12))]),
 .op none none (.st 1 (.t 2) (.t 13)),
 .op (some 3) none (.mv (.c (.b true)))])
 (.ret))),
 [.cn 2 1, .t 3]⟩
def k16 : List Nat := [0, 2, 3, 9]
set_option maxRecDepth 100000 in
theorem c16 : compF Go.Proofs.Tryd.prog 1 Go.Proofs.Tryd.f16 = some e16 := by kernel_rfl
/-- (sandglass/sandglassref08.Bits).With -/
def e17 : IFunc := ⟨38, 3,
 .seq (.reg [.op (some 3) none (.box (.t 0)),
 .op (some 6) none (.box (.c (.agg [.nils]))),
 .op (some 7) none (.mv (.c (.b false)))])
 (.seq (.seq (.reg [.op (some 9) none (.mv (.t 1)),
 .op (some 10) none (.ibin .lss (.t 9) (.c (.i .i64 0))),
 .op (some 11) none (.mv (.t 10)),
 .op (some 12) (some (11, false)) (.mv (.t 1)),
 .op (some 13) (some (11, false)) (.fad 0 (.t 3)),
 .op (some 14) (some (11, false)) (.ld1 (.t 13)),
 .op (some 15) (some (11, false)) (.len 2 (.t 14)),
 .op (some 16) (some (11, false)) (.ibin .geq (.t 12) (.t 15)),
 .op (some 17) none (.pick (.t 11) (.c (.b true)) (.t 16)),
 .op (some 18) none (.mv (.t 17)),
 .op (some 19) (some (18, false)) (.fad 0 (.t 3)),
 .op (some 20) (some (18, false)) (.ld1 (.t 19)),
 .op (some 21) (some (18, false)) (.mv (.t 1)),
 .op (some 22) (some (18, false)) (.iad 1 (.t 20) (.t 21)),
 .op (some 23) (some (18, false)) (.ld1 (.t 22)),
 .op (some 24) (some (18, false)) (.mv (.t 2)),
 .op (some 25) (some (18, false)) (.eqn 1 false (.t 23) (.t 24)),
 .op (some 26) none (.pick (.t 18) (.c (.b true)) (.t 25))])
 (.cond (.t 26)
 (.seq (.reg [.op (some 27) none (.ldn 1 (.t 3)),
 .op none none (.st 1 (.t 6) (.t 27)),
 .op (some 7) none (.mv (.c (.b false)))])
 (.ret))
 (.skip)))
 (.seq (.reg [.op (some 28) none (.bslice 1 0 [] []),
 .op (some 29) none (.fad 0 (.t 3)),
 .op (some 30) none (.ld1 (.t 29)),
 .op (some 31) none (.app 1 1 (.t 28) (.t 30)),
 .op (some 8) none (.mv (.t 31))])
 (.seq (.reg [.op (some 32) none (.mv (.t 8)),
 .op (some 33) none (.mv (.t 1)),
 .op (some 34) none (.mv (.t 2)),
 .op (some 35) none (.iad 1 (.t 32) (.t 33)),
 .op none none (.st 1 (.t 35) (.t 34))])
 (.seq (.reg [.op (some 36) none (.mv (.t 8)),
 .op (some 37) none (.build [.nils] [(0, 1, (.t 36))]),
 .op none none (.st 1 (.t 6) (.t 37)),
 .op (some 7) none (.mv (.c (.b true)))])
 (.ret))))),
 [.cn 6 1, .t 7]⟩
def k17 : List Nat := [0, 1, 2, 3, 6, 7, 8, 26]
set_option maxRecDepth 100000 in
theorem c17 : compF Go.Proofs.Tryd.prog 3 Go.Proofs.Tryd.f17 = some e17 := by kernel_rfl
/-- (*sandglass/bitmap.Bits).Set -/
def e18 : IFunc := ⟨49, 2,
 .seq (.reg [.op (some 4) none (.mv (.c (.b false)))])
 (.seq (.seq (.reg [.op (some 6) none (.mv (.t 0)),
 .op (some 7) none (.mv (.t 1)),
 .call (some 8) none (.c (.fn (.func 26) [] [])) [(.t 6), (.t 7)],
 .op (some 9) none (.un .not (.t 8)),
 .op (some 10) none (.mv (.t 9)),
 .op (some 11) (some (10, false)) (.mv (.t 0)),
 .op (some 12) (some (10, false)) (.mv (.t 1)),
 .call (some 13) (some (10, false)) (.c (.fn (.func 13) [] [])) [(.t 11), (.t 12)],
 .op (some 14) none (.pick (.t 10) (.c (.b true)) (.t 13))])
 (.cond (.t 14)
 (.seq (.reg [.op (some 4) none (.mv (.c (.b false)))])
 (.ret))
 (.skip)))
 (.seq (.seq (.reg [.op (some 15) none (.mv (.t 0)),
 .op (some 16) none (.nilchk (.t 15)),
 .op (some 17) none (.fad 0 (.t 16)),
 .op (some 18) none (.ld1 (.t 17)),
 .op (some 19) none (.len 2 (.t 18)),
 .op (some 20) none (.mv (.c (.i .i64 0)))])
 (.block 0
 (.loop
 (.seq (.reg [.op (some 21) none (.ibin .lss (.t 20) (.t 19))])
 (.seq (.cond (.t 21)
 (.skip)
 (.exit 0))
 (.seq (.block 1
 (.seq (.reg [.op (some 22) none (.mv (.t 20)),
 .op (some 5) none (.mv (.t 22))])
 (.seq (.dreg [.op (some 23) none (.mv (.t 0)),
 .op (some 24) none (.nilchk (.t 23)),
 .op (some 25) none (.fad 0 (.t 24)),
 .op (some 26) none (.ld1 (.t 25)),
 .op (some 27) none (.mv (.t 5)),
 .op (some 28) none (.iad 1 (.t 26) (.t 27)),
 .op (some 29) none (.ld1 (.t 28)),
 .op (some 30) none (.mv (.t 1)),
 .op (some 31) none (.ibin .shr (.t 30) (.c (.i .u64 6))),
 .op (some 32) none (.iad 1 (.t 29) (.t 31)),
 .op (some 33) none (.ld1 (.t 32)),
 .op (some 34) none (.mv (.t 1)),
 .op (some 35) none (.ibin .rem (.t 34) (.c (.i .i64 64))),
 .op (some 36) none (.ibin .shl (.c (.i .u64 1)) (.t 35)),
 .op (some 37) none (.ibin .or (.t 33) (.t 36)),
 .op (some 38) none (.iad 1 (.t 29) (.t 31)),
 .op none none (.st 1 (.t 38) (.t 37))]
 [0, 1, 2, 3, 4, 5, 6, 7, 8, 9, 10, 11, 12, 13, 14, 15, 16] [0, 1, 3, 7, 0, 31, 63, 0, 128, 511, 1023, 0, 2048, 6144, 16383, 32767, 65535])
 (.reg [.op (some 39) none (.mv (.t 1)),
 .op (some 40) none (.ibin .shr (.t 39) (.c (.i .u64 6))),
 .op (some 1) none (.mv (.t 40))]))))
 (.reg [.op (some 41) none (.ibin .add (.t 20) (.c (.i .i64 1))),
 .op (some 20) none (.mv (.t 41))])))))))
 (.seq (.reg [.op (some 42) none (.mv (.t 0)),
 .op (some 43) none (.nilchk (.t 42)),
 .op (some 44) none (.fad 2 (.t 43)),
 .op (some 45) none (.ld1 (.t 44)),
 .op (some 46) none (.ibin .add (.t 45) (.c (.i .i64 1))),
 .op (some 47) none (.nilchk (.t 42)),
 .op (some 48) none (.fad 2 (.t 47)),
 .op none none (.st 1 (.t 48) (.t 46))])
 (.seq (.reg [.op (some 4) none (.mv (.c (.b true)))])
 (.ret))))),
 [.t 4]⟩
def k18 : List Nat := [0, 1, 4, 5, 14, 19, 20, 21]
set_option maxRecDepth 100000 in
theorem c18 : compF Go.Proofs.Tryd.prog 2 Go.Proofs.Tryd.f18 = some e18 := by kernel_rfl
/-- (*sandglass/bitmap.Bits).Clear -/
def e19 : IFunc := ⟨51, 2,
 .seq (.reg [.op (some 4) none (.mv (.c (.b false)))])
 (.seq (.seq (.reg [.op (some 7) none (.mv (.t 0)),
 .op (some 8) none (.mv (.t 1)),
 .call (some 9) none (.c (.fn (.func 13) [] [])) [(.t 7), (.t 8)],
 .op (some 10) none (.un .not (.t 9))])
 (.cond (.t 10)
 (.seq (.reg [.op (some 4) none (.mv (.c (.b false)))])
 (.ret))
 (.skip)))
 (.seq (.seq (.reg [.op (some 11) none (.mv (.t 0)),
 .op (some 12) none (.nilchk (.t 11)),
 .op (some 13) none (.fad 0 (.t 12)),
 .op (some 14) none (.ld1 (.t 13)),
 .op (some 15) none (.len 2 (.t 14)),
 .op (some 16) none (.mv (.c (.i .i64 0)))])
 (.block 0
 (.loop
 (.seq (.reg [.op (some 17) none (.ibin .lss (.t 16) (.t 15))])
 (.seq (.cond (.t 17)
 (.skip)
 (.exit 0))
 (.seq (.block 1
 (.seq (.reg [.op (some 18) none (.mv (.t 16)),
 .op (some 5) none (.mv (.t 18))])
 (.seq (.reg [.op (some 19) none (.mv (.t 0)),
 .op (some 20) none (.nilchk (.t 19)),
 .op (some 21) none (.fad 0 (.t 20)),
 .op (some 22) none (.ld1 (.t 21)),
 .op (some 23) none (.mv (.t 5)),
 .op (some 24) none (.iad 1 (.t 22) (.t 23)),
 .op (some 25) none (.ld1 (.t 24)),
 .op (some 26) none (.mv (.t 1)),
 .op (some 27) none (.ibin .shr (.t 26) (.c (.i .u64 6))),
 .op (some 28) none (.iad 1 (.t 25) (.t 27)),
 .op (some 6) none (.mv (.t 28))])
 (.seq (.dreg [.op (some 29) none (.mv (.t 6)),
 .op (some 30) none (.nilchk (.t 29)),
 .op (some 31) none (.ld1 (.t 30)),
 .op (some 32) none (.mv (.t 1)),
 .op (some 33) none (.ibin .rem (.t 32) (.c (.i .i64 64))),
 .op (some 34) none (.ibin .shl (.c (.i .u64 1)) (.t 33)),
 .op (some 35) none (.ibin .andNot (.t 31) (.t 34)),
 .op (some 36) none (.nilchk (.t 29)),
 .op none none (.st 1 (.t 36) (.t 35))]
 [0, 1, 2, 3, 4, 5, 6, 7, 8] [0, 1, 3, 0, 8, 24, 63, 127, 255])
 (.seq (.seq (.reg [.op (some 37) none (.mv (.t 6)),
 .op (some 38) none (.nilchk (.t 37)),
 .op (some 39) none (.ld1 (.t 38)),
 .op (some 40) none (.ibin .neq (.t 39) (.c (.i .u64 0)))])
 (.cond (.t 40)
 (.exit 0)
 (.skip)))
 (.reg [.op (some 41) none (.mv (.t 1)),
 .op (some 42) none (.ibin .shr (.t 41) (.c (.i .u64 6))),
 .op (some 1) none (.mv (.t 42))]))))))
 (.reg [.op (some 43) none (.ibin .add (.t 16) (.c (.i .i64 1))),
 .op (some 16) none (.mv (.t 43))])))))))
 (.seq (.reg [.op (some 44) none (.mv (.t 0)),
 .op (some 45) none (.nilchk (.t 44)),
 .op (some 46) none (.fad 2 (.t 45)),
 .op (some 47) none (.ld1 (.t 46)),
 .op (some 48) none (.ibin .sub (.t 47) (.c (.i .i64 1))),
 .op (some 49) none (.nilchk (.t 44)),
 .op (some 50) none (.fad 2 (.t 49)),
 .op none none (.st 1 (.t 50) (.t 48))])
 (.seq (.reg [.op (some 4) none (.mv (.c (.b true)))])
 (.ret))))),
 [.t 4]⟩
def k19 : List Nat := [0, 1, 4, 5, 6, 10, 15, 16, 17, 40]
set_option maxRecDepth 100000 in
theorem c19 : compF Go.Proofs.Tryd.prog 2 Go.Proofs.Tryd.f19 = some e19 := by kernel_rfl
/-- (sandglass/sandglassref08.Bits).Next -/
def e20 : IFunc := ⟨25, 2,
 .seq (.reg [.op (some 2) none (.box (.t 0)),
 .op (some 4) none (.mv (.c (.i .i64 0))),
 .op (some 5) none (.mv (.c (.b false)))])
 (.seq (.seq (.reg [.op (some 6) none (.mv (.c (.i .i64 0)))])
 (.block 0
 (.loop
 (.seq (.seq (.reg [.op (some 7) none (.mv (.t 6)),
 .op (some 8) none (.fad 0 (.t 2)),
 .op (some 9) none (.ld1 (.t 8)),
 .op (some 10) none (.len 2 (.t 9)),
 .op (some 11) none (.ibin .lss (.t 7) (.t 10))])
 (.cond (.t 11)
 (.skip)
 (.exit 0)))
 (.seq (.block 1
 (.seq (.reg [.op (some 14) none (.mv (.t 6)),
 .op (some 15) none (.mv (.t 1)),
 .op (some 16) none (.ibin .geq (.t 14) (.t 15)),
 .op (some 17) none (.mv (.t 16)),
 .op (some 18) (some (17, true)) (.fad 0 (.t 2)),
 .op (some 19) (some (17, true)) (.ld1 (.t 18)),
 .op (some 20) (some (17, true)) (.mv (.t 6)),
 .op (some 21) (some (17, true)) (.iad 1 (.t 19) (.t 20)),
 .op (some 22) (some (17, true)) (.ld1 (.t 21)),
 .op (some 23) none (.pick (.t 17) (.t 22) (.c (.b false)))])
 (.cond (.t 23)
 (.seq (.reg [.op (some 24) none (.mv (.t 6)),
 .op (some 4) none (.mv (.t 24)),
 .op (some 5) none (.mv (.c (.b true)))])
 (.ret))
 (.skip))))
 (.reg [.op (some 12) none (.mv (.t 6)),
 .op (some 13) none (.ibin .add (.t 12) (.c (.i .i64 1))),
 .op (some 6) none (.mv (.t 13))]))))))
 (.seq (.reg [.op (some 4) none (.mv (.c (.i .i64 0))),
 .op (some 5) none (.mv (.c (.b false)))])
 (.ret))),
 [.t 4, .t 5]⟩
def k20 : List Nat := [0, 1, 2, 4, 5, 6, 11, 23]
set_option maxRecDepth 100000 in
theorem c20 : compF Go.Proofs.Tryd.prog 2 Go.Proofs.Tryd.f20 = some e20 := by kernel_rfl
/-- (sandglass/sandglassref08.Bits).Round -/
def e21 : IFunc := ⟨20, 2,
 .seq (.reg [.op (some 2) none (.box (.t 0)),
 .op (some 4) none (.mv (.c (.i .i64 0))),
 .op (some 5) none (.mv (.c (.b false)))])
 (.seq (.reg [.op (some 9) none (.ldn 1 (.t 2)),
 .op (some 10) none (.mv (.t 1)),
 .call (some 11) none (.c (.fn (.func 20) [] [])) [(.t 9), (.t 10)],
 .op (some 8) none (.mv (.t 11)),
 .op (some 12) none (.ext (.t 8) 0),
 .op (some 13) none (.ext (.t 8) 1),
 .op (some 6) none (.mv (.t 12)),
 .op (some 7) none (.mv (.t 13))])
 (.seq (.seq (.reg [.op (some 14) none (.mv (.t 7))])
 (.cond (.t 14)
 (.seq (.reg [.op (some 15) none (.mv (.t 6)),
 .op (some 4) none (.mv (.t 15)),
 .op (some 5) none (.mv (.c (.b true)))])
 (.ret))
 (.skip)))
 (.seq (.reg [.op (some 16) none (.ldn 1 (.t 2)),
 .call (some 17) none (.c (.fn (.func 20) [] [])) [(.t 16), (.c (.i .i64 0))],
 .op (some 18) none (.ext (.t 17) 0),
 .op (some 19) none (.ext (.t 17) 1),
 .op (some 4) none (.mv (.t 18)),
 .op (some 5) none (.mv (.t 19))])
 (.ret)))),
 [.t 4, .t 5]⟩
def k21 : List Nat := [0, 1, 2, 4, 5, 6, 7, 14]
set_option maxRecDepth 100000 in
theorem c21 : compF Go.Proofs.Tryd.prog 2 Go.Proofs.Tryd.f21 = some e21 := by kernel_rfl
/-- (sandglass/sandglassref08.Bits).Has -/
def e22 : IFunc := ⟨21, 2,
 .seq (.reg [.op (some 2) none (.box (.t 0)),
 .op (some 4) none (.mv (.c (.b false)))])
 (.seq (.reg [.op (some 5) none (.mv (.t 1)),
 .op (some 6) none (.ibin .geq (.t 5) (.c (.i .i64 0))),
 .op (some 7) none (.mv (.t 6)),
 .op (some 8) (some (7, true)) (.mv (.t 1)),
 .op (some 9) (some (7, true)) (.fad 0 (.t 2)),
 .op (some 10) (some (7, true)) (.ld1 (.t 9)),
 .op (some 11) (some (7, true)) (.len 2 (.t 10)),
 .op (some 12) (some (7, true)) (.ibin .lss (.t 8) (.t 11)),
 .op (some 13) none (.pick (.t 7) (.t 12) (.c (.b false))),
 .op (some 14) none (.mv (.t 13)),
 .op (some 15) (some (14, true)) (.fad 0 (.t 2)),
 .op (some 16) (some (14, true)) (.ld1 (.t 15)),
 .op (some 17) (some (14, true)) (.mv (.t 1)),
 .op (some 18) (some (14, true)) (.iad 1 (.t 16) (.t 17)),
 .op (some 19) (some (14, true)) (.ld1 (.t 18)),
 .op (some 20) none (.pick (.t 14) (.t 19) (.c (.b false))),
 .op (some 4) none (.mv (.t 20))])
 (.ret)),
 [.t 4]⟩
def k22 : List Nat := [0, 1, 2, 4]
set_option maxRecDepth 100000 in
theorem c22 : compF Go.Proofs.Tryd.prog 2 Go.Proofs.Tryd.f22 = some e22 := by kernel_rfl
/-- (sandglass/sandglassref08.Bits).All -/
def e23 : IFunc := ⟨22, 1,
 .seq (.reg [.op (some 1) none (.box (.t 0)),
 .op (some 2) none (.mv (.c .nils))])
 (.seq (.reg [.op (some 3) none (.mv (.c .nils))])
 (.seq (.seq (.reg [.op (some 4) none (.mv (.c (.i .i64 0)))])
 (.block 0
 (.loop
 (.seq (.seq (.reg [.op (some 5) none (.mv (.t 4)),
 .op (some 6) none (.fad 0 (.t 1)),
 .op (some 7) none (.ld1 (.t 6)),
 .op (some 8) none (.len 2 (.t 7)),
 .op (some 9) none (.ibin .lss (.t 5) (.t 8))])
 (.cond (.t 9)
 (.skip)
 (.exit 0)))
 (.seq (.block 1
 (.seq (.reg [.op (some 12) none (.fad 0 (.t 1)),
 .op (some 13) none (.ld1 (.t 12)),
 .op (some 14) none (.mv (.t 4)),
 .op (some 15) none (.iad 1 (.t 13) (.t 14)),
 .op (some 16) none (.ld1 (.t 15))])
 (.cond (.t 16)
 (.reg [.op (some 17) none (.mv (.t 3)),
 .op (some 18) none (.mv (.t 4)),
 .op (some 19) none (.bslice 1 1 [(.i .i64 0)] [(0, 1, (.t 18))]),
 .op (some 20) none (.app 1 8 (.t 17) (.t 19)),
 .op (some 3) none (.mv (.t 20))])
 (.skip))))
 (.reg [.op (some 10) none (.mv (.t 4)),
 .op (some 11) none (.ibin .add (.t 10) (.c (.i .i64 1))),
 .op (some 4) none (.mv (.t 11))]))))))
 (.seq (.reg [.op (some 21) none (.mv (.t 3)),
 .op (some 2) none (.mv (.t 21))])
 (.ret)))),
 [.t 2]⟩
def k23 : List Nat := [0, 1, 2, 3, 4, 9, 16]
set_option maxRecDepth 100000 in
theorem c23 : compF Go.Proofs.Tryd.prog 1 Go.Proofs.Tryd.f23 = some e23 := by kernel_rfl
/-- sandglass/sandglasslaw05.Ints -/
def e24 : IFunc := ⟨26, 2,
 .seq (.reg [.op (some 4) none (.mv (.c (.b false)))])
 (.seq (.seq (.reg [.op (some 6) none (.mv (.t 0)),
 .op (some 7) none (.len 2 (.t 6)),
 .op (some 8) none (.mv (.t 1)),
 .op (some 9) none (.len 2 (.t 8)),
 .op (some 10) none (.ibin .neq (.t 7) (.t 9))])
 (.cond (.t 10)
 (.seq (.reg [.op (some 4) none (.mv (.c (.b false)))])
 (.ret))
 (.skip)))
 (.seq (.seq (.reg [.op (some 11) none (.mv (.t 0)),
 .op (some 12) none (.len 2 (.t 11)),
 .op (some 13) none (.mv (.c (.i .i64 0)))])
 (.block 0
 (.loop
 (.seq (.reg [.op (some 14) none (.ibin .lss (.t 13) (.t 12))])
 (.seq (.cond (.t 14)
 (.skip)
 (.exit 0))
 (.seq (.block 1
 (.seq (.reg [.op (some 15) none (.mv (.t 13)),
 .op (some 5) none (.mv (.t 15))])
 (.seq (.dreg [.op (some 16) none (.mv (.t 0)),
 .op (some 17) none (.mv (.t 5)),
 .op (some 18) none (.iad 1 (.t 16) (.t 17)),
 .op (some 19) none (.ld1 (.t 18)),
 .op (some 20) none (.mv (.t 1)),
 .op (some 21) none (.mv (.t 5)),
 .op (some 22) none (.iad 1 (.t 20) (.t 21)),
 .op (some 23) none (.ld1 (.t 22)),
 .op (some 24) none (.ibin .neq (.t 19) (.t 23))]
 [0, 1, 2, 3, 4, 5, 6, 7, 8] [0, 0, 3, 7, 0, 0, 48, 112, 255])
 (.cond (.t 24)
 (.seq (.reg [.op (some 4) none (.mv (.c (.b false)))])
 (.ret))
 (.skip)))))
 (.reg [.op (some 25) none (.ibin .add (.t 13) (.c (.i .i64 1))),
 .op (some 13) none (.mv (.t 25))])))))))
 (.seq (.reg [.op (some 4) none (.mv (.c (.b true)))])
 (.ret)))),
 [.t 4]⟩
def k24 : List Nat := [0, 1, 4, 5, 10, 12, 13, 14, 24]
set_option maxRecDepth 100000 in
theorem c24 : compF Go.Proofs.Tryd.prog 2 Go.Proofs.Tryd.f24 = some e24 := by kernel_rfl
/-- (*sandglass/bitmap.Bits).All -/
def e25 : IFunc := ⟨24, 1,
 .seq (.reg [.op (some 2) none (.mv (.c .nils))])
 (.seq (.reg [.op (some 3) none (.mv (.c .nils))])
 (.seq (.seq (.reg [.op (some 7) none (.mv (.t 0)),
 .call (some 8) none (.c (.fn (.func 12) [] [])) [(.t 7), (.c (.i .i64 0))],
 .op (some 6) none (.mv (.t 8)),
 .op (some 9) none (.ext (.t 6) 0),
 .op (some 10) none (.ext (.t 6) 1),
 .op (some 4) none (.mv (.t 9)),
 .op (some 5) none (.mv (.t 10))])
 (.block 0
 (.loop
 (.seq (.seq (.reg [.op (some 11) none (.mv (.t 5))])
 (.cond (.t 11)
 (.skip)
 (.exit 0)))
 (.seq (.block 1
 (.reg [.op (some 19) none (.mv (.t 3)),
 .op (some 20) none (.mv (.t 4)),
 .op (some 21) none (.bslice 1 1 [(.i .i64 0)] [(0, 1, (.t 20))]),
 .op (some 22) none (.app 1 8 (.t 19) (.t 21)),
 .op (some 3) none (.mv (.t 22))]))
 (.reg [.op (some 13) none (.mv (.t 0)),
 .op (some 14) none (.mv (.t 4)),
 .op (some 15) none (.ibin .add (.t 14) (.c (.i .i64 1))),
 .call (some 16) none (.c (.fn (.func 12) [] [])) [(.t 13), (.t 15)],
 .op (some 12) none (.mv (.t 16)),
 .op (some 17) none (.ext (.t 12) 0),
 .op (some 18) none (.ext (.t 12) 1),
 .op (some 4) none (.mv (.t 17)),
 .op (some 5) none (.mv (.t 18))]))))))
 (.seq (.reg [.op (some 23) none (.mv (.t 3)),
 .op (some 2) none (.mv (.t 23))])
 (.ret)))),
 [.t 2]⟩
def k25 : List Nat := [0, 2, 3, 4, 5, 11]
set_option maxRecDepth 100000 in
theorem c25 : compF Go.Proofs.Tryd.prog 1 Go.Proofs.Tryd.f25 = some e25 := by kernel_rfl
/-- (*sandglass/bitmap.Bits).place -/
def e26 : IFunc := ⟨19, 2,
 .seq (.reg [.op (some 4) none (.mv (.c (.b false)))])
 (.seq (.reg [.op (some 5) none (.mv (.t 0)),
 .op (some 6) none (.eqn 2 true (.t 5) (.c .nilp)),
 .op (some 7) none (.mv (.t 6)),
 .op (some 8) (some (7, true)) (.mv (.t 1)),
 .op (some 9) (some (7, true)) (.ibin .geq (.t 8) (.c (.i .i64 0))),
 .op (some 10) none (.pick (.t 7) (.t 9) (.c (.b false))),
 .op (some 11) none (.mv (.t 10)),
 .op (some 12) (some (11, true)) (.mv (.t 1)),
 .op (some 13) (some (11, true)) (.mv (.t 0)),
 .op (some 14) (some (11, true)) (.nilchk (.t 13)),
 .op (some 15) (some (11, true)) (.fad 1 (.t 14)),
 .op (some 16) (some (11, true)) (.ld1 (.t 15)),
 .op (some 17) (some (11, true)) (.ibin .lss (.t 12) (.t 16)),
 .op (some 18) none (.pick (.t 11) (.t 17) (.c (.b false))),
 .op (some 4) none (.mv (.t 18))])
 (.ret)),
 [.t 4]⟩
def k26 : List Nat := [0, 1, 4]
set_option maxRecDepth 100000 in
theorem c26 : compF Go.Proofs.Tryd.prog 2 Go.Proofs.Tryd.f26 = some e26 := by kernel_rfl
/-- (*sandglass/bitmap.Bits).down -/
def e27 : IFunc := ⟨31, 3,
 .seq (.reg [.op (some 6) none (.mv (.c (.i .i64 0)))])
 (.seq (.seq (.reg [.op (some 8) none (.mv (.t 1)),
 .op (some 9) none (.mv (.c (.i .i64 0)))])
 (.block 0
 (.loop
 (.seq (.reg [.op (some 10) none (.ibin .lss (.t 9) (.t 8))])
 (.seq (.cond (.t 10)
 (.skip)
 (.exit 0))
 (.seq (.block 1
 (.seq (.reg [.op (some 11) none (.mv (.t 9)),
 .op (some 7) none (.mv (.t 11))])
 (.reg [.op (some 12) none (.mv (.t 2)),
 .op (some 13) none (.ibin .shl (.t 12) (.c (.i .u64 6))),
 .op (some 14) none (.mv (.t 0)),
 .op (some 15) none (.nilchk (.t 14)),
 .op (some 16) none (.fad 0 (.t 15)),
 .op (some 17) none (.ld1 (.t 16)),
 .op (some 18) none (.mv (.t 1)),
 .op (some 19) none (.ibin .sub (.t 18) (.c (.i .i64 1))),
 .op (some 20) none (.mv (.t 7)),
 .op (some 21) none (.ibin .sub (.t 19) (.t 20)),
 .op (some 22) none (.iad 1 (.t 17) (.t 21)),
 .op (some 23) none (.ld1 (.t 22)),
 .op (some 24) none (.mv (.t 2)),
 .op (some 25) none (.iad 1 (.t 23) (.t 24)),
 .op (some 26) none (.ld1 (.t 25)),
 .call (some 27) none (.c (.fn (.func 28) [] [])) [(.t 26)],
 .op (some 28) none (.ibin .add (.t 13) (.t 27)),
 .op (some 2) none (.mv (.t 28))])))
 (.reg [.op (some 29) none (.ibin .add (.t 9) (.c (.i .i64 1))),
 .op (some 9) none (.mv (.t 29))])))))))
 (.seq (.reg [.op (some 30) none (.mv (.t 2)),
 .op (some 6) none (.mv (.t 30))])
 (.ret))),
 [.t 6]⟩
def k27 : List Nat := [0, 1, 2, 6, 7, 8, 9, 10]
set_option maxRecDepth 100000 in
theorem c27 : compF Go.Proofs.Tryd.prog 3 Go.Proofs.Tryd.f27 = some e27 := by kernel_rfl
end Go.Proofs.YtphlceiachdneaaDoor.IR
