/- One text of a proof that a law answers true for every input. No condition. -/
import Derived.Test.YtmdilnelogechaaDoorProg
import Derived.Test.YtmdilnelogechaaDoorEvE
import Derived.KernelRfl
set_option linter.unusedVariables false
set_option linter.unusedSimpArgs false
set_option linter.constructorNameAsVariable false
namespace Go.Proofs.YtmdilnelogechaaDoor.IR
open Go Go.Proofs.YtmdilnelogechaaDoor.Ev
/-- sandglass/sandglasslaw09.WheelNone -/
def e8 : IFunc := ⟨63, 2,
 .seq (.reg [.op (some 4) none (.mv (.c (.b false)))])
 (.seq (.seq (.reg [.op (some 11) none (.build [.nils, .nilp, (.i .u64 0), (.i .u64 0), .nils, (.i .i64 0), (.i .i64 0), (.i .i64 0)] []),
 .op (some 12) none (.box (.t 11)),
 .op (some 13) none (.bslice 1 2 [.nilp, .nilp] [(0, 1, (.c .nilp)), (1, 1, (.t 12))]),
 .op (some 14) none (.len 2 (.t 13)),
 .op (some 15) none (.mv (.c (.i .i64 0)))])
 (.block 0
 (.loop
 (.seq (.reg [.op (some 16) none (.ibin .lss (.t 15) (.t 14))])
 (.seq (.cond (.t 16)
 (.skip)
 (.exit 0))
 (.seq (.block 1
 (.seq (.reg [.op (some 17) none (.iad 1 (.t 13) (.t 15)),
 .op (some 18) none (.ld1 (.t 17)),
 .op (some 6) none (.mv (.t 18))])
 (.seq (.reg [.op (some 20) none (.mv (.t 6)),
 .call (some 21) none (.c (.fn (.func 12) [] [])) [(.t 20)],
 .op (some 19) none (.mv (.t 21)),
 .op (some 22) none (.ext (.t 19) 0),
 .op (some 23) none (.ext (.t 19) 1),
 .op (some 7) none (.mv (.t 22)),
 .op (some 8) none (.mv (.t 23))])
 (.seq (.reg [.op (some 25) none (.mv (.t 6)),
 .call (some 26) none (.c (.fn (.func 16) [] [])) [(.t 25)],
 .op (some 24) none (.mv (.t 26)),
 .op (some 27) none (.ext (.t 24) 0),
 .op (some 28) none (.ext (.t 24) 1),
 .op (some 9) none (.mv (.t 27)),
 .op (some 10) none (.mv (.t 28))])
 (.seq (.reg [.op (some 29) none (.mv (.t 6)),
 .op (some 30) none (.mv (.t 0)),
 .op (some 31) none (.mv (.t 1)),
 .call (some 32) none (.c (.fn (.func 10) [] [])) [(.t 29), (.t 30), (.t 31)],
 .op (some 33) none (.ibin .neq (.t 32) (.c (.i .i64 1))),
 .op (some 34) none (.mv (.t 33)),
 .op (some 35) (some (34, false)) (.mv (.t 8)),
 .op (some 36) none (.pick (.t 34) (.c (.b true)) (.t 35)),
 .op (some 37) none (.mv (.t 36)),
 .op (some 38) (some (37, false)) (.mv (.t 10)),
 .op (some 39) none (.pick (.t 37) (.c (.b true)) (.t 38)),
 .op (some 40) none (.mv (.t 39)),
 .op (some 41) (some (40, false)) (.mv (.t 6)),
 .op (some 42) (some (40, false)) (.mv (.t 1)),
 .call (some 43) (some (40, false)) (.c (.fn (.func 11) [] [])) [(.t 41), (.t 42)],
 .op (some 44) (some (40, false)) (.mv (.t 6)),
 .call (some 45) (some (40, false)) (.c (.fn (.func 14) [] [])) [(.t 44)],
 .op (some 46) (some (40, false)) (.ibin .add (.t 43) (.t 45)),
 .op (some 47) (some (40, false)) (.mv (.t 6)),
 .call (some 48) (some (40, false)) (.c (.fn (.func 17) [] [])) [(.t 47)],
 .op (some 49) (some (40, false)) (.ibin .add (.t 46) (.t 48)),
 .op (some 50) (some (40, false)) (.mv (.t 6)),
 .call (some 51) (some (40, false)) (.c (.fn (.func 27) [] [])) [(.t 50)],
 .op (some 52) (some (40, false)) (.len 2 (.t 51)),
 .op (some 53) (some (40, false)) (.ibin .add (.t 49) (.t 52)),
 .op (some 54) (some (40, false)) (.ibin .neq (.t 53) (.c (.i .i64 0))),
 .op (some 55) none (.pick (.t 40) (.c (.b true)) (.t 54)),
 .op (some 56) none (.mv (.t 55)),
 .op (some 57) (some (56, false)) (.mv (.t 6)),
 .call (some 58) (some (56, false)) (.c (.fn (.func 19) [] [])) [(.t 57)],
 .op (some 59) (some (56, false)) (.ibin .neq (.t 58) (.c (.i .u64 0))),
 .op (some 60) none (.pick (.t 56) (.c (.b true)) (.t 59))])
 (.cond (.t 60)
 (.seq (.reg [.op (some 4) none (.mv (.c (.b false)))])
 (.ret))
 (.skip)))))))
 (.reg [.op (some 61) none (.ibin .add (.t 15) (.c (.i .i64 1))),
 .op (some 15) none (.mv (.t 61))])))))))
 (.seq (.reg [.call (some 62) none (.c (.fn (.func 15) [] [])) [],
 .op (some 4) none (.mv (.t 62))])
 (.ret))),
 [.t 4]⟩
def k8 : List Nat := [0, 1, 4, 6, 8, 10, 13, 14, 15, 16, 60]
set_option maxRecDepth 100000 in
theorem c8 : compF Go.Proofs.Tryd.prog 2 Go.Proofs.Tryd.f8 = some e8 := by kernel_rfl
/-- (*sandglass/wheel.Wheel).Put -/
def e10 : IFunc := ⟨54, 3,
 .seq (.reg [.op (some 6) none (.mv (.c (.i .i64 0)))])
 (.seq (.block 0
 (.seq (.reg [.op (some 8) none (.mv (.t 0)),
 .call (some 9) none (.c (.fn (.func 29) [] [])) [(.t 8)],
 .op (some 7) none (.mv (.t 9))])
 (.cond (.t 7)
 (.seq (.reg [.op (some 6) none (.mv (.c (.i .i64 1)))])
 (.ret))
 (.seq (.dreg [.op (some 11) none (.mv (.t 0)),
 .op (some 12) none (.nilchk (.t 11)),
 .op (some 13) none (.fad 6 (.t 12)),
 .op (some 14) none (.ld1 (.t 13)),
 .op (some 15) none (.mv (.t 0)),
 .op (some 16) none (.nilchk (.t 15)),
 .op (some 17) none (.fad 4 (.t 16)),
 .op (some 18) none (.ld1 (.t 17)),
 .op (some 19) none (.len 2 (.t 18)),
 .op (some 20) none (.ibin .add (.t 14) (.t 19)),
 .op (some 21) none (.mv (.t 0)),
 .op (some 22) none (.nilchk (.t 21)),
 .op (some 23) none (.fad 5 (.t 22)),
 .op (some 24) none (.ld1 (.t 23)),
 .op (some 25) none (.ibin .geq (.t 20) (.t 24)),
 .op (some 10) none (.mv (.t 25))]
 [0, 1, 2, 3, 4, 5, 6, 7, 8, 9, 10, 11, 12, 13, 14, 15] [0, 1, 3, 7, 0, 16, 48, 112, 240, 511, 0, 1024, 3072, 7168, 16383, 32767])
 (.cond (.t 10)
 (.seq (.reg [.op (some 6) none (.mv (.c (.i .i64 4)))])
 (.ret))
 (.skip))))))
 (.seq (.dreg [.op (some 26) none (.mv (.t 0)),
 .op (some 27) none (.mv (.t 1)),
 .op (some 28) none (.mv (.t 2)),
 .op (some 29) none (.mv (.t 0)),
 .op (some 30) none (.nilchk (.t 29)),
 .op (some 31) none (.fad 2 (.t 30)),
 .op (some 32) none (.ld1 (.t 31)),
 .call (some 33) none (.c (.fn (.func 13) [] [])) [(.t 28), (.t 32)],
 .op (some 34) none (.mv (.t 0)),
 .op (some 35) none (.nilchk (.t 34)),
 .op (some 36) none (.fad 7 (.t 35)),
 .op (some 37) none (.ld1 (.t 36)),
 .op (some 38) none (.build [(.i .u64 0), (.i .u64 0), (.i .i64 0)] [(0, 1, (.t 27)), (1, 1, (.t 33)), (2, 1, (.t 37))]),
 .call (some 39) none (.c (.fn (.func 30) [] [])) [(.t 26), (.t 38)]]
 [0, 1, 2, 3, 4, 5, 6, 8, 9, 10, 11, 7, 12, 13] [0, 0, 0, 0, 8, 24, 56, 124, 0, 256, 768, 1792, 4094, 8191])
 (.seq (.reg [.op (some 40) none (.mv (.t 0)),
 .op (some 41) none (.nilchk (.t 40)),
 .op (some 42) none (.fad 7 (.t 41)),
 .op (some 43) none (.ld1 (.t 42)),
 .op (some 44) none (.ibin .add (.t 43) (.c (.i .i64 1))),
 .op (some 45) none (.nilchk (.t 40)),
 .op (some 46) none (.fad 7 (.t 45)),
 .op none none (.st 1 (.t 46) (.t 44))])
 (.seq (.reg [.op (some 47) none (.mv (.t 0)),
 .op (some 48) none (.nilchk (.t 47)),
 .op (some 49) none (.fad 6 (.t 48)),
 .op (some 50) none (.ld1 (.t 49)),
 .op (some 51) none (.ibin .add (.t 50) (.c (.i .i64 1))),
 .op (some 52) none (.nilchk (.t 47)),
 .op (some 53) none (.fad 6 (.t 52)),
 .op none none (.st 1 (.t 53) (.t 51))])
 (.seq (.reg [.op (some 6) none (.mv (.c (.i .i64 0)))])
 (.ret)))))),
 [.t 6]⟩
def k10 : List Nat := [0, 1, 2, 6, 7, 10]
set_option maxRecDepth 100000 in
theorem c10 : compF Go.Proofs.Tryd.prog 3 Go.Proofs.Tryd.f10 = some e10 := by kernel_rfl
/-- (*sandglass/wheel.Wheel).Advance -/
def e11 : IFunc := ⟨68, 2,
 .seq (.reg [.op (some 4) none (.mv (.c (.i .i64 0)))])
 (.seq (.seq (.reg [.op (some 10) none (.mv (.t 0)),
 .call (some 11) none (.c (.fn (.func 29) [] [])) [(.t 10)]])
 (.cond (.t 11)
 (.seq (.reg [.op (some 4) none (.mv (.c (.i .i64 0)))])
 (.ret))
 (.skip)))
 (.seq (.dreg [.op (some 12) none (.mv (.t 0)),
 .op (some 13) none (.nilchk (.t 12)),
 .op (some 14) none (.fad 3 (.t 13)),
 .op (some 15) none (.ld1 (.t 14)),
 .op (some 16) none (.mv (.t 1)),
 .op (some 17) none (.mv (.t 0)),
 .op (some 18) none (.nilchk (.t 17)),
 .op (some 19) none (.fad 2 (.t 18)),
 .op (some 20) none (.ld1 (.t 19)),
 .op (some 21) none (.ibin .quo (.t 16) (.t 20)),
 .op (some 22) none (.mx false (.t 15) [(.t 21)]),
 .op (some 5) none (.mv (.t 22))]
 [0, 1, 2, 3, 4, 5, 6, 7, 8, 9, 10, 11] [0, 1, 3, 7, 0, 0, 32, 96, 224, 496, 1023, 2047])
 (.seq (.reg [.op (some 23) none (.mv (.t 0)),
 .op (some 24) none (.mv (.t 5)),
 .call (some 25) none (.c (.fn (.func 31) [] [])) [(.t 23), (.t 24)],
 .op (some 6) none (.mv (.t 25))])
 (.seq (.reg [.op (some 26) none (.mv (.t 0)),
 .op (some 27) none (.mv (.t 5)),
 .op (some 28) none (.nilchk (.t 26)),
 .op (some 29) none (.fad 3 (.t 28)),
 .op none none (.st 1 (.t 29) (.t 27))])
 (.seq (.reg [.op (some 30) none (.mv (.t 6)),
 .call (some 31) none (.c (.fn (.func 32) [] [])) [(.t 30), (.c (.fn (.func 33) [] []))]])
 (.seq (.reg [.op (some 7) none (.mv (.c (.i .i64 0)))])
 (.seq (.seq (.reg [.op (some 32) none (.mv (.t 6)),
 .op (some 33) none (.len 2 (.t 32)),
 .op (some 34) none (.mv (.c (.i .i64 0)))])
 (.block 0
 (.loop
 (.seq (.reg [.op (some 35) none (.ibin .lss (.t 34) (.t 33))])
 (.seq (.cond (.t 35)
 (.skip)
 (.exit 0))
 (.seq (.block 1
 (.seq (.reg [.op (some 36) none (.iad 3 (.t 32) (.t 34)),
 .op (some 37) none (.ldn 3 (.t 36)),
 .op (some 9) none (.box (.c (.agg [(.i .u64 0), (.i .u64 0), (.i .i64 0)]))),
 .op none none (.st 3 (.t 9) (.t 37))])
 (.seq (.seq (.reg [.op (some 38) none (.fad 1 (.t 9)),
 .op (some 39) none (.ld1 (.t 38)),
 .op (some 40) none (.mv (.t 5)),
 .op (some 41) none (.ibin .gtr (.t 39) (.t 40))])
 (.cond (.t 41)
 (.seq (.reg [.op (some 42) none (.mv (.t 0)),
 .op (some 43) none (.ldn 3 (.t 9)),
 .call (some 44) none (.c (.fn (.func 30) [] [])) [(.t 42), (.t 43)]])
 (.exit 1))
 (.skip)))
 (.seq (.dreg [.op (some 45) none (.mv (.t 0)),
 .op (some 46) none (.mv (.t 0)),
 .op (some 47) none (.nilchk (.t 46)),
 .op (some 48) none (.fad 4 (.t 47)),
 .op (some 49) none (.ld1 (.t 48)),
 .op (some 50) none (.fad 0 (.t 9)),
 .op (some 51) none (.ld1 (.t 50)),
 .op (some 52) none (.bslice 1 1 [(.i .u64 0)] [(0, 1, (.t 51))]),
 .op (some 53) none (.app 1 8 (.t 49) (.t 52)),
 .op (some 54) none (.nilchk (.t 45)),
 .op (some 55) none (.fad 4 (.t 54)),
 .op none none (.st 1 (.t 55) (.t 53))]
 [0, 1, 2, 3, 4, 5, 6, 7, 8, 9, 10, 11] [0, 0, 2, 6, 14, 0, 32, 96, 254, 511, 1023, 2047])
 (.reg [.op (some 56) none (.mv (.t 7)),
 .op (some 57) none (.ibin .add (.t 56) (.c (.i .i64 1))),
 .op (some 7) none (.mv (.t 57))])))))
 (.reg [.op (some 58) none (.ibin .add (.t 34) (.c (.i .i64 1))),
 .op (some 34) none (.mv (.t 58))])))))))
 (.seq (.reg [.op (some 59) none (.mv (.t 0)),
 .op (some 60) none (.nilchk (.t 59)),
 .op (some 61) none (.fad 6 (.t 60)),
 .op (some 62) none (.ld1 (.t 61)),
 .op (some 63) none (.mv (.t 7)),
 .op (some 64) none (.ibin .sub (.t 62) (.t 63)),
 .op (some 65) none (.nilchk (.t 59)),
 .op (some 66) none (.fad 6 (.t 65)),
 .op none none (.st 1 (.t 66) (.t 64))])
 (.seq (.reg [.op (some 67) none (.mv (.t 7)),
 .op (some 4) none (.mv (.t 67))])
 (.ret)))))))))),
 [.t 4]⟩
def k11 : List Nat := [0, 1, 4, 5, 6, 7, 9, 11, 32, 33, 34, 35, 41]
set_option maxRecDepth 100000 in
theorem c11 : compF Go.Proofs.Tryd.prog 2 Go.Proofs.Tryd.f11 = some e11 := by kernel_rfl
/-- (*sandglass/wheel.Wheel).Take -/
def e12 : IFunc := ⟨30, 1,
 .seq (.reg [.op (some 2) none (.mv (.c (.i .u64 0))),
 .op (some 3) none (.mv (.c (.b false)))])
 (.seq (.seq (.reg [.op (some 5) none (.mv (.t 0)),
 .call (some 6) none (.c (.fn (.func 29) [] [])) [(.t 5)],
 .op (some 7) none (.mv (.t 6)),
 .op (some 8) (some (7, false)) (.mv (.t 0)),
 .op (some 9) (some (7, false)) (.nilchk (.t 8)),
 .op (some 10) (some (7, false)) (.fad 4 (.t 9)),
 .op (some 11) (some (7, false)) (.ld1 (.t 10)),
 .op (some 12) (some (7, false)) (.len 2 (.t 11)),
 .op (some 13) (some (7, false)) (.ibin .eql (.t 12) (.c (.i .i64 0))),
 .op (some 14) none (.pick (.t 7) (.c (.b true)) (.t 13))])
 (.cond (.t 14)
 (.seq (.reg [.op (some 2) none (.mv (.c (.i .u64 0))),
 .op (some 3) none (.mv (.c (.b false)))])
 (.ret))
 (.skip)))
 (.seq (.reg [.op (some 15) none (.mv (.t 0)),
 .op (some 16) none (.nilchk (.t 15)),
 .op (some 17) none (.fad 4 (.t 16)),
 .op (some 18) none (.ld1 (.t 17)),
 .op (some 19) none (.iad 1 (.t 18) (.c (.i .i64 0))),
 .op (some 20) none (.ld1 (.t 19)),
 .op (some 4) none (.mv (.t 20))])
 (.seq (.reg [.op (some 21) none (.mv (.t 0)),
 .op (some 22) none (.mv (.t 0)),
 .op (some 23) none (.nilchk (.t 22)),
 .op (some 24) none (.fad 4 (.t 23)),
 .op (some 25) none (.ld1 (.t 24)),
 .op (some 26) none (.slice 1 (.t 25) (some (.c (.i .i64 1))) none),
 .op (some 27) none (.nilchk (.t 21)),
 .op (some 28) none (.fad 4 (.t 27)),
 .op none none (.st 1 (.t 28) (.t 26))])
 (.seq (.reg [.op (some 29) none (.mv (.t 4)),
 .op (some 2) none (.mv (.t 29)),
 .op (some 3) none (.mv (.c (.b true)))])
 (.ret))))),
 [.t 2, .t 3]⟩
def k12 : List Nat := [0, 2, 3, 4, 14]
set_option maxRecDepth 100000 in
theorem c12 : compF Go.Proofs.Tryd.prog 1 Go.Proofs.Tryd.f12 = some e12 := by kernel_rfl
/-- sandglass/span.Slot -/
def e13 : IFunc := ⟨9, 2,
 .seq (.reg [.op (some 4) none (.mv (.c (.i .u64 0)))])
 (.seq (.reg [.op (some 5) none (.mv (.t 0)),
 .op (some 6) none (.mv (.t 1)),
 .op (some 7) none (.mx false (.t 6) [(.c (.i .u64 1))]),
 .call (some 8) none (.c (.fn (.func 37) [] [])) [(.t 5), (.c (.i .u64 1)), (.t 7)],
 .op (some 4) none (.mv (.t 8))])
 (.ret)),
 [.t 4]⟩
def k13 : List Nat := [0, 1, 4]
set_option maxRecDepth 100000 in
theorem c13 : compF Go.Proofs.Tryd.prog 2 Go.Proofs.Tryd.f13 = some e13 := by kernel_rfl
/-- (*sandglass/wheel.Wheel).Due -/
def e14 : IFunc := ⟨10, 1,
 .seq (.reg [.op (some 2) none (.mv (.c (.i .i64 0)))])
 (.seq (.seq (.reg [.op (some 3) none (.mv (.t 0)),
 .call (some 4) none (.c (.fn (.func 29) [] [])) [(.t 3)]])
 (.cond (.t 4)
 (.seq (.reg [.op (some 2) none (.mv (.c (.i .i64 0)))])
 (.ret))
 (.skip)))
 (.seq (.reg [.op (some 5) none (.mv (.t 0)),
 .op (some 6) none (.nilchk (.t 5)),
 .op (some 7) none (.fad 4 (.t 6)),
 .op (some 8) none (.ld1 (.t 7)),
 .op (some 9) none (.len 2 (.t 8)),
 .op (some 2) none (.mv (.t 9))])
 (.ret))),
 [.t 2]⟩
def k14 : List Nat := [0, 2, 4]
set_option maxRecDepth 100000 in
theorem c14 : compF Go.Proofs.Tryd.prog 1 Go.Proofs.Tryd.f14 = some e14 := by kernel_rfl
/-- sandglass/sandglasslaw09.awake -/
def e15 : IFunc := ⟨116, 0,
 .seq (.reg [.op (some 0) none (.mv (.c (.b false)))])
 (.seq (.reg [.call (some 19) none (.c (.fn (.func 20) [] [])) [(.c (.i .i64 4)), (.c (.i .u64 10)), (.c (.i .i64 9))],
 .op (some 18) none (.mv (.t 19)),
 .op (some 20) none (.ext (.t 18) 0),
 .op (some 21) none (.ext (.t 18) 1),
 .op (some 1) none (.mv (.t 20)),
 .op (some 2) none (.mv (.t 21))])
 (.seq (.reg [.op (some 22) none (.mv (.t 1)),
 .call (some 23) none (.c (.fn (.func 10) [] [])) [(.t 22), (.c (.i .u64 7)), (.c (.i .u64 25))]])
 (.seq (.reg [.op (some 24) none (.mv (.t 1)),
 .call (some 25) none (.c (.fn (.func 10) [] [])) [(.t 24), (.c (.i .u64 8)), (.c (.i .u64 12))]])
 (.seq (.reg [.op (some 26) none (.mv (.t 1)),
 .call (some 27) none (.c (.fn (.func 10) [] [])) [(.t 26), (.c (.i .u64 9)), (.c (.i .u64 100))]])
 (.seq (.reg [.op (some 28) none (.mv (.t 1)),
 .call (some 29) none (.c (.fn (.func 27) [] [])) [(.t 28)],
 .op (some 3) none (.mv (.t 29))])
 (.seq (.reg [.op (some 31) none (.mv (.t 1)),
 .call (some 32) none (.c (.fn (.func 16) [] [])) [(.t 31)],
 .op (some 30) none (.mv (.t 32)),
 .op (some 33) none (.ext (.t 30) 0),
 .op (some 34) none (.ext (.t 30) 1),
 .op (some 4) none (.mv (.t 33)),
 .op (some 5) none (.mv (.t 34))])
 (.seq (.reg [.op (some 35) none (.mv (.t 1)),
 .call (some 36) none (.c (.fn (.func 11) [] [])) [(.t 35), (.c (.i .u64 19))],
 .op (some 37) none (.mv (.t 1)),
 .call (some 38) none (.c (.fn (.func 11) [] [])) [(.t 37), (.c (.i .u64 29))],
 .op (some 6) none (.mv (.t 36)),
 .op (some 7) none (.mv (.t 38))])
 (.seq (.reg [.op (some 40) none (.mv (.t 1)),
 .call (some 41) none (.c (.fn (.func 12) [] [])) [(.t 40)],
 .op (some 39) none (.mv (.t 41)),
 .op (some 42) none (.ext (.t 39) 0),
 .op (some 43) none (.ext (.t 39) 1),
 .op (some 8) none (.mv (.t 42)),
 .op (some 9) none (.mv (.t 43))])
 (.seq (.reg [.op (some 44) none (.mv (.t 1)),
 .call (some 45) none (.c (.fn (.func 19) [] [])) [(.t 44)],
 .op (some 46) none (.mv (.t 1)),
 .call (some 47) none (.c (.fn (.func 27) [] [])) [(.t 46)],
 .op (some 10) none (.mv (.t 45)),
 .op (some 11) none (.mv (.t 47))])
 (.seq (.reg [.op (some 48) none (.mv (.t 1)),
 .call (some 49) none (.c (.fn (.func 11) [] [])) [(.t 48), (.c (.i .u64 35))],
 .op (some 12) none (.mv (.t 49))])
 (.seq (.reg [.op (some 51) none (.mv (.t 1)),
 .call (some 52) none (.c (.fn (.func 12) [] [])) [(.t 51)],
 .op (some 50) none (.mv (.t 52)),
 .op (some 53) none (.ext (.t 50) 0),
 .op (some 54) none (.ext (.t 50) 1),
 .op (some 13) none (.mv (.t 53)),
 .op (some 14) none (.mv (.t 54))])
 (.seq (.reg [.op (some 55) none (.mv (.t 1)),
 .call (some 56) none (.c (.fn (.func 27) [] [])) [(.t 55)],
 .op (some 15) none (.mv (.t 56))])
 (.seq (.reg [.call (some 58) none (.c (.fn (.func 20) [] [])) [(.c (.i .i64 1)), (.c (.i .u64 10)), (.c (.i .i64 9))],
 .op (some 57) none (.mv (.t 58)),
 .op (some 59) none (.ext (.t 57) 0),
 .op (some 60) none (.ext (.t 57) 1),
 .op (some 16) none (.mv (.t 59)),
 .op (some 17) none (.mv (.t 60))])
 (.seq (.reg [.op (some 61) none (.mv (.t 2)),
 .op (some 62) none (.ibin .eql (.t 61) (.c (.i .i64 0))),
 .op (some 63) none (.mv (.t 62)),
 .op (some 64) (some (63, true)) (.mv (.t 17)),
 .op (some 65) (some (63, true)) (.ibin .eql (.t 64) (.c (.i .i64 2))),
 .op (some 66) none (.pick (.t 63) (.t 65) (.c (.b false))),
 .op (some 67) none (.mv (.t 66)),
 .op (some 68) (some (67, true)) (.mv (.t 3)),
 .op (some 69) (some (67, true)) (.bslice 1 4 [(.i .i64 0), (.i .i64 0), (.i .i64 0), (.i .i64 0)] [(0, 1, (.c (.i .i64 0))), (1, 1, (.c (.i .i64 0))), (2, 1, (.c (.i .i64 1))), (3, 1, (.c (.i .i64 2)))]),
 .call (some 70) (some (67, true)) (.c (.fn (.func 26) [] [])) [(.t 68), (.t 69)],
 .op (some 71) none (.pick (.t 67) (.t 70) (.c (.b false))),
 .op (some 72) none (.mv (.t 71)),
 .op (some 73) (some (72, true)) (.mv (.t 4)),
 .op (some 74) (some (72, true)) (.ibin .eql (.t 73) (.c (.i .u64 20))),
 .op (some 75) none (.pick (.t 72) (.t 74) (.c (.b false))),
 .op (some 76) none (.mv (.t 75)),
 .op (some 77) (some (76, true)) (.mv (.t 5)),
 .op (some 78) none (.pick (.t 76) (.t 77) (.c (.b false))),
 .op (some 79) none (.mv (.t 78)),
 .op (some 80) (some (79, true)) (.mv (.t 6)),
 .op (some 81) (some (79, true)) (.ibin .eql (.t 80) (.c (.i .i64 0))),
 .op (some 82) none (.pick (.t 79) (.t 81) (.c (.b false))),
 .op (some 83) none (.mv (.t 82)),
 .op (some 84) (some (83, true)) (.mv (.t 7)),
 .op (some 85) (some (83, true)) (.ibin .eql (.t 84) (.c (.i .i64 1))),
 .op (some 86) none (.pick (.t 83) (.t 85) (.c (.b false))),
 .op (some 87) none (.mv (.t 86)),
 .op (some 88) (some (87, true)) (.mv (.t 8)),
 .op (some 89) (some (87, true)) (.ibin .eql (.t 88) (.c (.i .u64 8))),
 .op (some 90) none (.pick (.t 87) (.t 89) (.c (.b false))),
 .op (some 91) none (.mv (.t 90)),
 .op (some 92) (some (91, true)) (.mv (.t 9)),
 .op (some 93) none (.pick (.t 91) (.t 92) (.c (.b false))),
 .op (some 94) none (.mv (.t 93)),
 .op (some 95) (some (94, true)) (.mv (.t 10)),
 .op (some 96) (some (94, true)) (.ibin .eql (.t 95) (.c (.i .u64 2))),
 .op (some 97) none (.pick (.t 94) (.t 96) (.c (.b false))),
 .op (some 98) none (.mv (.t 97)),
 .op (some 99) (some (98, true)) (.mv (.t 11)),
 .op (some 100) (some (98, true)) (.bslice 1 4 [(.i .i64 0), (.i .i64 0), (.i .i64 0), (.i .i64 0)] [(0, 1, (.c (.i .i64 0))), (1, 1, (.c (.i .i64 2))), (2, 1, (.c (.i .i64 0))), (3, 1, (.c (.i .i64 0)))]),
 .call (some 101) (some (98, true)) (.c (.fn (.func 26) [] [])) [(.t 99), (.t 100)],
 .op (some 102) none (.pick (.t 98) (.t 101) (.c (.b false))),
 .op (some 103) none (.mv (.t 102)),
 .op (some 104) (some (103, true)) (.mv (.t 12)),
 .op (some 105) (some (103, true)) (.ibin .eql (.t 104) (.c (.i .i64 1))),
 .op (some 106) none (.pick (.t 103) (.t 105) (.c (.b false))),
 .op (some 107) none (.mv (.t 106)),
 .op (some 108) (some (107, true)) (.mv (.t 13)),
 .op (some 109) (some (107, true)) (.ibin .eql (.t 108) (.c (.i .u64 7))),
 .op (some 110) none (.pick (.t 107) (.t 109) (.c (.b false))),
 .op (some 111) none (.mv (.t 110)),
 .op (some 112) (some (111, true)) (.mv (.t 15)),
 .op (some 113) (some (111, true)) (.bslice 1 4 [(.i .i64 0), (.i .i64 0), (.i .i64 0), (.i .i64 0)] [(0, 1, (.c (.i .i64 0))), (1, 1, (.c (.i .i64 0))), (2, 1, (.c (.i .i64 0))), (3, 1, (.c (.i .i64 1)))]),
 .call (some 114) (some (111, true)) (.c (.fn (.func 26) [] [])) [(.t 112), (.t 113)],
 .op (some 115) none (.pick (.t 111) (.t 114) (.c (.b false))),
 .op (some 0) none (.mv (.t 115))])
 (.ret))))))))))))))),
 [.t 0]⟩
def k15 : List Nat := [0, 1, 2, 3, 4, 5, 6, 7, 8, 9, 10, 11, 12, 13, 15, 17]
set_option maxRecDepth 100000 in
theorem c15 : compF Go.Proofs.Tryd.prog 0 Go.Proofs.Tryd.f15 = some e15 := by kernel_rfl
/-- (*sandglass/wheel.Wheel).Next -/
def e16 : IFunc := ⟨59, 1,
 .seq (.reg [.op (some 2) none (.mv (.c (.i .u64 0))),
 .op (some 3) none (.mv (.c (.b false)))])
 (.seq (.seq (.reg [.op (some 8) none (.mv (.t 0)),
 .call (some 9) none (.c (.fn (.func 29) [] [])) [(.t 8)],
 .op (some 10) none (.mv (.t 9)),
 .op (some 11) (some (10, false)) (.mv (.t 0)),
 .op (some 12) (some (10, false)) (.nilchk (.t 11)),
 .op (some 13) (some (10, false)) (.fad 6 (.t 12)),
 .op (some 14) (some (10, false)) (.ld1 (.t 13)),
 .op (some 15) (some (10, false)) (.ibin .eql (.t 14) (.c (.i .i64 0))),
 .op (some 16) none (.pick (.t 10) (.c (.b true)) (.t 15))])
 (.cond (.t 16)
 (.seq (.reg [.op (some 2) none (.mv (.c (.i .u64 0))),
 .op (some 3) none (.mv (.c (.b false)))])
 (.ret))
 (.skip)))
 (.seq (.reg [.op (some 17) none (.mv (.t 0)),
 .op (some 18) none (.mv (.t 0)),
 .op (some 19) none (.nilchk (.t 18)),
 .op (some 20) none (.fad 3 (.t 19)),
 .op (some 21) none (.ld1 (.t 20)),
 .call (some 22) none (.c (.fn (.func 38) [] [])) [(.t 17), (.t 21)],
 .op (some 4) none (.mv (.t 22))])
 (.seq (.reg [.op (some 24) none (.mv (.t 0)),
 .op (some 25) none (.nilchk (.t 24)),
 .op (some 26) none (.fad 1 (.t 25)),
 .op (some 27) none (.ld1 (.t 26)),
 .op (some 28) none (.mv (.t 4)),
 .call (some 29) none (.c (.fn (.func 39) [] [])) [(.t 27), (.t 28)],
 .op (some 23) none (.mv (.t 29)),
 .op (some 30) none (.ext (.t 23) 0),
 .op (some 31) none (.ext (.t 23) 1),
 .op (some 5) none (.mv (.t 30)),
 .op (some 6) none (.mv (.t 31))])
 (.seq (.dreg [.op (some 32) none (.mv (.t 5)),
 .op (some 33) none (.mv (.t 4)),
 .op (some 34) none (.ibin .sub (.t 32) (.t 33)),
 .op (some 35) none (.mv (.t 0)),
 .op (some 36) none (.nilchk (.t 35)),
 .op (some 37) none (.fad 0 (.t 36)),
 .op (some 38) none (.ld1 (.t 37)),
 .op (some 39) none (.len 2 (.t 38)),
 .op (some 40) none (.ibin .add (.t 34) (.t 39)),
 .op (some 41) none (.mv (.t 0)),
 .op (some 42) none (.nilchk (.t 41)),
 .op (some 43) none (.fad 0 (.t 42)),
 .op (some 44) none (.ld1 (.t 43)),
 .op (some 45) none (.len 2 (.t 44)),
 .op (some 46) none (.ibin .rem (.t 40) (.t 45)),
 .op (some 7) none (.mv (.t 46))]
 [0, 1, 2, 3, 4, 5, 6, 7, 8, 9, 10, 11, 12, 13, 14, 15] [0, 0, 3, 0, 8, 24, 56, 120, 255, 0, 512, 1536, 3584, 7680, 16383, 32767])
 (.seq (.dreg [.op (some 47) none (.mv (.t 0)),
 .op (some 48) none (.nilchk (.t 47)),
 .op (some 49) none (.fad 3 (.t 48)),
 .op (some 50) none (.ld1 (.t 49)),
 .op (some 51) none (.mv (.t 7)),
 .op (some 52) none (.conv .u64 (.t 51)),
 .call (some 53) none (.c (.fn (.func 40) [] [])) [(.t 50), (.t 52)],
 .op (some 54) none (.mv (.t 0)),
 .op (some 55) none (.nilchk (.t 54)),
 .op (some 56) none (.fad 2 (.t 55)),
 .op (some 57) none (.ld1 (.t 56)),
 .call (some 58) none (.c (.fn (.func 18) [] [])) [(.t 53), (.t 57)],
 .op (some 2) none (.mv (.t 58)),
 .op (some 3) none (.mv (.c (.b true)))]
 [0, 1, 2, 3, 4, 5, 7, 8, 9, 10, 6, 11, 12, 13] [0, 1, 3, 7, 0, 16, 63, 0, 128, 384, 896, 2047, 4095, 8191])
 (.ret)))))),
 [.t 2, .t 3]⟩
def k16 : List Nat := [0, 2, 3, 4, 5, 7, 16]
set_option maxRecDepth 100000 in
theorem c16 : compF Go.Proofs.Tryd.prog 1 Go.Proofs.Tryd.f16 = some e16 := by kernel_rfl
/-- (*sandglass/wheel.Wheel).Waits -/
def e17 : IFunc := ⟨9, 1,
 .seq (.reg [.op (some 2) none (.mv (.c (.i .i64 0)))])
 (.seq (.seq (.reg [.op (some 3) none (.mv (.t 0)),
 .call (some 4) none (.c (.fn (.func 29) [] [])) [(.t 3)]])
 (.cond (.t 4)
 (.seq (.reg [.op (some 2) none (.mv (.c (.i .i64 0)))])
 (.ret))
 (.skip)))
 (.seq (.reg [.op (some 5) none (.mv (.t 0)),
 .op (some 6) none (.nilchk (.t 5)),
 .op (some 7) none (.fad 6 (.t 6)),
 .op (some 8) none (.ld1 (.t 7)),
 .op (some 2) none (.mv (.t 8))])
 (.ret))),
 [.t 2]⟩
def k17 : List Nat := [0, 2, 4]
set_option maxRecDepth 100000 in
theorem c17 : compF Go.Proofs.Tryd.prog 1 Go.Proofs.Tryd.f17 = some e17 := by kernel_rfl
/-- sandglass/span.Begin -/
def e18 : IFunc := ⟨9, 2,
 .seq (.reg [.op (some 4) none (.mv (.c (.i .u64 0)))])
 (.seq (.reg [.op (some 5) none (.mv (.t 0)),
 .op (some 6) none (.mv (.t 1)),
 .op (some 7) none (.mx false (.t 6) [(.c (.i .u64 1))]),
 .call (some 8) none (.c (.fn (.func 41) [] [])) [(.t 5), (.t 7)],
 .op (some 4) none (.mv (.t 8))])
 (.ret)),
 [.t 4]⟩
def k18 : List Nat := [0, 1, 4]
set_option maxRecDepth 100000 in
theorem c18 : compF Go.Proofs.Tryd.prog 2 Go.Proofs.Tryd.f18 = some e18 := by kernel_rfl
/-- (*sandglass/wheel.Wheel).Cursor -/
def e19 : IFunc := ⟨9, 1,
 .seq (.reg [.op (some 2) none (.mv (.c (.i .u64 0)))])
 (.seq (.seq (.reg [.op (some 3) none (.mv (.t 0)),
 .call (some 4) none (.c (.fn (.func 29) [] [])) [(.t 3)]])
 (.cond (.t 4)
 (.seq (.reg [.op (some 2) none (.mv (.c (.i .u64 0)))])
 (.ret))
 (.skip)))
 (.seq (.reg [.op (some 5) none (.mv (.t 0)),
 .op (some 6) none (.nilchk (.t 5)),
 .op (some 7) none (.fad 3 (.t 6)),
 .op (some 8) none (.ld1 (.t 7)),
 .op (some 2) none (.mv (.t 8))])
 (.ret))),
 [.t 2]⟩
def k19 : List Nat := [0, 2, 4]
set_option maxRecDepth 100000 in
theorem c19 : compF Go.Proofs.Tryd.prog 1 Go.Proofs.Tryd.f19 = some e19 := by kernel_rfl
/-- sandglass/wheel.New -/
def e20 : IFunc := ⟨45, 3,
 .seq (.reg [.op (some 6) none (.mv (.c .nilp)),
 .op (some 7) none (.mv (.c (.i .i64 0)))])
 (.seq (.seq (.reg [.op (some 10) none (.mv (.t 0)),
 .op (some 11) none (.ibin .lss (.t 10) (.c (.i .i64 2))),
 .op (some 12) none (.mv (.t 11)),
 .op (some 13) (some (12, false)) (.mv (.t 0)),
 .op (some 14) (some (12, false)) (.ibin .gtr (.t 13) (.c (.i .i64 4096))),
 .op (some 15) none (.pick (.t 12) (.c (.b true)) (.t 14)),
 .op (some 16) none (.mv (.t 15)),
 .op (some 17) (some (16, false)) (.mv (.t 1)),
 .op (some 18) (some (16, false)) (.ibin .lss (.t 17) (.c (.i .u64 1))),
 .op (some 19) none (.pick (.t 16) (.c (.b true)) (.t 18)),
 .op (some 20) none (.mv (.t 19)),
 .op (some 21) (some (20, false)) (.mv (.t 1)),
 .op (some 22) (some (20, false)) (.ibin .gtr (.t 21) (.c (.i .u64 1099511627776))),
 .op (some 23) none (.pick (.t 20) (.c (.b true)) (.t 22)),
 .op (some 24) none (.mv (.t 23)),
 .op (some 25) (some (24, false)) (.mv (.t 2)),
 .op (some 26) (some (24, false)) (.ibin .lss (.t 25) (.c (.i .i64 1))),
 .op (some 27) none (.pick (.t 24) (.c (.b true)) (.t 26)),
 .op (some 28) none (.mv (.t 27)),
 .op (some 29) (some (28, false)) (.mv (.t 2)),
 .op (some 30) (some (28, false)) (.ibin .gtr (.t 29) (.c (.i .i64 65536))),
 .op (some 31) none (.pick (.t 28) (.c (.b true)) (.t 30))])
 (.cond (.t 31)
 (.seq (.reg [.op (some 6) none (.mv (.c .nilp)),
 .op (some 7) none (.mv (.c (.i .i64 2)))])
 (.ret))
 (.skip)))
 (.seq (.reg [.op (some 33) none (.mv (.t 0)),
 .call (some 34) none (.c (.fn (.func 42) [] [])) [(.t 33)],
 .op (some 32) none (.mv (.t 34)),
 .op (some 35) none (.ext (.t 32) 0),
 .op (some 36) none (.ext (.t 32) 1),
 .op (some 8) none (.mv (.t 35)),
 .op (some 9) none (.mv (.t 36))])
 (.seq (.reg [.op (some 37) none (.mv (.t 0)),
 .op (some 38) none (.mksl 1 24 [.nils] (.t 37) (.t 37)),
 .op (some 39) none (.mv (.t 8)),
 .op (some 40) none (.mv (.t 1)),
 .op (some 41) none (.mv (.t 2)),
 .op (some 42) none (.build [.nils, .nilp, (.i .u64 0), (.i .u64 0), .nils, (.i .i64 0), (.i .i64 0), (.i .i64 0)] [(0, 1, (.t 38)), (1, 1, (.t 39)), (2, 1, (.t 40)), (5, 1, (.t 41))]),
 .op (some 43) none (.box (.t 42)),
 .op (some 44) none (.mv (.t 9)),
 .op (some 6) none (.mv (.t 43)),
 .op (some 7) none (.mv (.t 44))])
 (.ret)))),
 [.t 6, .t 7]⟩
def k20 : List Nat := [0, 1, 2, 6, 7, 8, 9, 31]
set_option maxRecDepth 100000 in
theorem c20 : compF Go.Proofs.Tryd.prog 3 Go.Proofs.Tryd.f20 = some e20 := by kernel_rfl
/-- sandglass/sandglasslaw05.Ints -/
def e26 : IFunc := ⟨26, 2,
 .seq (.reg [.op (some 4) none (.mv (.c (.b false)))])
 (.seq (.seq (.reg [.op (some 6) none (.mv (.t 0)),
 .op (some 7) none (.len 2 (.t 6)),
 .op (some 8) none (.mv (.t 1)),
 .op (some 9) none (.len 2 (.t 8)),
 .op (some 10) none (.ibin .neq (.t 7) (.t 9))])
 (.cond (.t 10)
 (.seq (.reg [.op (some 4) none (.mv (.c (.b false)))])
 (.ret))
 (.skip)))
 (.seq (.seq (.reg [.op (some 11) none (.mv (.t 0)),
 .op (some 12) none (.len 2 (.t 11)),
 .op (some 13) none (.mv (.c (.i .i64 0)))])
 (.block 0
 (.loop
 (.seq (.reg [.op (some 14) none (.ibin .lss (.t 13) (.t 12))])
 (.seq (.cond (.t 14)
 (.skip)
 (.exit 0))
 (.seq (.block 1
 (.seq (.reg [.op (some 15) none (.mv (.t 13)),
 .op (some 5) none (.mv (.t 15))])
 (.seq (.dreg [.op (some 16) none (.mv (.t 0)),
 .op (some 17) none (.mv (.t 5)),
 .op (some 18) none (.iad 1 (.t 16) (.t 17)),
 .op (some 19) none (.ld1 (.t 18)),
 .op (some 20) none (.mv (.t 1)),
 .op (some 21) none (.mv (.t 5)),
 .op (some 22) none (.iad 1 (.t 20) (.t 21)),
 .op (some 23) none (.ld1 (.t 22)),
 .op (some 24) none (.ibin .neq (.t 19) (.t 23))]
 [0, 1, 2, 3, 4, 5, 6, 7, 8] [0, 0, 3, 7, 0, 0, 48, 112, 255])
 (.cond (.t 24)
 (.seq (.reg [.op (some 4) none (.mv (.c (.b false)))])
 (.ret))
 (.skip)))))
 (.reg [.op (some 25) none (.ibin .add (.t 13) (.c (.i .i64 1))),
 .op (some 13) none (.mv (.t 25))])))))))
 (.seq (.reg [.op (some 4) none (.mv (.c (.b true)))])
 (.ret)))),
 [.t 4]⟩
def k26 : List Nat := [0, 1, 4, 5, 10, 12, 13, 14, 24]
set_option maxRecDepth 100000 in
theorem c26 : compF Go.Proofs.Tryd.prog 2 Go.Proofs.Tryd.f26 = some e26 := by kernel_rfl
/-- (*sandglass/wheel.Wheel).Held -/
def e27 : IFunc := ⟨41, 1,
 .seq (.reg [.op (some 2) none (.mv (.c .nils))])
 (.seq (.seq (.reg [.op (some 5) none (.mv (.t 0)),
 .call (some 6) none (.c (.fn (.func 29) [] [])) [(.t 5)]])
 (.cond (.t 6)
 (.seq (.reg [.op (some 2) none (.mv (.c .nils))])
 (.ret))
 (.skip)))
 (.seq (.reg [.op (some 3) none (.mv (.c .nils))])
 (.seq (.seq (.reg [.op (some 7) none (.mv (.t 0)),
 .op (some 8) none (.nilchk (.t 7)),
 .op (some 9) none (.fad 0 (.t 8)),
 .op (some 10) none (.ld1 (.t 9)),
 .op (some 11) none (.len 2 (.t 10)),
 .op (some 12) none (.mv (.c (.i .i64 0)))])
 (.block 0
 (.loop
 (.seq (.reg [.op (some 13) none (.ibin .lss (.t 12) (.t 11))])
 (.seq (.cond (.t 13)
 (.skip)
 (.exit 0))
 (.seq (.block 1
 (.seq (.reg [.op (some 14) none (.mv (.t 12)),
 .op (some 4) none (.mv (.t 14))])
 (.dreg [.op (some 15) none (.mv (.t 3)),
 .op (some 16) none (.mv (.t 0)),
 .op (some 17) none (.nilchk (.t 16)),
 .op (some 18) none (.fad 0 (.t 17)),
 .op (some 19) none (.ld1 (.t 18)),
 .op (some 20) none (.mv (.t 0)),
 .op (some 21) none (.mv (.t 0)),
 .op (some 22) none (.nilchk (.t 21)),
 .op (some 23) none (.fad 3 (.t 22)),
 .op (some 24) none (.ld1 (.t 23)),
 .call (some 25) none (.c (.fn (.func 38) [] [])) [(.t 20), (.t 24)],
 .op (some 26) none (.mv (.t 4)),
 .op (some 27) none (.ibin .add (.t 25) (.t 26)),
 .op (some 28) none (.mv (.t 0)),
 .op (some 29) none (.nilchk (.t 28)),
 .op (some 30) none (.fad 0 (.t 29)),
 .op (some 31) none (.ld1 (.t 30)),
 .op (some 32) none (.len 2 (.t 31)),
 .op (some 33) none (.ibin .rem (.t 27) (.t 32)),
 .op (some 34) none (.iad 1 (.t 19) (.t 33)),
 .op (some 35) none (.ld1 (.t 34)),
 .op (some 36) none (.len 2 (.t 35)),
 .op (some 37) none (.bslice 1 1 [(.i .i64 0)] [(0, 1, (.t 36))]),
 .op (some 38) none (.app 1 8 (.t 15) (.t 37)),
 .op (some 3) none (.mv (.t 38))]
 [0, 1, 2, 3, 4, 5, 6, 7, 8, 9, 11, 13, 14, 15, 16, 17, 10, 12, 18, 19, 20, 21, 22, 23, 24] [0, 0, 2, 6, 14, 0, 0, 64, 192, 448, 992, 0, 4064, 0, 8192, 24576, 57344, 122880, 262112, 524286, 1048574, 2097150, 4194302, 8388607, 16777215])))
 (.reg [.op (some 39) none (.ibin .add (.t 12) (.c (.i .i64 1))),
 .op (some 12) none (.mv (.t 39))])))))))
 (.seq (.reg [.op (some 40) none (.mv (.t 3)),
 .op (some 2) none (.mv (.t 40))])
 (.ret))))),
 [.t 2]⟩
def k27 : List Nat := [0, 2, 3, 4, 6, 11, 12, 13]
set_option maxRecDepth 100000 in
theorem c27 : compF Go.Proofs.Tryd.prog 1 Go.Proofs.Tryd.f27 = some e27 := by kernel_rfl
/-- (*sandglass/wheel.Wheel).none -/
def e29 : IFunc := ⟨12, 1,
 .seq (.reg [.op (some 2) none (.mv (.c (.b false)))])
 (.seq (.reg [.op (some 3) none (.mv (.t 0)),
 .op (some 4) none (.eqn 2 false (.t 3) (.c .nilp)),
 .op (some 5) none (.mv (.t 4)),
 .op (some 6) (some (5, false)) (.mv (.t 0)),
 .op (some 7) (some (5, false)) (.nilchk (.t 6)),
 .op (some 8) (some (5, false)) (.fad 0 (.t 7)),
 .op (some 9) (some (5, false)) (.ld1 (.t 8)),
 .op (some 10) (some (5, false)) (.eqn 3 false (.t 9) (.c .nils)),
 .op (some 11) none (.pick (.t 5) (.c (.b true)) (.t 10)),
 .op (some 2) none (.mv (.t 11))])
 (.ret)),
 [.t 2]⟩
def k29 : List Nat := [0, 2]
set_option maxRecDepth 100000 in
theorem c29 : compF Go.Proofs.Tryd.prog 1 Go.Proofs.Tryd.f29 = some e29 := by kernel_rfl
/-- (*sandglass/wheel.Wheel).stand -/
def e30 : IFunc := ⟨39, 2,
 .seq (.reg [.op (some 3) none (.box (.t 1))])
 (.seq (.dreg [.op (some 5) none (.mv (.t 0)),
 .op (some 6) none (.fad 1 (.t 3)),
 .op (some 7) none (.ld1 (.t 6)),
 .op (some 8) none (.mv (.t 0)),
 .op (some 9) none (.nilchk (.t 8)),
 .op (some 10) none (.fad 3 (.t 9)),
 .op (some 11) none (.ld1 (.t 10)),
 .op (some 12) none (.mx false (.t 7) [(.t 11)]),
 .op (some 13) none (.mv (.t 0)),
 .call (some 14) none (.c (.fn (.func 46) [] [])) [(.t 13)],
 .op (some 15) none (.mx true (.t 12) [(.t 14)]),
 .call (some 16) none (.c (.fn (.func 38) [] [])) [(.t 5), (.t 15)],
 .op (some 4) none (.mv (.t 16))]
 [0, 1, 2, 3, 4, 5, 6, 7, 8, 9, 10, 11, 12] [0, 0, 2, 0, 8, 24, 56, 126, 0, 256, 1022, 2047, 4095])
 (.seq (.dreg [.op (some 17) none (.mv (.t 0)),
 .op (some 18) none (.nilchk (.t 17)),
 .op (some 19) none (.fad 0 (.t 18)),
 .op (some 20) none (.ld1 (.t 19)),
 .op (some 21) none (.mv (.t 4)),
 .op (some 22) none (.mv (.t 0)),
 .op (some 23) none (.nilchk (.t 22)),
 .op (some 24) none (.fad 0 (.t 23)),
 .op (some 25) none (.ld1 (.t 24)),
 .op (some 26) none (.mv (.t 4)),
 .op (some 27) none (.iad 1 (.t 25) (.t 26)),
 .op (some 28) none (.ld1 (.t 27)),
 .op (some 29) none (.ldn 3 (.t 3)),
 .op (some 30) none (.bslice 3 1 [(.i .u64 0), (.i .u64 0), (.i .i64 0)] [(0, 3, (.t 29))]),
 .op (some 31) none (.app 3 24 (.t 28) (.t 30)),
 .op (some 32) none (.iad 1 (.t 20) (.t 21)),
 .op none none (.st 1 (.t 32) (.t 31))]
 [0, 1, 2, 3, 4, 5, 6, 7, 8, 9, 10, 11, 12, 13, 14, 15, 16] [0, 1, 3, 7, 0, 0, 32, 96, 224, 0, 992, 2016, 0, 4096, 16352, 32767, 65535])
 (.reg [.op (some 33) none (.mv (.t 0)),
 .op (some 34) none (.nilchk (.t 33)),
 .op (some 35) none (.fad 1 (.t 34)),
 .op (some 36) none (.ld1 (.t 35)),
 .op (some 37) none (.mv (.t 4)),
 .call (some 38) none (.c (.fn (.func 47) [] [])) [(.t 36), (.t 37)]]))),
 []⟩
def k30 : List Nat := [0, 1, 3, 4]
set_option maxRecDepth 100000 in
theorem c30 : compF Go.Proofs.Tryd.prog 2 Go.Proofs.Tryd.f30 = some e30 := by kernel_rfl
/-- (*sandglass/wheel.Wheel).out -/
def e31 : IFunc := ⟨93, 2,
 .seq (.reg [.op (some 4) none (.mv (.c .nils))])
 (.seq (.reg [.op (some 5) none (.mv (.c .nils))])
 (.seq (.dreg [.op (some 11) none (.mv (.t 1)),
 .op (some 12) none (.mv (.t 0)),
 .op (some 13) none (.nilchk (.t 12)),
 .op (some 14) none (.fad 3 (.t 13)),
 .op (some 15) none (.ld1 (.t 14)),
 .op (some 16) none (.ibin .sub (.t 11) (.t 15)),
 .op (some 17) none (.mv (.t 0)),
 .op (some 18) none (.nilchk (.t 17)),
 .op (some 19) none (.fad 0 (.t 18)),
 .op (some 20) none (.ld1 (.t 19)),
 .op (some 21) none (.len 2 (.t 20)),
 .op (some 22) none (.ibin .sub (.t 21) (.c (.i .i64 1))),
 .op (some 23) none (.conv .u64 (.t 22)),
 .op (some 24) none (.mx true (.t 16) [(.t 23)]),
 .op (some 25) none (.ibin .add (.t 24) (.c (.i .u64 1))),
 .op (some 6) none (.mv (.t 25))]
 [0, 1, 2, 3, 4, 5, 6, 7, 8, 9, 10, 11, 12, 13, 14, 15] [0, 0, 2, 6, 14, 31, 0, 64, 192, 448, 960, 1984, 4032, 8191, 16383, 32767])
 (.seq (.seq (.reg [.op (some 7) none (.mv (.c (.i .u64 0)))])
 (.block 0
 (.loop
 (.seq (.seq (.reg [.op (some 26) none (.mv (.t 7)),
 .op (some 27) none (.mv (.t 6)),
 .op (some 28) none (.ibin .lss (.t 26) (.t 27))])
 (.cond (.t 28)
 (.skip)
 (.exit 0)))
 (.seq (.block 1
 (.seq (.reg [.op (some 31) none (.mv (.t 0)),
 .op (some 32) none (.mv (.t 0)),
 .op (some 33) none (.nilchk (.t 32)),
 .op (some 34) none (.fad 3 (.t 33)),
 .op (some 35) none (.ld1 (.t 34)),
 .op (some 36) none (.mv (.t 7)),
 .call (some 37) none (.c (.fn (.func 40) [] [])) [(.t 35), (.t 36)],
 .call (some 38) none (.c (.fn (.func 38) [] [])) [(.t 31), (.t 37)],
 .op (some 8) none (.mv (.t 38))])
 (.seq (.reg [.op (some 40) none (.mv (.t 0)),
 .op (some 41) none (.nilchk (.t 40)),
 .op (some 42) none (.fad 1 (.t 41)),
 .op (some 43) none (.ld1 (.t 42)),
 .op (some 44) none (.mv (.t 8)),
 .call (some 45) none (.c (.fn (.func 39) [] [])) [(.t 43), (.t 44)],
 .op (some 39) none (.mv (.t 45)),
 .op (some 46) none (.ext (.t 39) 0),
 .op (some 47) none (.ext (.t 39) 1),
 .op (some 9) none (.mv (.t 46)),
 .op (some 10) none (.mv (.t 47))])
 (.seq (.seq (.reg [.op (some 48) none (.mv (.t 10)),
 .op (some 49) none (.un .not (.t 48))])
 (.cond (.t 49)
 (.exit 0)
 (.skip)))
 (.seq (.dreg [.op (some 50) none (.mv (.t 7)),
 .op (some 51) none (.mv (.t 9)),
 .op (some 52) none (.mv (.t 8)),
 .op (some 53) none (.ibin .sub (.t 51) (.t 52)),
 .op (some 54) none (.mv (.t 0)),
 .op (some 55) none (.nilchk (.t 54)),
 .op (some 56) none (.fad 0 (.t 55)),
 .op (some 57) none (.ld1 (.t 56)),
 .op (some 58) none (.len 2 (.t 57)),
 .op (some 59) none (.ibin .add (.t 53) (.t 58)),
 .op (some 60) none (.mv (.t 0)),
 .op (some 61) none (.nilchk (.t 60)),
 .op (some 62) none (.fad 0 (.t 61)),
 .op (some 63) none (.ld1 (.t 62)),
 .op (some 64) none (.len 2 (.t 63)),
 .op (some 65) none (.ibin .rem (.t 59) (.t 64)),
 .op (some 66) none (.conv .u64 (.t 65)),
 .op (some 67) none (.ibin .add (.t 50) (.t 66)),
 .op (some 7) none (.mv (.t 67))]
 [0, 1, 2, 3, 4, 5, 6, 7, 8, 9, 10, 11, 12, 13, 14, 15, 16, 17, 18] [0, 0, 0, 6, 0, 16, 48, 112, 240, 510, 0, 1024, 3072, 7168, 15360, 32766, 65534, 131071, 262143])
 (.seq (.reg [.op (some 68) none (.mv (.t 7)),
 .op (some 69) none (.mv (.t 6)),
 .op (some 70) none (.ibin .lss (.t 68) (.t 69))])
 (.cond (.t 70)
 (.seq (.reg [.op (some 71) none (.mv (.t 5)),
 .op (some 72) none (.mv (.t 0)),
 .op (some 73) none (.nilchk (.t 72)),
 .op (some 74) none (.fad 0 (.t 73)),
 .op (some 75) none (.ld1 (.t 74)),
 .op (some 76) none (.mv (.t 9)),
 .op (some 77) none (.iad 1 (.t 75) (.t 76)),
 .op (some 78) none (.ld1 (.t 77)),
 .op (some 79) none (.app 3 24 (.t 71) (.t 78)),
 .op (some 5) none (.mv (.t 79))])
 (.seq (.reg [.op (some 80) none (.mv (.t 0)),
 .op (some 81) none (.nilchk (.t 80)),
 .op (some 82) none (.fad 0 (.t 81)),
 .op (some 83) none (.ld1 (.t 82)),
 .op (some 84) none (.mv (.t 9)),
 .op (some 85) none (.iad 1 (.t 83) (.t 84)),
 .op none none (.st 1 (.t 85) (.c .nils))])
 (.reg [.op (some 86) none (.mv (.t 0)),
 .op (some 87) none (.nilchk (.t 86)),
 .op (some 88) none (.fad 1 (.t 87)),
 .op (some 89) none (.ld1 (.t 88)),
 .op (some 90) none (.mv (.t 9)),
 .call (some 91) none (.c (.fn (.func 48) [] [])) [(.t 89), (.t 90)]])))
 (.skip))))))))
 (.reg [.op (some 29) none (.mv (.t 7)),
 .op (some 30) none (.ibin .add (.t 29) (.c (.i .u64 1))),
 .op (some 7) none (.mv (.t 30))]))))))
 (.seq (.reg [.op (some 92) none (.mv (.t 5)),
 .op (some 4) none (.mv (.t 92))])
 (.ret))))),
 [.t 4]⟩
def k31 : List Nat := [0, 1, 4, 5, 6, 7, 8, 9, 10, 28, 49, 70]
set_option maxRecDepth 100000 in
theorem c31 : compF Go.Proofs.Tryd.prog 2 Go.Proofs.Tryd.f31 = some e31 := by kernel_rfl
/-- slices.SortFunc[[]sandglass/wheel.thing,sandglass/wheel.thing] -/
def e32 : IFunc := ⟨14, 2,
 .seq (.reg [.op (some 5) none (.mv (.t 0)),
 .op (some 6) none (.len 2 (.t 5)),
 .op (some 4) none (.mv (.t 6))])
 (.reg [.op (some 7) none (.mv (.t 0)),
 .op (some 8) none (.mv (.t 4)),
 .op (some 9) none (.mv (.t 4)),
 .op (some 10) none (.conv .u64 (.t 9)),
 .call (some 11) none (.c (.fn (.func 50) [] [])) [(.t 10)],
 .op (some 12) none (.mv (.t 1)),
 .call (some 13) none (.c (.fn (.func 49) [] [])) [(.t 7), (.c (.i .i64 0)), (.t 8), (.t 11), (.t 12)]]),
 []⟩
def k32 : List Nat := [0, 1, 4]
set_option maxRecDepth 100000 in
theorem c32 : compF Go.Proofs.Tryd.prog 2 Go.Proofs.Tryd.f32 = some e32 := by kernel_rfl
/-- (*sandglass/wheel.Wheel).Advance$1 -/
def e33 : IFunc := ⟨17, 2,
 .seq (.reg [.op (some 2) none (.box (.t 0)),
 .op (some 3) none (.box (.t 1)),
 .op (some 4) none (.mv (.c (.i .i64 0)))])
 (.seq (.dreg [.op (some 5) none (.fad 1 (.t 2)),
 .op (some 6) none (.ld1 (.t 5)),
 .op (some 7) none (.fad 1 (.t 3)),
 .op (some 8) none (.ld1 (.t 7)),
 .call (some 9) none (.c (.fn (.func 35) [] [])) [(.t 6), (.t 8)],
 .op (some 10) none (.fad 2 (.t 2)),
 .op (some 11) none (.ld1 (.t 10)),
 .op (some 12) none (.fad 2 (.t 3)),
 .op (some 13) none (.ld1 (.t 12)),
 .call (some 14) none (.c (.fn (.func 36) [] [])) [(.t 11), (.t 13)],
 .op (some 15) none (.bslice 1 2 [(.i .i64 0), (.i .i64 0)] [(0, 1, (.t 9)), (1, 1, (.t 14))]),
 .call (some 16) none (.c (.fn (.func 34) [] [])) [(.t 15)],
 .op (some 4) none (.mv (.t 16))]
 [0, 1, 2, 3, 5, 6, 7, 8, 4, 9, 10, 11, 12] [0, 1, 0, 4, 15, 0, 32, 0, 128, 511, 1023, 2047, 4095])
 (.ret)),
 [.t 4]⟩
def k33 : List Nat := [0, 1, 2, 3, 4]
set_option maxRecDepth 100000 in
theorem c33 : compF Go.Proofs.Tryd.prog 2 Go.Proofs.Tryd.f33 = some e33 := by kernel_rfl
/-- cmp.Or[int] -/
def e34 : IFunc := ⟨18, 1,
 .seq (.reg [.op (some 2) none (.mv (.c (.i .i64 0)))])
 (.seq (.reg [.op (some 3) none (.mv (.c (.i .i64 0)))])
 (.seq (.seq (.reg [.op (some 6) none (.mv (.t 0)),
 .op (some 7) none (.len 2 (.t 6)),
 .op (some 8) none (.mv (.c (.i .i64 0)))])
 (.block 0
 (.loop
 (.seq (.reg [.op (some 9) none (.ibin .lss (.t 8) (.t 7))])
 (.seq (.cond (.t 9)
 (.skip)
 (.exit 0))
 (.seq (.block 1
 (.seq (.reg [.op (some 10) none (.iad 1 (.t 6) (.t 8)),
 .op (some 11) none (.ld1 (.t 10)),
 .op (some 5) none (.mv (.t 11))])
 (.seq (.reg [.op (some 12) none (.mv (.t 5)),
 .op (some 13) none (.mv (.t 3)),
 .op (some 14) none (.ibin .neq (.t 12) (.t 13))])
 (.cond (.t 14)
 (.seq (.reg [.op (some 15) none (.mv (.t 5)),
 .op (some 2) none (.mv (.t 15))])
 (.ret))
 (.skip)))))
 (.reg [.op (some 16) none (.ibin .add (.t 8) (.c (.i .i64 1))),
 .op (some 8) none (.mv (.t 16))])))))))
 (.seq (.reg [.op (some 17) none (.mv (.t 3)),
 .op (some 2) none (.mv (.t 17))])
 (.ret)))),
 [.t 2]⟩
def k34 : List Nat := [0, 2, 3, 5, 6, 7, 8, 9, 14]
set_option maxRecDepth 100000 in
theorem c34 : compF Go.Proofs.Tryd.prog 1 Go.Proofs.Tryd.f34 = some e34 := by kernel_rfl
/-- cmp.Compare[uint64] -/
def e35 : IFunc := ⟨20, 2,
 .seq (.reg [.op (some 4) none (.mv (.c (.i .i64 0)))])
 (.seq (.reg [.op (some 7) none (.mv (.t 0)),
 .call (some 8) none (.c (.fn (.func 51) [] [])) [(.t 7)],
 .op (some 5) none (.mv (.t 8))])
 (.seq (.reg [.op (some 9) none (.mv (.t 1)),
 .call (some 10) none (.c (.fn (.func 51) [] [])) [(.t 9)],
 .op (some 6) none (.mv (.t 10))])
 (.seq (.seq (.reg [.op (some 11) none (.mv (.t 5))])
 (.cond (.t 11)
 (.seq (.seq (.reg [.op (some 12) none (.mv (.t 6))])
 (.cond (.t 12)
 (.seq (.reg [.op (some 4) none (.mv (.c (.i .i64 0)))])
 (.ret))
 (.skip)))
 (.seq (.reg [.op (some 4) none (.mv (.c (.i .i64 (-1))))])
 (.ret)))
 (.skip)))
 (.seq (.seq (.reg [.op (some 13) none (.mv (.t 6))])
 (.cond (.t 13)
 (.seq (.reg [.op (some 4) none (.mv (.c (.i .i64 1)))])
 (.ret))
 (.skip)))
 (.seq (.seq (.reg [.op (some 14) none (.mv (.t 0)),
 .op (some 15) none (.mv (.t 1)),
 .op (some 16) none (.ibin .lss (.t 14) (.t 15))])
 (.cond (.t 16)
 (.seq (.reg [.op (some 4) none (.mv (.c (.i .i64 (-1))))])
 (.ret))
 (.skip)))
 (.seq (.seq (.reg [.op (some 17) none (.mv (.t 0)),
 .op (some 18) none (.mv (.t 1)),
 .op (some 19) none (.ibin .gtr (.t 17) (.t 18))])
 (.cond (.t 19)
 (.seq (.reg [.op (some 4) none (.mv (.c (.i .i64 1)))])
 (.ret))
 (.skip)))
 (.seq (.reg [.op (some 4) none (.mv (.c (.i .i64 0)))])
 (.ret)))))))),
 [.t 4]⟩
def k35 : List Nat := [0, 1, 4, 5, 6, 11, 12, 13, 16, 19]
set_option maxRecDepth 100000 in
theorem c35 : compF Go.Proofs.Tryd.prog 2 Go.Proofs.Tryd.f35 = some e35 := by kernel_rfl
/-- cmp.Compare[int] -/
def e36 : IFunc := ⟨20, 2,
 .seq (.reg [.op (some 4) none (.mv (.c (.i .i64 0)))])
 (.seq (.reg [.op (some 7) none (.mv (.t 0)),
 .call (some 8) none (.c (.fn (.func 52) [] [])) [(.t 7)],
 .op (some 5) none (.mv (.t 8))])
 (.seq (.reg [.op (some 9) none (.mv (.t 1)),
 .call (some 10) none (.c (.fn (.func 52) [] [])) [(.t 9)],
 .op (some 6) none (.mv (.t 10))])
 (.seq (.seq (.reg [.op (some 11) none (.mv (.t 5))])
 (.cond (.t 11)
 (.seq (.seq (.reg [.op (some 12) none (.mv (.t 6))])
 (.cond (.t 12)
 (.seq (.reg [.op (some 4) none (.mv (.c (.i .i64 0)))])
 (.ret))
 (.skip)))
 (.seq (.reg [.op (some 4) none (.mv (.c (.i .i64 (-1))))])
 (.ret)))
 (.skip)))
 (.seq (.seq (.reg [.op (some 13) none (.mv (.t 6))])
 (.cond (.t 13)
 (.seq (.reg [.op (some 4) none (.mv (.c (.i .i64 1)))])
 (.ret))
 (.skip)))
 (.seq (.seq (.reg [.op (some 14) none (.mv (.t 0)),
 .op (some 15) none (.mv (.t 1)),
 .op (some 16) none (.ibin .lss (.t 14) (.t 15))])
 (.cond (.t 16)
 (.seq (.reg [.op (some 4) none (.mv (.c (.i .i64 (-1))))])
 (.ret))
 (.skip)))
 (.seq (.seq (.reg [.op (some 17) none (.mv (.t 0)),
 .op (some 18) none (.mv (.t 1)),
 .op (some 19) none (.ibin .gtr (.t 17) (.t 18))])
 (.cond (.t 19)
 (.seq (.reg [.op (some 4) none (.mv (.c (.i .i64 1)))])
 (.ret))
 (.skip)))
 (.seq (.reg [.op (some 4) none (.mv (.c (.i .i64 0)))])
 (.ret)))))))),
 [.t 4]⟩
def k36 : List Nat := [0, 1, 4, 5, 6, 11, 12, 13, 16, 19]
set_option maxRecDepth 100000 in
theorem c36 : compF Go.Proofs.Tryd.prog 2 Go.Proofs.Tryd.f36 = some e36 := by kernel_rfl
/-- (*sandglass/wheel.Wheel).place -/
def e38 : IFunc := ⟨14, 2,
 .seq (.reg [.op (some 4) none (.mv (.c (.i .i64 0)))])
 (.seq (.reg [.op (some 5) none (.mv (.t 1)),
 .op (some 6) none (.mv (.t 0)),
 .op (some 7) none (.nilchk (.t 6)),
 .op (some 8) none (.fad 0 (.t 7)),
 .op (some 9) none (.ld1 (.t 8)),
 .op (some 10) none (.len 2 (.t 9)),
 .op (some 11) none (.conv .u64 (.t 10)),
 .op (some 12) none (.ibin .rem (.t 5) (.t 11)),
 .op (some 13) none (.conv .i64 (.t 12)),
 .op (some 4) none (.mv (.t 13))])
 (.ret)),
 [.t 4]⟩
def k38 : List Nat := [0, 1, 4]
set_option maxRecDepth 100000 in
theorem c38 : compF Go.Proofs.Tryd.prog 2 Go.Proofs.Tryd.f38 = some e38 := by kernel_rfl
/-- (*sandglass/bitmap.Bits).Round -/
def e39 : IFunc := ⟨20, 2,
 .seq (.reg [.op (some 4) none (.mv (.c (.i .i64 0))),
 .op (some 5) none (.mv (.c (.b false)))])
 (.seq (.seq (.reg [.op (some 9) none (.mv (.t 0)),
 .op (some 10) none (.mv (.t 1)),
 .call (some 11) none (.c (.fn (.func 55) [] [])) [(.t 9), (.t 10)],
 .op (some 8) none (.mv (.t 11)),
 .op (some 12) none (.ext (.t 8) 0),
 .op (some 13) none (.ext (.t 8) 1),
 .op (some 6) none (.mv (.t 12)),
 .op (some 7) none (.mv (.t 13))])
 (.seq (.reg [.op (some 14) none (.mv (.t 7))])
 (.cond (.t 14)
 (.seq (.reg [.op (some 15) none (.mv (.t 6)),
 .op (some 4) none (.mv (.t 15)),
 .op (some 5) none (.mv (.c (.b true)))])
 (.ret))
 (.skip))))
 (.seq (.reg [.op (some 16) none (.mv (.t 0)),
 .call (some 17) none (.c (.fn (.func 55) [] [])) [(.t 16), (.c (.i .i64 0))],
 .op (some 18) none (.ext (.t 17) 0),
 .op (some 19) none (.ext (.t 17) 1),
 .op (some 4) none (.mv (.t 18)),
 .op (some 5) none (.mv (.t 19))])
 (.ret))),
 [.t 4, .t 5]⟩
def k39 : List Nat := [0, 1, 4, 5, 6, 7, 14]
set_option maxRecDepth 100000 in
theorem c39 : compF Go.Proofs.Tryd.prog 2 Go.Proofs.Tryd.f39 = some e39 := by kernel_rfl
/-- sandglass/bitmap.New -/
def e42 : IFunc := ⟨42, 1,
 .seq (.reg [.op (some 2) none (.mv (.c .nilp)),
 .op (some 3) none (.mv (.c (.i .i64 0)))])
 (.seq (.seq (.reg [.op (some 6) none (.mv (.t 0)),
 .op (some 7) none (.ibin .lss (.t 6) (.c (.i .i64 1))),
 .op (some 8) none (.mv (.t 7)),
 .op (some 9) (some (8, false)) (.mv (.t 0)),
 .op (some 10) (some (8, false)) (.ibin .gtr (.t 9) (.c (.i .i64 65536))),
 .op (some 11) none (.pick (.t 8) (.c (.b true)) (.t 10))])
 (.cond (.t 11)
 (.seq (.reg [.op (some 2) none (.mv (.c .nilp)),
 .op (some 3) none (.mv (.c (.i .i64 2)))])
 (.ret))
 (.skip)))
 (.seq (.reg [.op (some 12) none (.mv (.t 0)),
 .op (some 13) none (.build [.nils, (.i .i64 0), (.i .i64 0)] [(1, 1, (.t 12))]),
 .op (some 14) none (.box (.t 13)),
 .op (some 4) none (.mv (.t 14))])
 (.seq (.seq (.reg [.op (some 15) none (.mv (.t 0)),
 .op (some 5) none (.mv (.t 15))])
 (.block 0
 (.loop
 (.seq (.seq (.reg [.op (some 16) none (.mv (.t 5)),
 .op (some 17) none (.ibin .gtr (.t 16) (.c (.i .i64 1))),
 .op (some 18) none (.mv (.t 17)),
 .op (some 19) (some (18, false)) (.mv (.t 4)),
 .op (some 20) (some (18, false)) (.nilchk (.t 19)),
 .op (some 21) (some (18, false)) (.fad 0 (.t 20)),
 .op (some 22) (some (18, false)) (.ld1 (.t 21)),
 .op (some 23) (some (18, false)) (.len 2 (.t 22)),
 .op (some 24) (some (18, false)) (.ibin .eql (.t 23) (.c (.i .i64 0))),
 .op (some 25) none (.pick (.t 18) (.c (.b true)) (.t 24))])
 (.cond (.t 25)
 (.skip)
 (.exit 0)))
 (.block 1
 (.seq (.reg [.op (some 26) none (.mv (.t 5)),
 .op (some 27) none (.ibin .add (.t 26) (.c (.i .i64 64))),
 .op (some 28) none (.ibin .sub (.t 27) (.c (.i .i64 1))),
 .op (some 29) none (.ibin .quo (.t 28) (.c (.i .i64 64))),
 .op (some 5) none (.mv (.t 29))])
 (.dreg [.op (some 30) none (.mv (.t 4)),
 .op (some 31) none (.mv (.t 4)),
 .op (some 32) none (.nilchk (.t 31)),
 .op (some 33) none (.fad 0 (.t 32)),
 .op (some 34) none (.ld1 (.t 33)),
 .op (some 35) none (.mv (.t 5)),
 .op (some 36) none (.mksl 1 8 [(.i .u64 0)] (.t 35) (.t 35)),
 .op (some 37) none (.bslice 1 1 [.nils] [(0, 1, (.t 36))]),
 .op (some 38) none (.app 1 24 (.t 34) (.t 37)),
 .op (some 39) none (.nilchk (.t 30)),
 .op (some 40) none (.fad 0 (.t 39)),
 .op none none (.st 1 (.t 40) (.t 38))]
 [0, 1, 2, 3, 4, 5, 6, 7, 8, 9, 10, 11] [0, 0, 2, 6, 14, 0, 32, 96, 254, 511, 1023, 2047])))))))
 (.seq (.reg [.op (some 41) none (.mv (.t 4)),
 .op (some 2) none (.mv (.t 41)),
 .op (some 3) none (.mv (.c (.i .i64 0)))])
 (.ret))))),
 [.t 2, .t 3]⟩
def k42 : List Nat := [0, 2, 3, 4, 5, 11, 25]
set_option maxRecDepth 100000 in
theorem c42 : compF Go.Proofs.Tryd.prog 1 Go.Proofs.Tryd.f42 = some e42 := by kernel_rfl
/-- (*sandglass/wheel.Wheel).last -/
def e46 : IFunc := ⟨15, 1,
 .seq (.reg [.op (some 2) none (.mv (.c (.i .u64 0)))])
 (.seq (.dreg [.op (some 3) none (.mv (.t 0)),
 .op (some 4) none (.nilchk (.t 3)),
 .op (some 5) none (.fad 3 (.t 4)),
 .op (some 6) none (.ld1 (.t 5)),
 .op (some 7) none (.mv (.t 0)),
 .op (some 8) none (.nilchk (.t 7)),
 .op (some 9) none (.fad 0 (.t 8)),
 .op (some 10) none (.ld1 (.t 9)),
 .op (some 11) none (.len 2 (.t 10)),
 .op (some 12) none (.ibin .sub (.t 11) (.c (.i .i64 1))),
 .op (some 13) none (.conv .u64 (.t 12)),
 .call (some 14) none (.c (.fn (.func 40) [] [])) [(.t 6), (.t 13)],
 .op (some 2) none (.mv (.t 14))]
 [0, 1, 2, 3, 4, 5, 6, 7, 8, 9, 10, 11, 12] [0, 1, 3, 7, 0, 16, 48, 112, 240, 496, 1008, 2047, 4095])
 (.ret)),
 [.t 2]⟩
def k46 : List Nat := [0, 2]
set_option maxRecDepth 100000 in
theorem c46 : compF Go.Proofs.Tryd.prog 1 Go.Proofs.Tryd.f46 = some e46 := by kernel_rfl
/-- (*sandglass/bitmap.Bits).Set -/
def e47 : IFunc := ⟨49, 2,
 .seq (.reg [.op (some 4) none (.mv (.c (.b false)))])
 (.seq (.seq (.reg [.op (some 6) none (.mv (.t 0)),
 .op (some 7) none (.mv (.t 1)),
 .call (some 8) none (.c (.fn (.func 60) [] [])) [(.t 6), (.t 7)],
 .op (some 9) none (.un .not (.t 8)),
 .op (some 10) none (.mv (.t 9)),
 .op (some 11) (some (10, false)) (.mv (.t 0)),
 .op (some 12) (some (10, false)) (.mv (.t 1)),
 .call (some 13) (some (10, false)) (.c (.fn (.func 61) [] [])) [(.t 11), (.t 12)],
 .op (some 14) none (.pick (.t 10) (.c (.b true)) (.t 13))])
 (.cond (.t 14)
 (.seq (.reg [.op (some 4) none (.mv (.c (.b false)))])
 (.ret))
 (.skip)))
 (.seq (.seq (.reg [.op (some 15) none (.mv (.t 0)),
 .op (some 16) none (.nilchk (.t 15)),
 .op (some 17) none (.fad 0 (.t 16)),
 .op (some 18) none (.ld1 (.t 17)),
 .op (some 19) none (.len 2 (.t 18)),
 .op (some 20) none (.mv (.c (.i .i64 0)))])
 (.block 0
 (.loop
 (.seq (.reg [.op (some 21) none (.ibin .lss (.t 20) (.t 19))])
 (.seq (.cond (.t 21)
 (.skip)
 (.exit 0))
 (.seq (.block 1
 (.seq (.reg [.op (some 22) none (.mv (.t 20)),
 .op (some 5) none (.mv (.t 22))])
 (.seq (.dreg [.op (some 23) none (.mv (.t 0)),
 .op (some 24) none (.nilchk (.t 23)),
 .op (some 25) none (.fad 0 (.t 24)),
 .op (some 26) none (.ld1 (.t 25)),
 .op (some 27) none (.mv (.t 5)),
 .op (some 28) none (.iad 1 (.t 26) (.t 27)),
 .op (some 29) none (.ld1 (.t 28)),
 .op (some 30) none (.mv (.t 1)),
 .op (some 31) none (.ibin .shr (.t 30) (.c (.i .u64 6))),
 .op (some 32) none (.iad 1 (.t 29) (.t 31)),
 .op (some 33) none (.ld1 (.t 32)),
 .op (some 34) none (.mv (.t 1)),
 .op (some 35) none (.ibin .rem (.t 34) (.c (.i .i64 64))),
 .op (some 36) none (.ibin .shl (.c (.i .u64 1)) (.t 35)),
 .op (some 37) none (.ibin .or (.t 33) (.t 36)),
 .op (some 38) none (.iad 1 (.t 29) (.t 31)),
 .op none none (.st 1 (.t 38) (.t 37))]
 [0, 1, 2, 3, 4, 5, 6, 7, 8, 9, 10, 11, 12, 13, 14, 15, 16] [0, 1, 3, 7, 0, 31, 63, 0, 128, 511, 1023, 0, 2048, 6144, 16383, 32767, 65535])
 (.reg [.op (some 39) none (.mv (.t 1)),
 .op (some 40) none (.ibin .shr (.t 39) (.c (.i .u64 6))),
 .op (some 1) none (.mv (.t 40))]))))
 (.reg [.op (some 41) none (.ibin .add (.t 20) (.c (.i .i64 1))),
 .op (some 20) none (.mv (.t 41))])))))))
 (.seq (.reg [.op (some 42) none (.mv (.t 0)),
 .op (some 43) none (.nilchk (.t 42)),
 .op (some 44) none (.fad 2 (.t 43)),
 .op (some 45) none (.ld1 (.t 44)),
 .op (some 46) none (.ibin .add (.t 45) (.c (.i .i64 1))),
 .op (some 47) none (.nilchk (.t 42)),
 .op (some 48) none (.fad 2 (.t 47)),
 .op none none (.st 1 (.t 48) (.t 46))])
 (.seq (.reg [.op (some 4) none (.mv (.c (.b true)))])
 (.ret))))),
 [.t 4]⟩
def k47 : List Nat := [0, 1, 4, 5, 14, 19, 20, 21]
set_option maxRecDepth 100000 in
theorem c47 : compF Go.Proofs.Tryd.prog 2 Go.Proofs.Tryd.f47 = some e47 := by kernel_rfl
/-- (*sandglass/bitmap.Bits).Clear -/
def e48 : IFunc := ⟨51, 2,
 .seq (.reg [.op (some 4) none (.mv (.c (.b false)))])
 (.seq (.seq (.reg [.op (some 7) none (.mv (.t 0)),
 .op (some 8) none (.mv (.t 1)),
 .call (some 9) none (.c (.fn (.func 61) [] [])) [(.t 7), (.t 8)],
 .op (some 10) none (.un .not (.t 9))])
 (.cond (.t 10)
 (.seq (.reg [.op (some 4) none (.mv (.c (.b false)))])
 (.ret))
 (.skip)))
 (.seq (.seq (.reg [.op (some 11) none (.mv (.t 0)),
 .op (some 12) none (.nilchk (.t 11)),
 .op (some 13) none (.fad 0 (.t 12)),
 .op (some 14) none (.ld1 (.t 13)),
 .op (some 15) none (.len 2 (.t 14)),
 .op (some 16) none (.mv (.c (.i .i64 0)))])
 (.block 0
 (.loop
 (.seq (.reg [.op (some 17) none (.ibin .lss (.t 16) (.t 15))])
 (.seq (.cond (.t 17)
 (.skip)
 (.exit 0))
 (.seq (.block 1
 (.seq (.reg [.op (some 18) none (.mv (.t 16)),
 .op (some 5) none (.mv (.t 18))])
 (.seq (.reg [.op (some 19) none (.mv (.t 0)),
 .op (some 20) none (.nilchk (.t 19)),
 .op (some 21) none (.fad 0 (.t 20)),
 .op (some 22) none (.ld1 (.t 21)),
 .op (some 23) none (.mv (.t 5)),
 .op (some 24) none (.iad 1 (.t 22) (.t 23)),
 .op (some 25) none (.ld1 (.t 24)),
 .op (some 26) none (.mv (.t 1)),
 .op (some 27) none (.ibin .shr (.t 26) (.c (.i .u64 6))),
 .op (some 28) none (.iad 1 (.t 25) (.t 27)),
 .op (some 6) none (.mv (.t 28))])
 (.seq (.dreg [.op (some 29) none (.mv (.t 6)),
 .op (some 30) none (.nilchk (.t 29)),
 .op (some 31) none (.ld1 (.t 30)),
 .op (some 32) none (.mv (.t 1)),
 .op (some 33) none (.ibin .rem (.t 32) (.c (.i .i64 64))),
 .op (some 34) none (.ibin .shl (.c (.i .u64 1)) (.t 33)),
 .op (some 35) none (.ibin .andNot (.t 31) (.t 34)),
 .op (some 36) none (.nilchk (.t 29)),
 .op none none (.st 1 (.t 36) (.t 35))]
 [0, 1, 2, 3, 4, 5, 6, 7, 8] [0, 1, 3, 0, 8, 24, 63, 127, 255])
 (.seq (.seq (.reg [.op (some 37) none (.mv (.t 6)),
 .op (some 38) none (.nilchk (.t 37)),
 .op (some 39) none (.ld1 (.t 38)),
 .op (some 40) none (.ibin .neq (.t 39) (.c (.i .u64 0)))])
 (.cond (.t 40)
 (.exit 0)
 (.skip)))
 (.reg [.op (some 41) none (.mv (.t 1)),
 .op (some 42) none (.ibin .shr (.t 41) (.c (.i .u64 6))),
 .op (some 1) none (.mv (.t 42))]))))))
 (.reg [.op (some 43) none (.ibin .add (.t 16) (.c (.i .i64 1))),
 .op (some 16) none (.mv (.t 43))])))))))
 (.seq (.reg [.op (some 44) none (.mv (.t 0)),
 .op (some 45) none (.nilchk (.t 44)),
 .op (some 46) none (.fad 2 (.t 45)),
 .op (some 47) none (.ld1 (.t 46)),
 .op (some 48) none (.ibin .sub (.t 47) (.c (.i .i64 1))),
 .op (some 49) none (.nilchk (.t 44)),
 .op (some 50) none (.fad 2 (.t 49)),
 .op none none (.st 1 (.t 50) (.t 48))])
 (.seq (.reg [.op (some 4) none (.mv (.c (.b true)))])
 (.ret))))),
 [.t 4]⟩
def k48 : List Nat := [0, 1, 4, 5, 6, 10, 15, 16, 17, 40]
set_option maxRecDepth 100000 in
theorem c48 : compF Go.Proofs.Tryd.prog 2 Go.Proofs.Tryd.f48 = some e48 := by kernel_rfl
/-- slices.pdqsortCmpFunc[sandglass/wheel.thing] -/
def e49 : IFunc := ⟨148, 5,
 .seq (.reg [.op (some 10) none (.mv (.c (.b true)))])
 (.seq (.reg [.op (some 11) none (.mv (.c (.b true)))])
 (.block 0
 (.loop
 (.block 1
 (.seq (.reg [.op (some 21) none (.mv (.t 2)),
 .op (some 22) none (.mv (.t 1)),
 .op (some 23) none (.ibin .sub (.t 21) (.t 22)),
 .op (some 12) none (.mv (.t 23))])
 (.seq (.seq (.reg [.op (some 24) none (.mv (.t 12)),
 .op (some 25) none (.ibin .leq (.t 24) (.c (.i .i64 12)))])
 (.cond (.t 25)
 (.seq (.reg [.op (some 26) none (.mv (.t 0)),
 .op (some 27) none (.mv (.t 1)),
 .op (some 28) none (.mv (.t 2)),
 .op (some 29) none (.mv (.t 4)),
 .call (some 30) none (.c (.fn (.func 62) [] [])) [(.t 26), (.t 27), (.t 28), (.t 29)]])
 (.ret))
 (.skip)))
 (.seq (.seq (.reg [.op (some 31) none (.mv (.t 3)),
 .op (some 32) none (.ibin .eql (.t 31) (.c (.i .i64 0)))])
 (.cond (.t 32)
 (.seq (.reg [.op (some 33) none (.mv (.t 0)),
 .op (some 34) none (.mv (.t 1)),
 .op (some 35) none (.mv (.t 2)),
 .op (some 36) none (.mv (.t 4)),
 .call (some 37) none (.c (.fn (.func 63) [] [])) [(.t 33), (.t 34), (.t 35), (.t 36)]])
 (.ret))
 (.skip)))
 (.seq (.seq (.reg [.op (some 38) none (.mv (.t 10)),
 .op (some 39) none (.un .not (.t 38))])
 (.cond (.t 39)
 (.seq (.reg [.op (some 40) none (.mv (.t 0)),
 .op (some 41) none (.mv (.t 1)),
 .op (some 42) none (.mv (.t 2)),
 .op (some 43) none (.mv (.t 4)),
 .call (some 44) none (.c (.fn (.func 64) [] [])) [(.t 40), (.t 41), (.t 42), (.t 43)]])
 (.reg [.op (some 45) none (.mv (.t 3)),
 .op (some 46) none (.ibin .sub (.t 45) (.c (.i .i64 1))),
 .op (some 3) none (.mv (.t 46))]))
 (.skip)))
 (.seq (.reg [.op (some 48) none (.mv (.t 0)),
 .op (some 49) none (.mv (.t 1)),
 .op (some 50) none (.mv (.t 2)),
 .op (some 51) none (.mv (.t 4)),
 .call (some 52) none (.c (.fn (.func 65) [] [])) [(.t 48), (.t 49), (.t 50), (.t 51)],
 .op (some 47) none (.mv (.t 52)),
 .op (some 53) none (.ext (.t 47) 0),
 .op (some 54) none (.ext (.t 47) 1),
 .op (some 13) none (.mv (.t 53)),
 .op (some 14) none (.mv (.t 54))])
 (.seq (.seq (.reg [.op (some 55) none (.mv (.t 14)),
 .op (some 56) none (.ibin .eql (.t 55) (.c (.i .i64 2)))])
 (.cond (.t 56)
 (.seq (.reg [.op (some 57) none (.mv (.t 0)),
 .op (some 58) none (.mv (.t 1)),
 .op (some 59) none (.mv (.t 2)),
 .op (some 60) none (.mv (.t 4)),
 .call (some 61) none (.c (.fn (.func 66) [] [])) [(.t 57), (.t 58), (.t 59), (.t 60)]])
 (.seq (.reg [.op (some 62) none (.mv (.t 2)),
 .op (some 63) none (.ibin .sub (.t 62) (.c (.i .i64 1))),
 .op (some 64) none (.mv (.t 13)),
 .op (some 65) none (.mv (.t 1)),
 .op (some 66) none (.ibin .sub (.t 64) (.t 65)),
 .op (some 67) none (.ibin .sub (.t 63) (.t 66)),
 .op (some 13) none (.mv (.t 67))])
 (.reg [.op (some 14) none (.mv (.c (.i .i64 1)))])))
 (.skip)))
 (.seq (.seq (.reg [.op (some 68) none (.mv (.t 10)),
 .op (some 69) none (.mv (.t 68)),
 .op (some 70) (some (69, true)) (.mv (.t 11)),
 .op (some 71) none (.pick (.t 69) (.t 70) (.c (.b false))),
 .op (some 72) none (.mv (.t 71)),
 .op (some 73) (some (72, true)) (.mv (.t 14)),
 .op (some 74) (some (72, true)) (.ibin .eql (.t 73) (.c (.i .i64 1))),
 .op (some 75) none (.pick (.t 72) (.t 74) (.c (.b false)))])
 (.cond (.t 75)
 (.seq (.reg [.op (some 76) none (.mv (.t 0)),
 .op (some 77) none (.mv (.t 1)),
 .op (some 78) none (.mv (.t 2)),
 .op (some 79) none (.mv (.t 4)),
 .call (some 80) none (.c (.fn (.func 67) [] [])) [(.t 76), (.t 77), (.t 78), (.t 79)]])
 (.cond (.t 80)
 (.ret)
 (.skip)))
 (.skip)))
 (.seq (.seq (.dreg [.op (some 81) none (.mv (.t 1)),
 .op (some 82) none (.ibin .gtr (.t 81) (.c (.i .i64 0))),
 .op (some 83) none (.mv (.t 82)),
 .op (some 84) (some (83, true)) (.mv (.t 4)),
 .op (some 85) (some (83, true)) (.mv (.t 0)),
 .op (some 86) (some (83, true)) (.mv (.t 1)),
 .op (some 87) (some (83, true)) (.ibin .sub (.t 86) (.c (.i .i64 1))),
 .op (some 88) (some (83, true)) (.iad 3 (.t 85) (.t 87)),
 .op (some 89) (some (83, true)) (.ldn 3 (.t 88)),
 .op (some 90) (some (83, true)) (.mv (.t 0)),
 .op (some 91) (some (83, true)) (.mv (.t 13)),
 .op (some 92) (some (83, true)) (.iad 3 (.t 90) (.t 91)),
 .op (some 93) (some (83, true)) (.ldn 3 (.t 92)),
 .call (some 94) (some (83, true)) (.t 84) [(.t 89), (.t 93)],
 .op (some 95) (some (83, true)) (.ibin .lss (.t 94) (.c (.i .i64 0))),
 .op (some 96) (some (83, true)) (.un .not (.t 95)),
 .op (some 97) none (.pick (.t 83) (.t 96) (.c (.b false)))]
 [0, 1, 2, 3, 4, 5, 6, 7, 8, 9, 10, 11, 12, 13, 14, 15, 16] [0, 1, 3, 7, 7, 7, 39, 119, 247, 7, 7, 1543, 3591, 8191, 16383, 32767, 65535])
 (.cond (.t 97)
 (.seq (.reg [.op (some 98) none (.mv (.t 0)),
 .op (some 99) none (.mv (.t 1)),
 .op (some 100) none (.mv (.t 2)),
 .op (some 101) none (.mv (.t 13)),
 .op (some 102) none (.mv (.t 4)),
 .call (some 103) none (.c (.fn (.func 68) [] [])) [(.t 98), (.t 99), (.t 100), (.t 101), (.t 102)],
 .op (some 15) none (.mv (.t 103))])
 (.seq (.reg [.op (some 104) none (.mv (.t 15)),
 .op (some 1) none (.mv (.t 104))])
 (.exit 1)))
 (.skip)))
 (.seq (.reg [.op (some 106) none (.mv (.t 0)),
 .op (some 107) none (.mv (.t 1)),
 .op (some 108) none (.mv (.t 2)),
 .op (some 109) none (.mv (.t 13)),
 .op (some 110) none (.mv (.t 4)),
 .call (some 111) none (.c (.fn (.func 69) [] [])) [(.t 106), (.t 107), (.t 108), (.t 109), (.t 110)],
 .op (some 105) none (.mv (.t 111)),
 .op (some 112) none (.ext (.t 105) 0),
 .op (some 113) none (.ext (.t 105) 1),
 .op (some 16) none (.mv (.t 112)),
 .op (some 17) none (.mv (.t 113))])
 (.seq (.reg [.op (some 114) none (.mv (.t 17)),
 .op (some 11) none (.mv (.t 114))])
 (.seq (.reg [.op (some 115) none (.mv (.t 16)),
 .op (some 116) none (.mv (.t 1)),
 .op (some 117) none (.ibin .sub (.t 115) (.t 116)),
 .op (some 118) none (.mv (.t 2)),
 .op (some 119) none (.mv (.t 16)),
 .op (some 120) none (.ibin .sub (.t 118) (.t 119)),
 .op (some 18) none (.mv (.t 117)),
 .op (some 19) none (.mv (.t 120))])
 (.seq (.reg [.op (some 121) none (.mv (.t 12)),
 .op (some 122) none (.ibin .quo (.t 121) (.c (.i .i64 8))),
 .op (some 20) none (.mv (.t 122))])
 (.seq (.reg [.op (some 123) none (.mv (.t 18)),
 .op (some 124) none (.mv (.t 19)),
 .op (some 125) none (.ibin .lss (.t 123) (.t 124))])
 (.cond (.t 125)
 (.seq (.reg [.op (some 126) none (.mv (.t 18)),
 .op (some 127) none (.mv (.t 20)),
 .op (some 128) none (.ibin .geq (.t 126) (.t 127)),
 .op (some 10) none (.mv (.t 128))])
 (.seq (.reg [.op (some 129) none (.mv (.t 0)),
 .op (some 130) none (.mv (.t 1)),
 .op (some 131) none (.mv (.t 16)),
 .op (some 132) none (.mv (.t 3)),
 .op (some 133) none (.mv (.t 4)),
 .call (some 134) none (.c (.fn (.func 49) [] [])) [(.t 129), (.t 130), (.t 131), (.t 132), (.t 133)]])
 (.reg [.op (some 135) none (.mv (.t 16)),
 .op (some 136) none (.ibin .add (.t 135) (.c (.i .i64 1))),
 .op (some 1) none (.mv (.t 136))])))
 (.seq (.reg [.op (some 137) none (.mv (.t 19)),
 .op (some 138) none (.mv (.t 20)),
 .op (some 139) none (.ibin .geq (.t 137) (.t 138)),
 .op (some 10) none (.mv (.t 139))])
 (.seq (.reg [.op (some 140) none (.mv (.t 0)),
 .op (some 141) none (.mv (.t 16)),
 .op (some 142) none (.ibin .add (.t 141) (.c (.i .i64 1))),
 .op (some 143) none (.mv (.t 2)),
 .op (some 144) none (.mv (.t 3)),
 .op (some 145) none (.mv (.t 4)),
 .call (some 146) none (.c (.fn (.func 49) [] [])) [(.t 140), (.t 142), (.t 143), (.t 144), (.t 145)]])
 (.reg [.op (some 147) none (.mv (.t 16)),
 .op (some 2) none (.mv (.t 147))]))))))))))))))))))))),
 []⟩
def k49 : List Nat := [0, 1, 2, 3, 4, 10, 11, 12, 13, 14, 15, 16, 17, 18, 19, 20, 25, 32, 39, 56, 75, 80, 97, 125]
set_option maxRecDepth 100000 in
theorem c49 : compF Go.Proofs.Tryd.prog 5 Go.Proofs.Tryd.f49 = some e49 := by kernel_rfl
/-- math/bits.Len -/
def e50 : IFunc := ⟨8, 1,
 .seq (.reg [.op (some 2) none (.mv (.c (.i .i64 0)))])
 (.seq (.cond (.c (.b false))
 (.seq (.reg [.op (some 3) none (.mv (.t 0)),
 .op (some 4) none (.conv .u32 (.t 3)),
 .call (some 5) none (.c (.fn (.func 70) [] [])) [(.t 4)],
 .op (some 2) none (.mv (.t 5))])
 (.ret))
 (.skip))
 (.seq (.reg [.op (some 6) none (.mv (.t 0)),
 .call (some 7) none (.c (.fn (.func 71) [] [])) [(.t 6)],
 .op (some 2) none (.mv (.t 7))])
 (.ret))),
 [.t 2]⟩
def k50 : List Nat := [0, 2]
set_option maxRecDepth 100000 in
theorem c50 : compF Go.Proofs.Tryd.prog 1 Go.Proofs.Tryd.f50 = some e50 := by kernel_rfl
/-- cmp.isNaN[uint64] -/
def e51 : IFunc := ⟨6, 1,
 .seq (.reg [.op (some 2) none (.mv (.c (.b false)))])
 (.seq (.reg [.op (some 3) none (.mv (.t 0)),
 .op (some 4) none (.mv (.t 0)),
 .op (some 5) none (.ibin .neq (.t 3) (.t 4)),
 .op (some 2) none (.mv (.t 5))])
 (.ret)),
 [.t 2]⟩
def k51 : List Nat := [0, 2]
set_option maxRecDepth 100000 in
theorem c51 : compF Go.Proofs.Tryd.prog 1 Go.Proofs.Tryd.f51 = some e51 := by kernel_rfl
/-- cmp.isNaN[int] -/
def e52 : IFunc := ⟨6, 1,
 .seq (.reg [.op (some 2) none (.mv (.c (.b false)))])
 (.seq (.reg [.op (some 3) none (.mv (.t 0)),
 .op (some 4) none (.mv (.t 0)),
 .op (some 5) none (.ibin .neq (.t 3) (.t 4)),
 .op (some 2) none (.mv (.t 5))])
 (.ret)),
 [.t 2]⟩
def k52 : List Nat := [0, 2]
set_option maxRecDepth 100000 in
theorem c52 : compF Go.Proofs.Tryd.prog 1 Go.Proofs.Tryd.f52 = some e52 := by kernel_rfl
/-- (*sandglass/bitmap.Bits).Next -/
def e55 : IFunc := ⟨62, 2,
 .seq (.reg [.op (some 4) none (.mv (.c (.i .i64 0))),
 .op (some 5) none (.mv (.c (.b false)))])
 (.seq (.reg [.op (some 10) none (.mv (.t 1)),
 .op (some 11) none (.mx false (.t 10) [(.c (.i .i64 0))]),
 .op (some 1) none (.mv (.t 11))])
 (.seq (.seq (.reg [.op (some 12) none (.mv (.t 0)),
 .op (some 13) none (.mv (.t 1)),
 .call (some 14) none (.c (.fn (.func 60) [] [])) [(.t 12), (.t 13)],
 .op (some 15) none (.un .not (.t 14))])
 (.cond (.t 15)
 (.seq (.reg [.op (some 4) none (.mv (.c (.i .i64 0))),
 .op (some 5) none (.mv (.c (.b false)))])
 (.ret))
 (.skip)))
 (.seq (.reg [.op (some 16) none (.mv (.t 1)),
 .op (some 6) none (.mv (.t 16))])
 (.seq (.seq (.reg [.op (some 17) none (.mv (.t 0)),
 .op (some 18) none (.nilchk (.t 17)),
 .op (some 19) none (.fad 0 (.t 18)),
 .op (some 20) none (.ld1 (.t 19)),
 .op (some 21) none (.len 2 (.t 20)),
 .op (some 22) none (.mv (.c (.i .i64 0)))])
 (.block 0
 (.loop
 (.seq (.reg [.op (some 23) none (.ibin .lss (.t 22) (.t 21))])
 (.seq (.cond (.t 23)
 (.skip)
 (.exit 0))
 (.seq (.block 1
 (.seq (.reg [.op (some 24) none (.mv (.t 22)),
 .op (some 7) none (.mv (.t 24))])
 (.seq (.reg [.op (some 25) none (.mv (.t 6)),
 .op (some 26) none (.ibin .shr (.t 25) (.c (.i .u64 6))),
 .op (some 8) none (.mv (.t 26))])
 (.seq (.seq (.reg [.op (some 27) none (.mv (.t 8)),
 .op (some 28) none (.mv (.t 0)),
 .op (some 29) none (.nilchk (.t 28)),
 .op (some 30) none (.fad 0 (.t 29)),
 .op (some 31) none (.ld1 (.t 30)),
 .op (some 32) none (.mv (.t 7)),
 .op (some 33) none (.iad 1 (.t 31) (.t 32)),
 .op (some 34) none (.ld1 (.t 33)),
 .op (some 35) none (.len 2 (.t 34)),
 .op (some 36) none (.ibin .lss (.t 27) (.t 35))])
 (.cond (.t 36)
 (.seq (.reg [.op (some 37) none (.mv (.t 0)),
 .op (some 38) none (.nilchk (.t 37)),
 .op (some 39) none (.fad 0 (.t 38)),
 .op (some 40) none (.ld1 (.t 39)),
 .op (some 41) none (.mv (.t 7)),
 .op (some 42) none (.iad 1 (.t 40) (.t 41)),
 .op (some 43) none (.ld1 (.t 42)),
 .op (some 44) none (.mv (.t 8)),
 .op (some 45) none (.iad 1 (.t 43) (.t 44)),
 .op (some 46) none (.ld1 (.t 45)),
 .op (some 47) none (.mv (.t 6)),
 .op (some 48) none (.ibin .rem (.t 47) (.c (.i .i64 64))),
 .op (some 49) none (.ibin .shr (.t 46) (.t 48)),
 .op (some 9) none (.mv (.t 49))])
 (.seq (.reg [.op (some 50) none (.mv (.t 9)),
 .op (some 51) none (.ibin .neq (.t 50) (.c (.i .u64 0)))])
 (.cond (.t 51)
 (.seq (.reg [.op (some 52) none (.mv (.t 0)),
 .op (some 53) none (.mv (.t 7)),
 .op (some 54) none (.mv (.t 6)),
 .op (some 55) none (.mv (.t 9)),
 .call (some 56) none (.c (.fn (.func 74) [] [])) [(.t 55)],
 .op (some 57) none (.ibin .add (.t 54) (.t 56)),
 .call (some 58) none (.c (.fn (.func 73) [] [])) [(.t 52), (.t 53), (.t 57)],
 .op (some 4) none (.mv (.t 58)),
 .op (some 5) none (.mv (.c (.b true)))])
 (.ret))
 (.skip))))
 (.skip)))
 (.reg [.op (some 59) none (.mv (.t 8)),
 .op (some 60) none (.ibin .add (.t 59) (.c (.i .i64 1))),
 .op (some 6) none (.mv (.t 60))])))))
 (.reg [.op (some 61) none (.ibin .add (.t 22) (.c (.i .i64 1))),
 .op (some 22) none (.mv (.t 61))])))))))
 (.seq (.reg [.op (some 4) none (.mv (.c (.i .i64 0))),
 .op (some 5) none (.mv (.c (.b false)))])
 (.ret)))))),
 [.t 4, .t 5]⟩
def k55 : List Nat := [0, 1, 4, 5, 6, 7, 8, 9, 15, 21, 22, 23, 36, 51]
set_option maxRecDepth 100000 in
theorem c55 : compF Go.Proofs.Tryd.prog 2 Go.Proofs.Tryd.f55 = some e55 := by kernel_rfl
/-- (*sandglass/bitmap.Bits).place -/
def e60 : IFunc := ⟨19, 2,
 .seq (.reg [.op (some 4) none (.mv (.c (.b false)))])
 (.seq (.reg [.op (some 5) none (.mv (.t 0)),
 .op (some 6) none (.eqn 2 true (.t 5) (.c .nilp)),
 .op (some 7) none (.mv (.t 6)),
 .op (some 8) (some (7, true)) (.mv (.t 1)),
 .op (some 9) (some (7, true)) (.ibin .geq (.t 8) (.c (.i .i64 0))),
 .op (some 10) none (.pick (.t 7) (.t 9) (.c (.b false))),
 .op (some 11) none (.mv (.t 10)),
 .op (some 12) (some (11, true)) (.mv (.t 1)),
 .op (some 13) (some (11, true)) (.mv (.t 0)),
 .op (some 14) (some (11, true)) (.nilchk (.t 13)),
 .op (some 15) (some (11, true)) (.fad 1 (.t 14)),
 .op (some 16) (some (11, true)) (.ld1 (.t 15)),
 .op (some 17) (some (11, true)) (.ibin .lss (.t 12) (.t 16)),
 .op (some 18) none (.pick (.t 11) (.t 17) (.c (.b false))),
 .op (some 4) none (.mv (.t 18))])
 (.ret)),
 [.t 4]⟩
def k60 : List Nat := [0, 1, 4]
set_option maxRecDepth 100000 in
theorem c60 : compF Go.Proofs.Tryd.prog 2 Go.Proofs.Tryd.f60 = some e60 := by kernel_rfl
/-- (*sandglass/bitmap.Bits).Has -/
def e61 : IFunc := ⟨25, 2,
 .seq (.reg [.op (some 4) none (.mv (.c (.b false)))])
 (.seq (.reg [.op (some 5) none (.mv (.t 0)),
 .op (some 6) none (.mv (.t 1)),
 .call (some 7) none (.c (.fn (.func 60) [] [])) [(.t 5), (.t 6)],
 .op (some 8) none (.mv (.t 7)),
 .op (some 9) (some (8, true)) (.mv (.t 0)),
 .op (some 10) (some (8, true)) (.nilchk (.t 9)),
 .op (some 11) (some (8, true)) (.fad 0 (.t 10)),
 .op (some 12) (some (8, true)) (.ld1 (.t 11)),
 .op (some 13) (some (8, true)) (.iad 1 (.t 12) (.c (.i .i64 0))),
 .op (some 14) (some (8, true)) (.ld1 (.t 13)),
 .op (some 15) (some (8, true)) (.mv (.t 1)),
 .op (some 16) (some (8, true)) (.ibin .shr (.t 15) (.c (.i .u64 6))),
 .op (some 17) (some (8, true)) (.iad 1 (.t 14) (.t 16)),
 .op (some 18) (some (8, true)) (.ld1 (.t 17)),
 .op (some 19) (some (8, true)) (.mv (.t 1)),
 .op (some 20) (some (8, true)) (.ibin .rem (.t 19) (.c (.i .i64 64))),
 .op (some 21) (some (8, true)) (.ibin .shr (.t 18) (.t 20)),
 .op (some 22) (some (8, true)) (.ibin .and (.t 21) (.c (.i .u64 1))),
 .op (some 23) (some (8, true)) (.ibin .eql (.t 22) (.c (.i .u64 1))),
 .op (some 24) none (.pick (.t 8) (.t 23) (.c (.b false))),
 .op (some 4) none (.mv (.t 24))])
 (.ret)),
 [.t 4]⟩
def k61 : List Nat := [0, 1, 4]
set_option maxRecDepth 100000 in
theorem c61 : compF Go.Proofs.Tryd.prog 2 Go.Proofs.Tryd.f61 = some e61 := by kernel_rfl
/-- slices.insertionSortCmpFunc[sandglass/wheel.thing] -/
def e62 : IFunc := ⟨53, 4,
 .seq (.reg [.op (some 10) none (.mv (.t 1)),
 .op (some 11) none (.ibin .add (.t 10) (.c (.i .i64 1))),
 .op (some 8) none (.mv (.t 11))])
 (.block 0
 (.loop
 (.seq (.seq (.reg [.op (some 12) none (.mv (.t 8)),
 .op (some 13) none (.mv (.t 2)),
 .op (some 14) none (.ibin .lss (.t 12) (.t 13))])
 (.cond (.t 14)
 (.skip)
 (.exit 0)))
 (.seq (.block 1
 (.seq (.reg [.op (some 17) none (.mv (.t 8)),
 .op (some 9) none (.mv (.t 17))])
 (.block 2
 (.loop
 (.seq (.seq (.dreg [.op (some 18) none (.mv (.t 9)),
 .op (some 19) none (.mv (.t 1)),
 .op (some 20) none (.ibin .gtr (.t 18) (.t 19)),
 .op (some 21) none (.mv (.t 20)),
 .op (some 22) (some (21, true)) (.mv (.t 3)),
 .op (some 23) (some (21, true)) (.mv (.t 0)),
 .op (some 24) (some (21, true)) (.mv (.t 9)),
 .op (some 25) (some (21, true)) (.iad 3 (.t 23) (.t 24)),
 .op (some 26) (some (21, true)) (.ldn 3 (.t 25)),
 .op (some 27) (some (21, true)) (.mv (.t 0)),
 .op (some 28) (some (21, true)) (.mv (.t 9)),
 .op (some 29) (some (21, true)) (.ibin .sub (.t 28) (.c (.i .i64 1))),
 .op (some 30) (some (21, true)) (.iad 3 (.t 27) (.t 29)),
 .op (some 31) (some (21, true)) (.ldn 3 (.t 30)),
 .call (some 32) (some (21, true)) (.t 22) [(.t 26), (.t 31)],
 .op (some 33) (some (21, true)) (.ibin .lss (.t 32) (.c (.i .i64 0))),
 .op (some 34) none (.pick (.t 21) (.t 33) (.c (.b false)))]
 [0, 1, 2, 3, 4, 5, 6, 7, 8, 9, 10, 11, 12, 13, 14, 15, 16] [0, 0, 3, 7, 15, 15, 15, 111, 239, 15, 15, 1039, 3599, 7695, 16383, 32767, 65535])
 (.cond (.t 34)
 (.skip)
 (.exit 2)))
 (.seq (.block 3
 (.dreg [.op (some 37) none (.mv (.t 0)),
 .op (some 38) none (.mv (.t 9)),
 .op (some 39) none (.mv (.t 0)),
 .op (some 40) none (.mv (.t 9)),
 .op (some 41) none (.ibin .sub (.t 40) (.c (.i .i64 1))),
 .op (some 42) none (.mv (.t 0)),
 .op (some 43) none (.mv (.t 9)),
 .op (some 44) none (.ibin .sub (.t 43) (.c (.i .i64 1))),
 .op (some 45) none (.iad 3 (.t 42) (.t 44)),
 .op (some 46) none (.ldn 3 (.t 45)),
 .op (some 47) none (.mv (.t 0)),
 .op (some 48) none (.mv (.t 9)),
 .op (some 49) none (.iad 3 (.t 47) (.t 48)),
 .op (some 50) none (.ldn 3 (.t 49)),
 .op (some 51) none (.iad 3 (.t 37) (.t 38)),
 .op none none (.st 3 (.t 51) (.t 46)),
 .op (some 52) none (.iad 3 (.t 39) (.t 41)),
 .op none none (.st 3 (.t 52) (.t 50))]
 [0, 1, 2, 3, 4, 5, 6, 7, 8, 9, 10, 11, 12, 13, 14, 15, 16, 17] [0, 0, 0, 0, 8, 0, 0, 64, 224, 480, 0, 0, 3072, 7168, 16355, 32739, 65535, 131071]))
 (.reg [.op (some 35) none (.mv (.t 9)),
 .op (some 36) none (.ibin .sub (.t 35) (.c (.i .i64 1))),
 .op (some 9) none (.mv (.t 36))])))))))
 (.reg [.op (some 15) none (.mv (.t 8)),
 .op (some 16) none (.ibin .add (.t 15) (.c (.i .i64 1))),
 .op (some 8) none (.mv (.t 16))]))))),
 []⟩
def k62 : List Nat := [0, 1, 2, 3, 8, 9, 14, 34]
set_option maxRecDepth 100000 in
theorem c62 : compF Go.Proofs.Tryd.prog 4 Go.Proofs.Tryd.f62 = some e62 := by kernel_rfl
/-- math/bits.Len32 -/
def e70 : IFunc := ⟨19, 1,
 .seq (.reg [.op (some 2) none (.mv (.c (.i .i64 0)))])
 (.seq (.seq (.reg [.op (some 3) none (.mv (.t 0)),
 .op (some 4) none (.ibin .geq (.t 3) (.c (.i .u32 65536)))])
 (.cond (.t 4)
 (.seq (.reg [.op (some 5) none (.mv (.t 0)),
 .op (some 6) none (.ibin .shr (.t 5) (.c (.i .u64 16))),
 .op (some 0) none (.mv (.t 6))])
 (.reg [.op (some 2) none (.mv (.c (.i .i64 16)))]))
 (.skip)))
 (.seq (.seq (.reg [.op (some 7) none (.mv (.t 0)),
 .op (some 8) none (.ibin .geq (.t 7) (.c (.i .u32 256)))])
 (.cond (.t 8)
 (.seq (.reg [.op (some 9) none (.mv (.t 0)),
 .op (some 10) none (.ibin .shr (.t 9) (.c (.i .u64 8))),
 .op (some 0) none (.mv (.t 10))])
 (.reg [.op (some 11) none (.mv (.t 2)),
 .op (some 12) none (.ibin .add (.t 11) (.c (.i .i64 8))),
 .op (some 2) none (.mv (.t 12))]))
 (.skip)))
 (.seq (.reg [.op (some 13) none (.mv (.t 2)),
 .op (some 14) none (.mv (.t 0)),
 .op (some 15) none (.conv .u8 (.t 14)),
 .op (some 16) none (.ixs (.c (.s ⟨#[0, 1, 2, 2, 3, 3, 3, 3, 4, 4, 4, 4, 4, 4, 4, 4, 5, 5, 5, 5, 5, 5, 5, 5, 5, 5, 5, 5, 5, 5, 5, 5, 6, 6, 6, 6, 6, 6, 6, 6, 6, 6, 6, 6, 6, 6, 6, 6, 6, 6, 6, 6, 6, 6, 6, 6, 6, 6, 6, 6, 6, 6, 6, 6, 7, 7, 7, 7, 7, 7, 7, 7, 7, 7, 7, 7, 7, 7, 7, 7, 7, 7, 7, 7, 7, 7, 7, 7, 7, 7, 7, 7, 7, 7, 7, 7, 7, 7, 7, 7, 7, 7, 7, 7, 7, 7, 7, 7, 7, 7, 7, 7, 7, 7, 7, 7, 7, 7, 7, 7, 7, 7, 7, 7, 7, 7, 7, 7, 8, 8, 8, 8, 8, 8, 8, 8, 8, 8, 8, 8, 8, 8, 8, 8, 8, 8, 8, 8, 8, 8, 8, 8, 8, 8, 8, 8, 8, 8, 8, 8, 8, 8, 8, 8, 8, 8, 8, 8, 8, 8, 8, 8, 8, 8, 8, 8, 8, 8, 8, 8, 8, 8, 8, 8, 8, 8, 8, 8, 8, 8, 8, 8, 8, 8, 8, 8, 8, 8, 8, 8, 8, 8, 8, 8, 8, 8, 8, 8, 8, 8, 8, 8, 8, 8, 8, 8, 8, 8, 8, 8, 8, 8, 8, 8, 8, 8, 8, 8, 8, 8, 8, 8, 8, 8, 8, 8, 8, 8, 8, 8, 8, 8, 8, 8, 8, 8, 8, 8, 8, 8, 8, 8, 8, 8, 8, 8]⟩)) (.t 15)),
 .op (some 17) none (.conv .i64 (.t 16)),
 .op (some 18) none (.ibin .add (.t 13) (.t 17)),
 .op (some 2) none (.mv (.t 18))])
 (.ret)))),
 [.t 2]⟩
def k70 : List Nat := [0, 2, 4, 8]
set_option maxRecDepth 100000 in
theorem c70 : compF Go.Proofs.Tryd.prog 1 Go.Proofs.Tryd.f70 = some e70 := by kernel_rfl
/-- math/bits.Len64 -/
def e71 : IFunc := ⟨25, 1,
 .seq (.reg [.op (some 2) none (.mv (.c (.i .i64 0)))])
 (.seq (.seq (.reg [.op (some 3) none (.mv (.t 0)),
 .op (some 4) none (.ibin .geq (.t 3) (.c (.i .u64 4294967296)))])
 (.cond (.t 4)
 (.seq (.reg [.op (some 5) none (.mv (.t 0)),
 .op (some 6) none (.ibin .shr (.t 5) (.c (.i .u64 32))),
 .op (some 0) none (.mv (.t 6))])
 (.reg [.op (some 2) none (.mv (.c (.i .i64 32)))]))
 (.skip)))
 (.seq (.seq (.reg [.op (some 7) none (.mv (.t 0)),
 .op (some 8) none (.ibin .geq (.t 7) (.c (.i .u64 65536)))])
 (.cond (.t 8)
 (.seq (.reg [.op (some 9) none (.mv (.t 0)),
 .op (some 10) none (.ibin .shr (.t 9) (.c (.i .u64 16))),
 .op (some 0) none (.mv (.t 10))])
 (.reg [.op (some 11) none (.mv (.t 2)),
 .op (some 12) none (.ibin .add (.t 11) (.c (.i .i64 16))),
 .op (some 2) none (.mv (.t 12))]))
 (.skip)))
 (.seq (.seq (.reg [.op (some 13) none (.mv (.t 0)),
 .op (some 14) none (.ibin .geq (.t 13) (.c (.i .u64 256)))])
 (.cond (.t 14)
 (.seq (.reg [.op (some 15) none (.mv (.t 0)),
 .op (some 16) none (.ibin .shr (.t 15) (.c (.i .u64 8))),
 .op (some 0) none (.mv (.t 16))])
 (.reg [.op (some 17) none (.mv (.t 2)),
 .op (some 18) none (.ibin .add (.t 17) (.c (.i .i64 8))),
 .op (some 2) none (.mv (.t 18))]))
 (.skip)))
 (.seq (.reg [.op (some 19) none (.mv (.t 2)),
 .op (some 20) none (.mv (.t 0)),
 .op (some 21) none (.conv .u8 (.t 20)),
 .op (some 22) none (.ixs (.c (.s ⟨#[0, 1, 2, 2, 3, 3, 3, 3, 4, 4, 4, 4, 4, 4, 4, 4, 5, 5, 5, 5, 5, 5, 5, 5, 5, 5, 5, 5, 5, 5, 5, 5, 6, 6, 6, 6, 6, 6, 6, 6, 6, 6, 6, 6, 6, 6, 6, 6, 6, 6, 6, 6, 6, 6, 6, 6, 6, 6, 6, 6, 6, 6, 6, 6, 7, 7, 7, 7, 7, 7, 7, 7, 7, 7, 7, 7, 7, 7, 7, 7, 7, 7, 7, 7, 7, 7, 7, 7, 7, 7, 7, 7, 7, 7, 7, 7, 7, 7, 7, 7, 7, 7, 7, 7, 7, 7, 7, 7, 7, 7, 7, 7, 7, 7, 7, 7, 7, 7, 7, 7, 7, 7, 7, 7, 7, 7, 7, 7, 8, 8, 8, 8, 8, 8, 8, 8, 8, 8, 8, 8, 8, 8, 8, 8, 8, 8, 8, 8, 8, 8, 8, 8, 8, 8, 8, 8, 8, 8, 8, 8, 8, 8, 8, 8, 8, 8, 8, 8, 8, 8, 8, 8, 8, 8, 8, 8, 8, 8, 8, 8, 8, 8, 8, 8, 8, 8, 8, 8, 8, 8, 8, 8, 8, 8, 8, 8, 8, 8, 8, 8, 8, 8, 8, 8, 8, 8, 8, 8, 8, 8, 8, 8, 8, 8, 8, 8, 8, 8, 8, 8, 8, 8, 8, 8, 8, 8, 8, 8, 8, 8, 8, 8, 8, 8, 8, 8, 8, 8, 8, 8, 8, 8, 8, 8, 8, 8, 8, 8, 8, 8, 8, 8, 8, 8, 8, 8]⟩)) (.t 21)),
 .op (some 23) none (.conv .i64 (.t 22)),
 .op (some 24) none (.ibin .add (.t 19) (.t 23)),
 .op (some 2) none (.mv (.t 24))])
 (.ret))))),
 [.t 2]⟩
def k71 : List Nat := [0, 2, 4, 8, 14]
set_option maxRecDepth 100000 in
theorem c71 : compF Go.Proofs.Tryd.prog 1 Go.Proofs.Tryd.f71 = some e71 := by kernel_rfl
/-- (*sandglass/bitmap.Bits).down -/
def e73 : IFunc := ⟨31, 3,
 .seq (.reg [.op (some 6) none (.mv (.c (.i .i64 0)))])
 (.seq (.seq (.reg [.op (some 8) none (.mv (.t 1)),
 .op (some 9) none (.mv (.c (.i .i64 0)))])
 (.block 0
 (.loop
 (.seq (.reg [.op (some 10) none (.ibin .lss (.t 9) (.t 8))])
 (.seq (.cond (.t 10)
 (.skip)
 (.exit 0))
 (.seq (.block 1
 (.seq (.reg [.op (some 11) none (.mv (.t 9)),
 .op (some 7) none (.mv (.t 11))])
 (.reg [.op (some 12) none (.mv (.t 2)),
 .op (some 13) none (.ibin .shl (.t 12) (.c (.i .u64 6))),
 .op (some 14) none (.mv (.t 0)),
 .op (some 15) none (.nilchk (.t 14)),
 .op (some 16) none (.fad 0 (.t 15)),
 .op (some 17) none (.ld1 (.t 16)),
 .op (some 18) none (.mv (.t 1)),
 .op (some 19) none (.ibin .sub (.t 18) (.c (.i .i64 1))),
 .op (some 20) none (.mv (.t 7)),
 .op (some 21) none (.ibin .sub (.t 19) (.t 20)),
 .op (some 22) none (.iad 1 (.t 17) (.t 21)),
 .op (some 23) none (.ld1 (.t 22)),
 .op (some 24) none (.mv (.t 2)),
 .op (some 25) none (.iad 1 (.t 23) (.t 24)),
 .op (some 26) none (.ld1 (.t 25)),
 .call (some 27) none (.c (.fn (.func 74) [] [])) [(.t 26)],
 .op (some 28) none (.ibin .add (.t 13) (.t 27)),
 .op (some 2) none (.mv (.t 28))])))
 (.reg [.op (some 29) none (.ibin .add (.t 9) (.c (.i .i64 1))),
 .op (some 9) none (.mv (.t 29))])))))))
 (.seq (.reg [.op (some 30) none (.mv (.t 2)),
 .op (some 6) none (.mv (.t 30))])
 (.ret))),
 [.t 6]⟩
def k73 : List Nat := [0, 1, 2, 6, 7, 8, 9, 10]
set_option maxRecDepth 100000 in
theorem c73 : compF Go.Proofs.Tryd.prog 3 Go.Proofs.Tryd.f73 = some e73 := by kernel_rfl
end Go.Proofs.YtmdilnelogechaaDoor.IR
