/- This text of a proof shows: . -/
import Derived.Test.YtmdilnelogechaaDoorProg
import Derived.Test.YtmdilnelogechaaDoorEvE
import Derived.KernelRfl
set_option linter.unusedVariables false
set_option linter.unusedSimpArgs false
set_option linter.constructorNameAsVariable false
namespace Go.Proofs.YtmdilnelogechaaDoor.IR
open Go Go.Proofs.YtmdilnelogechaaDoor.Ev
def mvT (a b : Nat) : RItem := .op (some a) none (.mv (.t b))
def opT (a : Nat) (b : IOp) : RItem := .op (some a) none b
def onT (a g : Nat) (b : IOp) : RItem := .op (some a) (some (g, true)) b
def unT (a g : Nat) (b : IOp) : RItem := .op (some a) (some (g, false)) b
def clT (a f : Nat) (l : List Opd) : RItem := .call (some a) none (.c (.fn (.func f) [] [])) l
/-- gosem.cut.init -/
def e2 : IFunc := ⟨1, 0,
 .reg [clT 0 1 []],
 []⟩
def k2 : List Nat := []
set_option maxRecDepth 100000 in
theorem c2 : compF Go.Proofs.Tryd.prog 0 Go.Proofs.Tryd.f2 = some e2 := by kernel_rfl
/-- sandglass/sandglasslaw09.WheelDue -/
def e3 : IFunc := ⟨171, 3,
 .seq (.reg [opT 6 (.mv (.c (.b false)))])
 (.seq (.reg [mvT 26 0,
 mvT 27 1,
 clT 28 9 [(.t 26), (.t 27)],
 mvT 25 28,
 opT 29 (.ext (.t 25) 0),
 opT 30 (.ext (.t 25) 1),
 opT 31 (.ext (.t 25) 2),
 mvT 7 29,
 mvT 8 30,
 mvT 9 31])
 (.seq (.seq (.reg [mvT 32 9,
 opT 33 (.un .not (.t 32))])
 (.cond (.t 33)
 (.seq (.reg [opT 6 (.mv (.c (.b false)))])
 (.ret))
 (.skip)))
 (.seq (.reg [opT 10 (.mv (.c .nils))])
 (.seq (.reg [opT 11 (.mv (.c .nils))])
 (.seq (.reg [opT 12 (.mv (.c (.i .u64 0)))])
 (.seq (.seq (.reg [mvT 34 2,
 mvT 35 2,
 opT 36 (.len 2 (.t 35)),
 opT 37 (.mx true (.t 36) [(.c (.i .i64 80))]),
 opT 38 (.slice 3 (.t 34) none (some (.t 37))),
 opT 39 (.len 2 (.t 38)),
 opT 40 (.mv (.c (.i .i64 0)))])
 (.block 0
 (.loop
 (.seq (.reg [opT 41 (.ibin .lss (.t 40) (.t 39))])
 (.seq (.cond (.t 41)
 (.skip)
 (.exit 0))
 (.seq (.block 1
 (.seq (.reg [opT 42 (.iad 3 (.t 38) (.t 40)),
 opT 43 (.ldn 3 (.t 42)),
 opT 14 (.box (.c (.agg [(.i .u8 0), (.i .u64 0), (.i .u64 0)]))),
 .op none none (.st 3 (.t 14) (.t 43))])
 (.seq (.seq (.reg [opT 44 (.fad 0 (.t 14)),
 opT 45 (.ld1 (.t 44)),
 opT 46 (.ibin .eql (.t 45) (.c (.i .u8 1)))])
 (.cond (.t 46)
 (.seq (.seq (.reg [mvT 47 7,
 mvT 48 10,
 opT 49 (.len 2 (.t 48)),
 opT 50 (.conv .u64 (.t 49)),
 opT 51 (.fad 2 (.t 14)),
 opT 52 (.ld1 (.t 51)),
 clT 53 10 [(.t 47), (.t 50), (.t 52)],
 opT 54 (.ibin .neq (.t 53) (.c (.i .i64 0)))])
 (.cond (.t 54)
 (.seq (.reg [opT 6 (.mv (.c (.b false)))])
 (.ret))
 (.skip)))
 (.seq (.reg [mvT 55 10,
 opT 56 (.fad 2 (.t 14)),
 opT 57 (.ld1 (.t 56)),
 opT 58 (.bslice 1 1 [(.i .u64 0)] [(0, 1, (.t 57))]),
 opT 59 (.app 1 8 (.t 55) (.t 58)),
 mvT 60 11,
 opT 61 (.bslice 1 1 [(.b false)] [(0, 1, (.c (.b false)))]),
 opT 62 (.app 1 1 (.t 60) (.t 61)),
 mvT 10 59,
 mvT 11 62])
 (.exit 1)))
 (.skip)))
 (.seq (.reg [mvT 63 12,
 opT 64 (.fad 2 (.t 14)),
 opT 65 (.ld1 (.t 64)),
 opT 66 (.mx false (.t 63) [(.t 65)]),
 mvT 12 66])
 (.seq (.reg [mvT 67 7,
 opT 68 (.fad 2 (.t 14)),
 opT 69 (.ld1 (.t 68)),
 clT 70 11 [(.t 67), (.t 69)],
 mvT 15 70])
 (.seq (.reg [opT 16 (.mv (.c (.i .i64 (-1))))])
 (.seq (.seq (.reg [mvT 71 15,
 opT 72 (.mv (.c (.i .i64 0)))])
 (.block 2
 (.loop
 (.seq (.reg [opT 73 (.ibin .lss (.t 72) (.t 71))])
 (.seq (.cond (.t 73)
 (.skip)
 (.exit 2))
 (.seq (.block 3
 (.seq (.reg [mvT 75 7,
 clT 76 12 [(.t 75)],
 mvT 74 76,
 opT 77 (.ext (.t 74) 0),
 opT 78 (.ext (.t 74) 1),
 mvT 17 77,
 mvT 18 78])
 (.seq (.seq (.reg [mvT 79 18,
 opT 80 (.un .not (.t 79)),
 mvT 81 80,
 unT 82 81 (.mv (.t 17)),
 unT 83 81 (.mv (.t 10)),
 unT 84 81 (.len 2 (.t 83)),
 unT 85 81 (.conv .u64 (.t 84)),
 unT 86 81 (.ibin .geq (.t 82) (.t 85)),
 opT 87 (.pick (.t 81) (.c (.b true)) (.t 86)),
 mvT 88 87,
 unT 89 88 (.mv (.t 11)),
 unT 90 88 (.mv (.t 17)),
 unT 91 88 (.iad 1 (.t 89) (.t 90)),
 unT 92 88 (.ld1 (.t 91)),
 opT 93 (.pick (.t 88) (.c (.b true)) (.t 92)),
 mvT 94 93,
 unT 95 94 (.mv (.t 10)),
 unT 96 94 (.mv (.t 17)),
 unT 97 94 (.iad 1 (.t 95) (.t 96)),
 unT 98 94 (.ld1 (.t 97)),
 unT 99 94 (.mv (.t 12)),
 unT 100 94 (.ibin .gtr (.t 98) (.t 99)),
 opT 101 (.pick (.t 94) (.c (.b true)) (.t 100))])
 (.cond (.t 101)
 (.seq (.reg [opT 6 (.mv (.c (.b false)))])
 (.ret))
 (.skip)))
 (.seq (.reg [mvT 102 11,
 mvT 103 17,
 opT 104 (.iad 1 (.t 102) (.t 103)),
 .op none none (.st 1 (.t 104) (.c (.b true)))])
 (.seq (.seq (.reg [mvT 105 16,
 opT 106 (.ibin .geq (.t 105) (.c (.i .i64 0)))])
 (.cond (.t 106)
 (.seq (.dreg [mvT 107 10,
 mvT 108 16,
 opT 109 (.iad 1 (.t 107) (.t 108)),
 opT 110 (.ld1 (.t 109)),
 mvT 111 8,
 clT 112 13 [(.t 110), (.t 111)],
 mvT 113 10,
 mvT 114 17,
 opT 115 (.iad 1 (.t 113) (.t 114)),
 opT 116 (.ld1 (.t 115)),
 mvT 117 8,
 clT 118 13 [(.t 116), (.t 117)],
 mvT 19 112,
 mvT 20 118]
 [0, 1, 2, 3, 4, 6, 7, 8, 9, 10, 5, 11, 12, 13] [0, 0, 3, 7, 0, 31, 0, 0, 192, 448, 0, 2047, 4095, 8191])
 (.seq (.reg [mvT 119 19,
 mvT 120 20,
 opT 121 (.ibin .gtr (.t 119) (.t 120)),
 mvT 122 121,
 unT 123 122 (.mv (.t 19)),
 unT 124 122 (.mv (.t 20)),
 unT 125 122 (.ibin .eql (.t 123) (.t 124)),
 unT 126 122 (.mv (.t 125)),
 onT 127 126 (.mv (.t 16)),
 onT 128 126 (.mv (.t 17)),
 onT 129 126 (.conv .i64 (.t 128)),
 onT 130 126 (.ibin .gtr (.t 127) (.t 129)),
 unT 131 122 (.pick (.t 126) (.t 130) (.c (.b false))),
 opT 132 (.pick (.t 122) (.c (.b true)) (.t 131))])
 (.cond (.t 132)
 (.seq (.reg [opT 6 (.mv (.c (.b false)))])
 (.ret))
 (.skip))))
 (.skip)))
 (.reg [mvT 133 17,
 opT 134 (.conv .i64 (.t 133)),
 mvT 16 134]))))))
 (.reg [opT 135 (.ibin .add (.t 72) (.c (.i .i64 1))),
 mvT 72 135])))))))
 (.seq (.seq (.reg [mvT 136 10,
 opT 137 (.len 2 (.t 136)),
 opT 138 (.mv (.c (.i .i64 0)))])
 (.block 4
 (.loop
 (.seq (.reg [opT 139 (.ibin .lss (.t 138) (.t 137))])
 (.seq (.cond (.t 139)
 (.skip)
 (.exit 4))
 (.seq (.block 5
 (.seq (.reg [mvT 140 138,
 opT 141 (.iad 1 (.t 136) (.t 138)),
 opT 142 (.ld1 (.t 141)),
 mvT 21 140,
 mvT 22 142])
 (.seq (.dreg [mvT 143 11,
 mvT 144 21,
 opT 145 (.iad 1 (.t 143) (.t 144)),
 opT 146 (.ld1 (.t 145)),
 opT 147 (.un .not (.t 146)),
 mvT 148 147,
 onT 149 148 (.mv (.t 22)),
 onT 150 148 (.mv (.t 8)),
 .call (some 151) (some (148, true)) (.c (.fn (.func 13) [] [])) [(.t 149), (.t 150)],
 onT 152 148 (.mv (.t 12)),
 onT 153 148 (.mv (.t 8)),
 onT 154 148 (.ibin .quo (.t 152) (.t 153)),
 onT 155 148 (.ibin .leq (.t 151) (.t 154)),
 opT 156 (.pick (.t 148) (.t 155) (.c (.b false)))]
 [0, 1, 2, 3, 4, 5, 6, 7, 9, 10, 11, 8, 12, 13] [0, 0, 3, 7, 15, 31, 63, 63, 255, 63, 63, 1599, 4095, 8191])
 (.cond (.t 156)
 (.seq (.reg [opT 6 (.mv (.c (.b false)))])
 (.ret))
 (.skip)))))
 (.reg [opT 157 (.ibin .add (.t 138) (.c (.i .i64 1))),
 mvT 138 157])))))))
 (.seq (.reg [mvT 159 7,
 clT 160 12 [(.t 159)],
 mvT 158 160,
 opT 161 (.ext (.t 158) 0),
 opT 162 (.ext (.t 158) 1),
 mvT 23 161,
 mvT 24 162])
 (.seq (.reg [mvT 163 24,
 mvT 164 163,
 unT 165 164 (.mv (.t 7)),
 .call (some 166) (some (164, false)) (.c (.fn (.func 14) [] [])) [(.t 165)],
 unT 167 164 (.ibin .neq (.t 166) (.c (.i .i64 0))),
 opT 168 (.pick (.t 164) (.c (.b true)) (.t 167))])
 (.cond (.t 168)
 (.seq (.reg [opT 6 (.mv (.c (.b false)))])
 (.ret))
 (.skip))))))))))))
 (.reg [opT 169 (.ibin .add (.t 40) (.c (.i .i64 1))),
 mvT 40 169])))))))
 (.seq (.reg [clT 170 15 [],
 mvT 6 170])
 (.ret)))))))),
 [.t 6]⟩
def k3 : List Nat := [0, 1, 2, 6, 7, 8, 9, 10, 11, 12, 14, 15, 16, 17, 18, 19, 20, 21, 22, 24, 33, 38, 39, 40, 41, 46, 54, 71, 72, 73, 101, 106, 132, 136, 137, 138, 139, 156, 168]
set_option maxRecDepth 100000 in
theorem c3 : compF Go.Proofs.Tryd.prog 3 Go.Proofs.Tryd.f3 = some e3 := by kernel_rfl
/-- sandglass/sandglasslaw09.WheelNext -/
def e4 : IFunc := ⟨129, 4,
 .seq (.reg [opT 8 (.mv (.c (.b false)))])
 (.seq (.reg [mvT 22 0,
 mvT 23 1,
 clT 24 9 [(.t 22), (.t 23)],
 mvT 21 24,
 opT 25 (.ext (.t 21) 0),
 opT 26 (.ext (.t 21) 1),
 opT 27 (.ext (.t 21) 2),
 mvT 9 25,
 mvT 10 26,
 mvT 11 27])
 (.seq (.seq (.reg [mvT 28 11,
 opT 29 (.un .not (.t 28))])
 (.cond (.t 29)
 (.seq (.reg [opT 8 (.mv (.c (.b false)))])
 (.ret))
 (.skip)))
 (.seq (.seq (.reg [mvT 30 2,
 mvT 31 2,
 opT 32 (.len 2 (.t 31)),
 opT 33 (.mx true (.t 32) [(.c (.i .i64 60))]),
 opT 34 (.slice 3 (.t 30) none (some (.t 33))),
 opT 35 (.len 2 (.t 34)),
 opT 36 (.mv (.c (.i .i64 0)))])
 (.block 0
 (.loop
 (.seq (.reg [opT 37 (.ibin .lss (.t 36) (.t 35))])
 (.seq (.cond (.t 37)
 (.skip)
 (.exit 0))
 (.seq (.block 1
 (.seq (.reg [opT 38 (.iad 3 (.t 34) (.t 36)),
 opT 39 (.ldn 3 (.t 38)),
 opT 13 (.box (.c (.agg [(.i .u8 0), (.i .u64 0), (.i .u64 0)]))),
 .op none none (.st 3 (.t 13) (.t 39))])
 (.seq (.reg [opT 40 (.fad 0 (.t 13)),
 opT 41 (.ld1 (.t 40))])
 (.block 2
 (.seq (.reg [opT 43 (.ibin .eql (.t 41) (.c (.i .u8 1))),
 mvT 42 43])
 (.cond (.t 42)
 (.reg [mvT 44 9,
 opT 45 (.fad 1 (.t 13)),
 opT 46 (.ld1 (.t 45)),
 opT 47 (.fad 2 (.t 13)),
 opT 48 (.ld1 (.t 47)),
 clT 49 10 [(.t 44), (.t 46), (.t 48)]])
 (.seq (.reg [opT 51 (.ibin .eql (.t 41) (.c (.i .u8 2))),
 mvT 50 51])
 (.cond (.t 50)
 (.reg [mvT 52 9,
 opT 53 (.fad 2 (.t 13)),
 opT 54 (.ld1 (.t 53)),
 clT 55 11 [(.t 52), (.t 54)]])
 (.skip)))))))))
 (.reg [opT 56 (.ibin .add (.t 36) (.c (.i .i64 1))),
 mvT 36 56])))))))
 (.seq (.reg [mvT 58 9,
 clT 59 16 [(.t 58)],
 mvT 57 59,
 opT 60 (.ext (.t 57) 0),
 opT 61 (.ext (.t 57) 1),
 mvT 14 60,
 mvT 15 61])
 (.seq (.seq (.reg [mvT 62 15,
 mvT 63 9,
 clT 64 17 [(.t 63)],
 opT 65 (.ibin .gtr (.t 64) (.c (.i .i64 0))),
 opT 66 (.eqn 1 true (.t 62) (.t 65))])
 (.cond (.t 66)
 (.seq (.reg [opT 8 (.mv (.c (.b false)))])
 (.ret))
 (.skip)))
 (.seq (.seq (.reg [mvT 67 15,
 opT 68 (.un .not (.t 67)),
 mvT 69 68,
 unT 70 69 (.mv (.t 14)),
 unT 71 69 (.ibin .eql (.t 70) (.c (.i .u64 0))),
 opT 72 (.pick (.t 69) (.c (.b true)) (.t 71)),
 mvT 73 72,
 unT 74 73 (.mv (.t 14)),
 unT 75 73 (.ibin .eql (.t 74) (.c (.i .u64 18446744073709551615))),
 opT 76 (.pick (.t 73) (.c (.b true)) (.t 75))])
 (.cond (.t 76)
 (.seq (.reg [clT 77 15 [],
 mvT 8 77])
 (.ret))
 (.skip)))
 (.seq (.reg [mvT 78 9,
 clT 79 19 [(.t 78)],
 mvT 80 10,
 clT 81 18 [(.t 79), (.t 80)],
 mvT 16 81])
 (.seq (.seq (.reg [mvT 82 14,
 mvT 83 16,
 opT 84 (.ibin .gtr (.t 82) (.t 83))])
 (.cond (.t 84)
 (.seq (.reg [mvT 85 9,
 mvT 86 14,
 opT 87 (.ibin .sub (.t 86) (.c (.i .u64 1))),
 mvT 88 3,
 mvT 89 14,
 opT 90 (.ibin .rem (.t 88) (.t 89)),
 opT 91 (.ibin .sub (.t 87) (.t 90)),
 clT 92 11 [(.t 85), (.t 91)],
 opT 93 (.ibin .neq (.t 92) (.c (.i .i64 0)))])
 (.cond (.t 93)
 (.seq (.reg [opT 8 (.mv (.c (.b false)))])
 (.ret))
 (.skip)))
 (.skip)))
 (.seq (.reg [mvT 94 9,
 clT 95 17 [(.t 94)],
 mvT 17 95])
 (.seq (.reg [mvT 96 9,
 mvT 97 14,
 clT 98 11 [(.t 96), (.t 97)],
 mvT 18 98])
 (.seq (.reg [mvT 100 9,
 clT 101 16 [(.t 100)],
 mvT 99 101,
 opT 102 (.ext (.t 99) 0),
 opT 103 (.ext (.t 99) 1),
 mvT 19 102,
 mvT 20 103])
 (.seq (.reg [mvT 104 20,
 opT 105 (.un .not (.t 104)),
 mvT 106 105,
 unT 107 106 (.mv (.t 19)),
 unT 108 106 (.mv (.t 14)),
 unT 109 106 (.ibin .gtr (.t 107) (.t 108)),
 opT 110 (.pick (.t 106) (.c (.b true)) (.t 109)),
 mvT 111 110,
 onT 112 111 (.mv (.t 18)),
 onT 113 111 (.ibin .gtr (.t 112) (.c (.i .i64 0))),
 onT 114 111 (.mv (.t 113)),
 unT 115 114 (.mv (.t 20)),
 onT 116 111 (.pick (.t 114) (.c (.b true)) (.t 115)),
 opT 117 (.pick (.t 111) (.t 116) (.c (.b false))),
 mvT 118 117,
 onT 119 118 (.mv (.t 9)),
 .call (some 120) (some (118, true)) (.c (.fn (.func 17) [] [])) [(.t 119)],
 onT 121 118 (.mv (.t 17)),
 onT 122 118 (.mv (.t 18)),
 onT 123 118 (.ibin .sub (.t 121) (.t 122)),
 onT 124 118 (.ibin .eql (.t 120) (.t 123)),
 opT 125 (.pick (.t 118) (.t 124) (.c (.b false))),
 mvT 126 125,
 .call (some 127) (some (126, true)) (.c (.fn (.func 15) [] [])) [],
 opT 128 (.pick (.t 126) (.t 127) (.c (.b false))),
 mvT 8 128])
 (.ret))))))))))))),
 [.t 8]⟩
def k4 : List Nat := [0, 1, 2, 3, 8, 9, 10, 11, 13, 14, 15, 16, 17, 18, 19, 20, 29, 34, 35, 36, 37, 41, 42, 50, 66, 76, 84, 93]
set_option maxRecDepth 100000 in
theorem c4 : compF Go.Proofs.Tryd.prog 4 Go.Proofs.Tryd.f4 = some e4 := by kernel_rfl
/-- sandglass/sandglasslaw09.WheelTells -/
def e5 : IFunc := ⟨191, 4,
 .seq (.reg [opT 8 (.mv (.c (.b false)))])
 (.seq (.reg [mvT 31 0,
 mvT 32 1,
 mvT 33 2,
 clT 34 20 [(.t 31), (.t 32), (.t 33)],
 mvT 30 34,
 opT 35 (.ext (.t 30) 0),
 opT 36 (.ext (.t 30) 1),
 mvT 9 35,
 mvT 10 36])
 (.seq (.reg [mvT 38 0,
 mvT 39 1,
 mvT 40 2,
 clT 41 21 [(.t 38), (.t 39), (.t 40)],
 mvT 37 41,
 opT 42 (.ext (.t 37) 0),
 opT 43 (.ext (.t 37) 1),
 opT 11 (.box (.c (.agg [(.i .i64 0), (.i .u64 0), (.i .i64 0), (.i .u64 0), .nils, .nils]))),
 .op none none (.st 6 (.t 11) (.t 42)),
 mvT 12 43])
 (.seq (.seq (.reg [mvT 44 10,
 opT 45 (.ibin .eql (.t 44) (.c (.i .i64 0))),
 mvT 46 12,
 opT 47 (.eqn 1 true (.t 45) (.t 46)),
 mvT 48 47,
 unT 49 48 (.mv (.t 12)),
 unT 50 48 (.un .not (.t 49)),
 unT 51 48 (.mv (.t 50)),
 onT 52 51 (.mv (.t 10)),
 onT 53 51 (.ibin .neq (.t 52) (.c (.i .i64 2))),
 onT 54 51 (.mv (.t 53)),
 unT 55 54 (.mv (.t 9)),
 unT 56 54 (.eqn 2 true (.t 55) (.c .nilp)),
 onT 57 51 (.pick (.t 54) (.c (.b true)) (.t 56)),
 unT 58 48 (.pick (.t 51) (.t 57) (.c (.b false))),
 opT 59 (.pick (.t 48) (.c (.b true)) (.t 58))])
 (.cond (.t 59)
 (.seq (.reg [opT 8 (.mv (.c (.b false)))])
 (.ret))
 (.skip)))
 (.seq (.seq (.reg [mvT 60 12,
 opT 61 (.un .not (.t 60)),
 mvT 62 61,
 unT 63 62 (.mv (.t 0)),
 unT 64 62 (.ibin .gtr (.t 63) (.c (.i .i64 70))),
 opT 65 (.pick (.t 62) (.c (.b true)) (.t 64)),
 mvT 66 65,
 unT 67 66 (.mv (.t 3)),
 unT 68 66 (.len 2 (.t 67)),
 unT 69 66 (.ibin .gtr (.t 68) (.c (.i .i64 60))),
 opT 70 (.pick (.t 66) (.c (.b true)) (.t 69))])
 (.cond (.t 70)
 (.seq (.reg [clT 71 15 [],
 mvT 8 71])
 (.ret))
 (.skip)))
 (.seq (.seq (.reg [mvT 72 3,
 opT 73 (.len 2 (.t 72)),
 opT 74 (.mv (.c (.i .i64 0)))])
 (.block 0
 (.loop
 (.seq (.reg [opT 75 (.ibin .lss (.t 74) (.t 73))])
 (.seq (.cond (.t 75)
 (.skip)
 (.exit 0))
 (.seq (.block 1
 (.seq (.reg [opT 76 (.iad 3 (.t 72) (.t 74)),
 opT 77 (.ldn 3 (.t 76)),
 opT 14 (.box (.c (.agg [(.i .u8 0), (.i .u64 0), (.i .u64 0)]))),
 .op none none (.st 3 (.t 14) (.t 77))])
 (.seq (.seq (.reg [opT 78 (.fad 0 (.t 14)),
 opT 79 (.ld1 (.t 78))])
 (.block 2
 (.seq (.reg [opT 81 (.ibin .eql (.t 79) (.c (.i .u8 1))),
 mvT 80 81])
 (.cond (.t 80)
 (.seq (.reg [mvT 82 9,
 opT 83 (.fad 1 (.t 14)),
 opT 84 (.ld1 (.t 83)),
 opT 85 (.fad 2 (.t 14)),
 opT 86 (.ld1 (.t 85)),
 clT 87 10 [(.t 82), (.t 84), (.t 86)],
 mvT 15 87])
 (.seq (.reg [opT 89 (.ldn 6 (.t 11)),
 opT 90 (.fad 1 (.t 14)),
 opT 91 (.ld1 (.t 90)),
 opT 92 (.fad 2 (.t 14)),
 opT 93 (.ld1 (.t 92)),
 clT 94 22 [(.t 89), (.t 91), (.t 93)],
 mvT 88 94,
 opT 95 (.ext (.t 88) 0),
 opT 96 (.ext (.t 88) 1),
 opT 16 (.box (.c (.agg [(.i .i64 0), (.i .u64 0), (.i .i64 0), (.i .u64 0), .nils, .nils]))),
 .op none none (.st 6 (.t 16) (.t 95)),
 mvT 17 96])
 (.seq (.reg [opT 97 (.ldn 6 (.t 16)),
 .op none none (.st 6 (.t 11) (.t 97))])
 (.seq (.reg [mvT 98 15,
 mvT 99 17,
 opT 100 (.ibin .neq (.t 98) (.t 99))])
 (.cond (.t 100)
 (.seq (.reg [opT 8 (.mv (.c (.b false)))])
 (.ret))
 (.skip))))))
 (.seq (.reg [opT 102 (.ibin .eql (.t 79) (.c (.i .u8 2))),
 mvT 101 102])
 (.cond (.t 101)
 (.seq (.reg [mvT 103 9,
 opT 104 (.fad 2 (.t 14)),
 opT 105 (.ld1 (.t 104)),
 clT 106 11 [(.t 103), (.t 105)],
 mvT 18 106])
 (.seq (.reg [opT 108 (.ldn 6 (.t 11)),
 opT 109 (.fad 2 (.t 14)),
 opT 110 (.ld1 (.t 109)),
 clT 111 23 [(.t 108), (.t 110)],
 mvT 107 111,
 opT 112 (.ext (.t 107) 0),
 opT 113 (.ext (.t 107) 1),
 opT 19 (.box (.c (.agg [(.i .i64 0), (.i .u64 0), (.i .i64 0), (.i .u64 0), .nils, .nils]))),
 .op none none (.st 6 (.t 19) (.t 112)),
 mvT 20 113])
 (.seq (.reg [opT 114 (.ldn 6 (.t 19)),
 .op none none (.st 6 (.t 11) (.t 114))])
 (.seq (.reg [mvT 115 18,
 mvT 116 20,
 opT 117 (.ibin .neq (.t 115) (.t 116))])
 (.cond (.t 117)
 (.seq (.reg [opT 8 (.mv (.c (.b false)))])
 (.ret))
 (.skip))))))
 (.seq (.reg [opT 119 (.ibin .eql (.t 79) (.c (.i .u8 3))),
 mvT 118 119])
 (.cond (.t 118)
 (.seq (.reg [mvT 121 9,
 clT 122 12 [(.t 121)],
 mvT 120 122,
 opT 123 (.ext (.t 120) 0),
 opT 124 (.ext (.t 120) 1),
 mvT 21 123,
 mvT 22 124])
 (.seq (.reg [opT 126 (.ldn 6 (.t 11)),
 clT 127 24 [(.t 126)],
 mvT 125 127,
 opT 128 (.ext (.t 125) 0),
 opT 129 (.ext (.t 125) 1),
 opT 130 (.ext (.t 125) 2),
 opT 23 (.box (.c (.agg [(.i .i64 0), (.i .u64 0), (.i .i64 0), (.i .u64 0), .nils, .nils]))),
 .op none none (.st 6 (.t 23) (.t 128)),
 mvT 24 129,
 mvT 25 130])
 (.seq (.reg [opT 131 (.ldn 6 (.t 23)),
 .op none none (.st 6 (.t 11) (.t 131))])
 (.seq (.reg [mvT 132 21,
 mvT 133 24,
 opT 134 (.ibin .neq (.t 132) (.t 133)),
 mvT 135 134,
 unT 136 135 (.mv (.t 22)),
 unT 137 135 (.mv (.t 25)),
 unT 138 135 (.eqn 1 true (.t 136) (.t 137)),
 opT 139 (.pick (.t 135) (.c (.b true)) (.t 138))])
 (.cond (.t 139)
 (.seq (.reg [opT 8 (.mv (.c (.b false)))])
 (.ret))
 (.skip))))))
 (.skip)))))))))
 (.seq (.reg [mvT 141 9,
 clT 142 16 [(.t 141)],
 mvT 140 142,
 opT 143 (.ext (.t 140) 0),
 opT 144 (.ext (.t 140) 1),
 mvT 26 143,
 mvT 27 144])
 (.seq (.reg [opT 146 (.ldn 6 (.t 11)),
 clT 147 25 [(.t 146)],
 mvT 145 147,
 opT 148 (.ext (.t 145) 0),
 opT 149 (.ext (.t 145) 1),
 mvT 28 148,
 mvT 29 149])
 (.seq (.dreg [mvT 150 26,
 mvT 151 28,
 opT 152 (.ibin .neq (.t 150) (.t 151)),
 mvT 153 152,
 unT 154 153 (.mv (.t 27)),
 unT 155 153 (.mv (.t 29)),
 unT 156 153 (.eqn 1 true (.t 154) (.t 155)),
 opT 157 (.pick (.t 153) (.c (.b true)) (.t 156)),
 mvT 158 157,
 unT 159 158 (.mv (.t 9)),
 .call (some 160) (some (158, false)) (.c (.fn (.func 14) [] [])) [(.t 159)],
 unT 161 158 (.fad 5 (.t 11)),
 unT 162 158 (.ld1 (.t 161)),
 unT 163 158 (.len 2 (.t 162)),
 unT 164 158 (.ibin .neq (.t 160) (.t 163)),
 opT 165 (.pick (.t 158) (.c (.b true)) (.t 164)),
 mvT 166 165,
 unT 167 166 (.mv (.t 9)),
 .call (some 168) (some (166, false)) (.c (.fn (.func 17) [] [])) [(.t 167)],
 unT 169 166 (.fad 4 (.t 11)),
 unT 170 166 (.ld1 (.t 169)),
 unT 171 166 (.len 2 (.t 170)),
 unT 172 166 (.ibin .neq (.t 168) (.t 171)),
 opT 173 (.pick (.t 166) (.c (.b true)) (.t 172)),
 mvT 174 173,
 unT 175 174 (.mv (.t 9)),
 .call (some 176) (some (174, false)) (.c (.fn (.func 19) [] [])) [(.t 175)],
 unT 177 174 (.fad 3 (.t 11)),
 unT 178 174 (.ld1 (.t 177)),
 unT 179 174 (.ibin .neq (.t 176) (.t 178)),
 opT 180 (.pick (.t 174) (.c (.b true)) (.t 179)),
 mvT 181 180,
 unT 182 181 (.mv (.t 9)),
 .call (some 183) (some (181, false)) (.c (.fn (.func 27) [] [])) [(.t 182)],
 unT 184 181 (.ldn 6 (.t 11)),
 .call (some 185) (some (181, false)) (.c (.fn (.func 28) [] [])) [(.t 184)],
 .call (some 186) (some (181, false)) (.c (.fn (.func 26) [] [])) [(.t 183), (.t 185)],
 unT 187 181 (.un .not (.t 186)),
 opT 188 (.pick (.t 181) (.c (.b true)) (.t 187))]
 [0, 1, 2, 3, 4, 5, 6, 7, 8, 9, 11, 12, 13, 10, 14, 15, 16, 17, 19, 20, 21, 18, 22, 23, 24, 25, 27, 28, 26, 29, 30, 31, 32, 34, 33, 35, 36, 37, 38] [0, 0, 3, 7, 15, 15, 63, 127, 255, 511, 1023, 511, 2559, 6655, 16383, 32767, 65535, 131071, 262143, 131071, 655359, 1703935, 4194303, 8388607, 16777215, 33554431, 67108863, 33554431, 167772159, 536870911, 1073741823, 2147483647, 4294967295, 8589934591, 4294967295, 34359738367, 68719476735, 137438953471, 274877906943])
 (.cond (.t 188)
 (.seq (.reg [opT 8 (.mv (.c (.b false)))])
 (.ret))
 (.skip))))))))
 (.reg [opT 189 (.ibin .add (.t 74) (.c (.i .i64 1))),
 mvT 74 189])))))))
 (.seq (.reg [clT 190 15 [],
 mvT 8 190])
 (.ret))))))),
 [.t 8]⟩
def k5 : List Nat := [0, 1, 2, 3, 8, 9, 10, 11, 12, 14, 15, 16, 17, 18, 19, 20, 21, 22, 23, 24, 25, 26, 27, 28, 29, 59, 70, 72, 73, 74, 75, 79, 80, 100, 101, 117, 118, 139, 188]
set_option maxRecDepth 100000 in
theorem c5 : compF Go.Proofs.Tryd.prog 4 Go.Proofs.Tryd.f5 = some e5 := by kernel_rfl
/-- sandglass/sandglasslaw09.WheelJump -/
def e6 : IFunc := ⟨139, 4,
 .seq (.reg [opT 8 (.mv (.c (.b false)))])
 (.seq (.reg [mvT 25 0,
 mvT 26 1,
 clT 27 9 [(.t 25), (.t 26)],
 mvT 24 27,
 opT 28 (.ext (.t 24) 0),
 opT 29 (.ext (.t 24) 1),
 opT 30 (.ext (.t 24) 2),
 mvT 9 28,
 mvT 10 29,
 mvT 11 30])
 (.seq (.reg [mvT 32 0,
 mvT 33 1,
 clT 34 9 [(.t 32), (.t 33)],
 mvT 31 34,
 opT 35 (.ext (.t 31) 0),
 opT 36 (.ext (.t 31) 1),
 opT 37 (.ext (.t 31) 2),
 mvT 12 35,
 mvT 13 36,
 mvT 14 37])
 (.seq (.seq (.reg [mvT 38 11,
 opT 39 (.un .not (.t 38)),
 mvT 40 39,
 unT 41 40 (.mv (.t 14)),
 unT 42 40 (.un .not (.t 41)),
 opT 43 (.pick (.t 40) (.c (.b true)) (.t 42))])
 (.cond (.t 43)
 (.seq (.reg [opT 8 (.mv (.c (.b false)))])
 (.ret))
 (.skip)))
 (.seq (.seq (.reg [mvT 44 2,
 mvT 45 2,
 opT 46 (.len 2 (.t 45)),
 opT 47 (.mx true (.t 46) [(.c (.i .i64 40))]),
 opT 48 (.slice 1 (.t 44) none (some (.t 47))),
 opT 49 (.len 2 (.t 48)),
 opT 50 (.mv (.c (.i .i64 0)))])
 (.block 0
 (.loop
 (.seq (.reg [opT 51 (.ibin .lss (.t 50) (.t 49))])
 (.seq (.cond (.t 51)
 (.skip)
 (.exit 0))
 (.seq (.block 1
 (.seq (.reg [mvT 52 50,
 opT 53 (.iad 1 (.t 48) (.t 50)),
 opT 54 (.ld1 (.t 53)),
 mvT 15 52,
 mvT 16 54])
 (.seq (.reg [mvT 55 9,
 mvT 56 15,
 opT 57 (.conv .u64 (.t 56)),
 mvT 58 16,
 clT 59 10 [(.t 55), (.t 57), (.t 58)],
 opT 60 (.ibin .neq (.t 59) (.c (.i .i64 0))),
 mvT 61 60,
 unT 62 61 (.mv (.t 12)),
 unT 63 61 (.mv (.t 15)),
 unT 64 61 (.conv .u64 (.t 63)),
 unT 65 61 (.mv (.t 16)),
 .call (some 66) (some (61, false)) (.c (.fn (.func 10) [] [])) [(.t 62), (.t 64), (.t 65)],
 unT 67 61 (.ibin .neq (.t 66) (.c (.i .i64 0))),
 opT 68 (.pick (.t 61) (.c (.b true)) (.t 67))])
 (.cond (.t 68)
 (.seq (.reg [opT 8 (.mv (.c (.b false)))])
 (.ret))
 (.skip)))))
 (.reg [opT 69 (.ibin .add (.t 50) (.c (.i .i64 1))),
 mvT 50 69])))))))
 (.seq (.reg [opT 17 (.mv (.c (.i .u64 0)))])
 (.seq (.seq (.reg [mvT 70 3,
 mvT 71 3,
 opT 72 (.len 2 (.t 71)),
 opT 73 (.mx true (.t 72) [(.c (.i .i64 40))]),
 opT 74 (.slice 1 (.t 70) none (some (.t 73))),
 opT 75 (.len 2 (.t 74)),
 opT 76 (.mv (.c (.i .i64 0)))])
 (.block 2
 (.loop
 (.seq (.reg [opT 77 (.ibin .lss (.t 76) (.t 75))])
 (.seq (.cond (.t 77)
 (.skip)
 (.exit 2))
 (.seq (.block 3
 (.seq (.reg [opT 78 (.iad 1 (.t 74) (.t 76)),
 opT 79 (.ld1 (.t 78)),
 mvT 19 79])
 (.seq (.reg [mvT 80 12,
 mvT 81 19,
 clT 82 11 [(.t 80), (.t 81)]])
 (.reg [mvT 83 17,
 mvT 84 19,
 opT 85 (.mx false (.t 83) [(.t 84)]),
 mvT 17 85]))))
 (.reg [opT 86 (.ibin .add (.t 76) (.c (.i .i64 1))),
 mvT 76 86])))))))
 (.seq (.reg [mvT 87 9,
 mvT 88 17,
 clT 89 11 [(.t 87), (.t 88)]])
 (.seq (.reg [mvT 90 12,
 mvT 91 17,
 clT 92 11 [(.t 90), (.t 91)]])
 (.seq (.seq (.reg [mvT 93 9,
 clT 94 14 [(.t 93)],
 mvT 95 12,
 clT 96 14 [(.t 95)],
 opT 97 (.ibin .neq (.t 94) (.t 96)),
 mvT 98 97,
 unT 99 98 (.mv (.t 9)),
 .call (some 100) (some (98, false)) (.c (.fn (.func 17) [] [])) [(.t 99)],
 unT 101 98 (.mv (.t 12)),
 .call (some 102) (some (98, false)) (.c (.fn (.func 17) [] [])) [(.t 101)],
 unT 103 98 (.ibin .neq (.t 100) (.t 102)),
 opT 104 (.pick (.t 98) (.c (.b true)) (.t 103)),
 mvT 105 104,
 unT 106 105 (.mv (.t 9)),
 .call (some 107) (some (105, false)) (.c (.fn (.func 19) [] [])) [(.t 106)],
 unT 108 105 (.mv (.t 12)),
 .call (some 109) (some (105, false)) (.c (.fn (.func 19) [] [])) [(.t 108)],
 unT 110 105 (.ibin .neq (.t 107) (.t 109)),
 opT 111 (.pick (.t 105) (.c (.b true)) (.t 110))])
 (.cond (.t 111)
 (.seq (.reg [opT 8 (.mv (.c (.b false)))])
 (.ret))
 (.skip)))
 (.seq (.seq (.reg [mvT 112 9,
 clT 113 14 [(.t 112)],
 opT 114 (.mv (.c (.i .i64 0)))])
 (.block 4
 (.loop
 (.seq (.reg [opT 115 (.ibin .lss (.t 114) (.t 113))])
 (.seq (.cond (.t 115)
 (.skip)
 (.exit 4))
 (.seq (.block 5
 (.seq (.reg [mvT 117 9,
 clT 118 12 [(.t 117)],
 mvT 116 118,
 opT 119 (.ext (.t 116) 0),
 opT 120 (.ext (.t 116) 1),
 mvT 20 119,
 mvT 21 120])
 (.seq (.reg [mvT 122 12,
 clT 123 12 [(.t 122)],
 mvT 121 123,
 opT 124 (.ext (.t 121) 0),
 opT 125 (.ext (.t 121) 1),
 mvT 22 124,
 mvT 23 125])
 (.seq (.reg [mvT 126 20,
 mvT 127 22,
 opT 128 (.ibin .neq (.t 126) (.t 127)),
 mvT 129 128,
 unT 130 129 (.mv (.t 21)),
 unT 131 129 (.un .not (.t 130)),
 opT 132 (.pick (.t 129) (.c (.b true)) (.t 131)),
 mvT 133 132,
 unT 134 133 (.mv (.t 23)),
 unT 135 133 (.un .not (.t 134)),
 opT 136 (.pick (.t 133) (.c (.b true)) (.t 135))])
 (.cond (.t 136)
 (.seq (.reg [opT 8 (.mv (.c (.b false)))])
 (.ret))
 (.skip))))))
 (.reg [opT 137 (.ibin .add (.t 114) (.c (.i .i64 1))),
 mvT 114 137])))))))
 (.seq (.reg [clT 138 15 [],
 mvT 8 138])
 (.ret)))))))))))),
 [.t 8]⟩
def k6 : List Nat := [0, 1, 2, 3, 8, 9, 11, 12, 14, 15, 16, 17, 19, 20, 21, 22, 23, 43, 48, 49, 50, 51, 68, 74, 75, 76, 77, 111, 113, 114, 115, 136]
/-- sandglass/sandglasslaw09.WheelHeld -/
def e7 : IFunc := ⟨135, 3,
 .seq (.reg [opT 6 (.mv (.c (.b false)))])
 (.seq (.reg [mvT 21 0,
 opT 22 (.ibin .rem (.t 21) (.c (.i .u8 64))),
 opT 23 (.conv .i64 (.t 22)),
 opT 24 (.ibin .add (.c (.i .i64 2)) (.t 23)),
 mvT 25 1,
 opT 26 (.ibin .rem (.t 25) (.c (.i .u16 1000))),
 opT 27 (.conv .u64 (.t 26)),
 opT 28 (.ibin .add (.c (.i .u64 1)) (.t 27)),
 clT 29 20 [(.t 24), (.t 28), (.c (.i .i64 12))],
 mvT 20 29,
 opT 30 (.ext (.t 20) 0),
 opT 31 (.ext (.t 20) 1),
 mvT 7 30,
 mvT 8 31])
 (.seq (.seq (.reg [mvT 32 8,
 opT 33 (.ibin .neq (.t 32) (.c (.i .i64 0)))])
 (.cond (.t 33)
 (.seq (.reg [opT 6 (.mv (.c (.b false)))])
 (.ret))
 (.skip)))
 (.seq (.reg [opT 9 (.mv (.c (.i .i64 0))),
 opT 10 (.mv (.c (.i .i64 0))),
 opT 11 (.mv (.c (.i .u64 0)))])
 (.seq (.seq (.reg [mvT 34 2,
 mvT 35 2,
 opT 36 (.len 2 (.t 35)),
 opT 37 (.mx true (.t 36) [(.c (.i .i64 80))]),
 opT 38 (.slice 3 (.t 34) none (some (.t 37))),
 opT 39 (.len 2 (.t 38)),
 opT 40 (.mv (.c (.i .i64 0)))])
 (.block 0
 (.loop
 (.seq (.reg [opT 41 (.ibin .lss (.t 40) (.t 39))])
 (.seq (.cond (.t 41)
 (.skip)
 (.exit 0))
 (.seq (.block 1
 (.seq (.reg [opT 42 (.iad 3 (.t 38) (.t 40)),
 opT 43 (.ldn 3 (.t 42)),
 opT 13 (.box (.c (.agg [(.i .u8 0), (.i .u64 0), (.i .u64 0)]))),
 .op none none (.st 3 (.t 13) (.t 43))])
 (.seq (.seq (.reg [opT 44 (.fad 0 (.t 13)),
 opT 45 (.ld1 (.t 44))])
 (.block 2
 (.seq (.reg [opT 47 (.ibin .eql (.t 45) (.c (.i .u8 1))),
 mvT 46 47])
 (.cond (.t 46)
 (.seq (.reg [mvT 48 7,
 opT 49 (.fad 1 (.t 13)),
 opT 50 (.ld1 (.t 49)),
 opT 51 (.fad 2 (.t 13)),
 opT 52 (.ld1 (.t 51)),
 clT 53 10 [(.t 48), (.t 50), (.t 52)],
 mvT 14 53])
 (.seq (.seq (.reg [mvT 54 14,
 opT 55 (.ibin .eql (.t 54) (.c (.i .i64 4))),
 mvT 56 9,
 mvT 57 10,
 opT 58 (.ibin .sub (.t 56) (.t 57)),
 opT 59 (.ibin .geq (.t 58) (.c (.i .i64 12))),
 opT 60 (.eqn 1 true (.t 55) (.t 59)),
 mvT 61 60,
 unT 62 61 (.mv (.t 14)),
 unT 63 61 (.ibin .neq (.t 62) (.c (.i .i64 0))),
 unT 64 61 (.mv (.t 63)),
 onT 65 64 (.mv (.t 14)),
 onT 66 64 (.ibin .neq (.t 65) (.c (.i .i64 4))),
 unT 67 61 (.pick (.t 64) (.t 66) (.c (.b false))),
 opT 68 (.pick (.t 61) (.c (.b true)) (.t 67))])
 (.cond (.t 68)
 (.seq (.reg [opT 6 (.mv (.c (.b false)))])
 (.ret))
 (.skip)))
 (.seq (.reg [mvT 69 14,
 opT 70 (.ibin .eql (.t 69) (.c (.i .i64 0)))])
 (.cond (.t 70)
 (.reg [mvT 71 9,
 opT 72 (.ibin .add (.t 71) (.c (.i .i64 1))),
 mvT 9 72])
 (.skip)))))
 (.seq (.reg [opT 74 (.ibin .eql (.t 45) (.c (.i .u8 2))),
 mvT 73 74])
 (.cond (.t 73)
 (.reg [mvT 75 7,
 opT 76 (.fad 2 (.t 13)),
 opT 77 (.ld1 (.t 76)),
 clT 78 11 [(.t 75), (.t 77)]])
 (.seq (.reg [opT 80 (.ibin .eql (.t 45) (.c (.i .u8 3))),
 mvT 79 80])
 (.cond (.t 79)
 (.seq (.reg [mvT 82 7,
 clT 83 12 [(.t 82)],
 mvT 81 83,
 opT 84 (.ext (.t 81) 0),
 opT 85 (.ext (.t 81) 1),
 mvT 15 84,
 mvT 16 85])
 (.seq (.reg [mvT 86 16])
 (.cond (.t 86)
 (.reg [mvT 87 10,
 opT 88 (.ibin .add (.t 87) (.c (.i .i64 1))),
 mvT 10 88])
 (.skip))))
 (.skip)))))))))
 (.seq (.reg [opT 17 (.mv (.c (.i .i64 0)))])
 (.seq (.seq (.reg [mvT 89 7,
 clT 90 27 [(.t 89)],
 opT 91 (.len 2 (.t 90)),
 opT 92 (.mv (.c (.i .i64 0)))])
 (.block 3
 (.loop
 (.seq (.reg [opT 93 (.ibin .lss (.t 92) (.t 91))])
 (.seq (.cond (.t 93)
 (.skip)
 (.exit 3))
 (.seq (.block 4
 (.seq (.reg [opT 94 (.iad 1 (.t 90) (.t 92)),
 opT 95 (.ld1 (.t 94)),
 mvT 19 95])
 (.reg [mvT 96 17,
 mvT 97 19,
 opT 98 (.ibin .add (.t 96) (.t 97)),
 mvT 17 98])))
 (.reg [opT 99 (.ibin .add (.t 92) (.c (.i .i64 1))),
 mvT 92 99])))))))
 (.seq (.seq (.reg [mvT 100 17,
 mvT 101 7,
 clT 102 17 [(.t 101)],
 opT 103 (.ibin .neq (.t 100) (.t 102)),
 mvT 104 103,
 unT 105 104 (.mv (.t 7)),
 .call (some 106) (some (104, false)) (.c (.fn (.func 17) [] [])) [(.t 105)],
 unT 107 104 (.mv (.t 7)),
 .call (some 108) (some (104, false)) (.c (.fn (.func 14) [] [])) [(.t 107)],
 unT 109 104 (.ibin .add (.t 106) (.t 108)),
 unT 110 104 (.mv (.t 9)),
 unT 111 104 (.mv (.t 10)),
 unT 112 104 (.ibin .sub (.t 110) (.t 111)),
 unT 113 104 (.ibin .neq (.t 109) (.t 112)),
 opT 114 (.pick (.t 104) (.c (.b true)) (.t 113)),
 mvT 115 114,
 unT 116 115 (.mv (.t 7)),
 .call (some 117) (some (115, false)) (.c (.fn (.func 19) [] [])) [(.t 116)],
 unT 118 115 (.mv (.t 11)),
 unT 119 115 (.ibin .lss (.t 117) (.t 118)),
 opT 120 (.pick (.t 115) (.c (.b true)) (.t 119)),
 mvT 121 120,
 unT 122 121 (.mv (.t 7)),
 .call (some 123) (some (121, false)) (.c (.fn (.func 27) [] [])) [(.t 122)],
 unT 124 121 (.len 2 (.t 123)),
 unT 125 121 (.mv (.t 0)),
 unT 126 121 (.ibin .rem (.t 125) (.c (.i .u8 64))),
 unT 127 121 (.conv .i64 (.t 126)),
 unT 128 121 (.ibin .add (.c (.i .i64 2)) (.t 127)),
 unT 129 121 (.ibin .neq (.t 124) (.t 128)),
 opT 130 (.pick (.t 121) (.c (.b true)) (.t 129))])
 (.cond (.t 130)
 (.seq (.reg [opT 6 (.mv (.c (.b false)))])
 (.ret))
 (.skip)))
 (.reg [mvT 131 7,
 clT 132 19 [(.t 131)],
 mvT 11 132])))))))
 (.reg [opT 133 (.ibin .add (.t 40) (.c (.i .i64 1))),
 mvT 40 133])))))))
 (.seq (.reg [clT 134 15 [],
 mvT 6 134])
 (.ret)))))),
 [.t 6]⟩
def k7 : List Nat := [0, 1, 2, 6, 7, 8, 9, 10, 11, 13, 14, 16, 17, 19, 33, 38, 39, 40, 41, 45, 46, 68, 70, 73, 79, 86, 90, 91, 92, 93, 130]
set_option maxRecDepth 100000 in
theorem c7 : compF Go.Proofs.Tryd.prog 3 Go.Proofs.Tryd.f7 = some e7 := by kernel_rfl
/-- sandglass/sandglasslaw09.WheelNone -/
def e8 : IFunc := ⟨63, 2,
 .seq (.reg [opT 4 (.mv (.c (.b false)))])
 (.seq (.seq (.reg [opT 11 (.build [.nils, .nilp, (.i .u64 0), (.i .u64 0), .nils, (.i .i64 0), (.i .i64 0), (.i .i64 0)] []),
 opT 12 (.box (.t 11)),
 opT 13 (.bslice 1 2 [.nilp, .nilp] [(0, 1, (.c .nilp)), (1, 1, (.t 12))]),
 opT 14 (.len 2 (.t 13)),
 opT 15 (.mv (.c (.i .i64 0)))])
 (.block 0
 (.loop
 (.seq (.reg [opT 16 (.ibin .lss (.t 15) (.t 14))])
 (.seq (.cond (.t 16)
 (.skip)
 (.exit 0))
 (.seq (.block 1
 (.seq (.reg [opT 17 (.iad 1 (.t 13) (.t 15)),
 opT 18 (.ld1 (.t 17)),
 mvT 6 18])
 (.seq (.reg [mvT 20 6,
 clT 21 12 [(.t 20)],
 mvT 19 21,
 opT 22 (.ext (.t 19) 0),
 opT 23 (.ext (.t 19) 1),
 mvT 7 22,
 mvT 8 23])
 (.seq (.reg [mvT 25 6,
 clT 26 16 [(.t 25)],
 mvT 24 26,
 opT 27 (.ext (.t 24) 0),
 opT 28 (.ext (.t 24) 1),
 mvT 9 27,
 mvT 10 28])
 (.seq (.reg [mvT 29 6,
 mvT 30 0,
 mvT 31 1,
 clT 32 10 [(.t 29), (.t 30), (.t 31)],
 opT 33 (.ibin .neq (.t 32) (.c (.i .i64 1))),
 mvT 34 33,
 unT 35 34 (.mv (.t 8)),
 opT 36 (.pick (.t 34) (.c (.b true)) (.t 35)),
 mvT 37 36,
 unT 38 37 (.mv (.t 10)),
 opT 39 (.pick (.t 37) (.c (.b true)) (.t 38)),
 mvT 40 39,
 unT 41 40 (.mv (.t 6)),
 unT 42 40 (.mv (.t 1)),
 .call (some 43) (some (40, false)) (.c (.fn (.func 11) [] [])) [(.t 41), (.t 42)],
 unT 44 40 (.mv (.t 6)),
 .call (some 45) (some (40, false)) (.c (.fn (.func 14) [] [])) [(.t 44)],
 unT 46 40 (.ibin .add (.t 43) (.t 45)),
 unT 47 40 (.mv (.t 6)),
 .call (some 48) (some (40, false)) (.c (.fn (.func 17) [] [])) [(.t 47)],
 unT 49 40 (.ibin .add (.t 46) (.t 48)),
 unT 50 40 (.mv (.t 6)),
 .call (some 51) (some (40, false)) (.c (.fn (.func 27) [] [])) [(.t 50)],
 unT 52 40 (.len 2 (.t 51)),
 unT 53 40 (.ibin .add (.t 49) (.t 52)),
 unT 54 40 (.ibin .neq (.t 53) (.c (.i .i64 0))),
 opT 55 (.pick (.t 40) (.c (.b true)) (.t 54)),
 mvT 56 55,
 unT 57 56 (.mv (.t 6)),
 .call (some 58) (some (56, false)) (.c (.fn (.func 19) [] [])) [(.t 57)],
 unT 59 56 (.ibin .neq (.t 58) (.c (.i .u64 0))),
 opT 60 (.pick (.t 56) (.c (.b true)) (.t 59))])
 (.cond (.t 60)
 (.seq (.reg [opT 4 (.mv (.c (.b false)))])
 (.ret))
 (.skip)))))))
 (.reg [opT 61 (.ibin .add (.t 15) (.c (.i .i64 1))),
 mvT 15 61])))))))
 (.seq (.reg [clT 62 15 [],
 mvT 4 62])
 (.ret))),
 [.t 4]⟩
def k8 : List Nat := [0, 1, 4, 6, 8, 10, 13, 14, 15, 16, 60]
set_option maxRecDepth 100000 in
theorem c8 : compF Go.Proofs.Tryd.prog 2 Go.Proofs.Tryd.f8 = some e8 := by kernel_rfl
/-- sandglass/sandglasslaw09.made -/
def e9 : IFunc := ⟨27, 2,
 .seq (.reg [opT 4 (.mv (.c .nilp)),
 opT 5 (.mv (.c (.i .u64 0))),
 opT 6 (.mv (.c (.b false)))])
 (.seq (.reg [mvT 10 1,
 opT 11 (.ibin .rem (.t 10) (.c (.i .u16 1000))),
 opT 12 (.conv .u64 (.t 11)),
 opT 13 (.ibin .add (.c (.i .u64 1)) (.t 12)),
 mvT 7 13])
 (.seq (.reg [mvT 15 0,
 opT 16 (.ibin .rem (.t 15) (.c (.i .u8 64))),
 opT 17 (.conv .i64 (.t 16)),
 opT 18 (.ibin .add (.c (.i .i64 2)) (.t 17)),
 mvT 19 7,
 clT 20 20 [(.t 18), (.t 19), (.c (.i .i64 200))],
 mvT 14 20,
 opT 21 (.ext (.t 14) 0),
 opT 22 (.ext (.t 14) 1),
 mvT 8 21,
 mvT 9 22])
 (.seq (.reg [mvT 23 8,
 mvT 24 7,
 mvT 25 9,
 opT 26 (.ibin .eql (.t 25) (.c (.i .i64 0))),
 mvT 4 23,
 mvT 5 24,
 mvT 6 26])
 (.ret)))),
 [.t 4, .t 5, .t 6]⟩
def k9 : List Nat := [0, 1, 4, 5, 6, 7, 8, 9]
set_option maxRecDepth 100000 in
theorem c9 : compF Go.Proofs.Tryd.prog 2 Go.Proofs.Tryd.f9 = some e9 := by kernel_rfl
/-- (*sandglass/wheel.Wheel).Put -/
def e10 : IFunc := ⟨54, 3,
 .seq (.reg [opT 6 (.mv (.c (.i .i64 0)))])
 (.seq (.block 0
 (.seq (.reg [mvT 8 0,
 clT 9 29 [(.t 8)],
 mvT 7 9])
 (.cond (.t 7)
 (.seq (.reg [opT 6 (.mv (.c (.i .i64 1)))])
 (.ret))
 (.seq (.dreg [mvT 11 0,
 opT 12 (.nilchk (.t 11)),
 opT 13 (.fad 6 (.t 12)),
 opT 14 (.ld1 (.t 13)),
 mvT 15 0,
 opT 16 (.nilchk (.t 15)),
 opT 17 (.fad 4 (.t 16)),
 opT 18 (.ld1 (.t 17)),
 opT 19 (.len 2 (.t 18)),
 opT 20 (.ibin .add (.t 14) (.t 19)),
 mvT 21 0,
 opT 22 (.nilchk (.t 21)),
 opT 23 (.fad 5 (.t 22)),
 opT 24 (.ld1 (.t 23)),
 opT 25 (.ibin .geq (.t 20) (.t 24)),
 mvT 10 25]
 [0, 1, 2, 3, 4, 5, 6, 7, 8, 9, 10, 11, 12, 13, 14, 15] [0, 1, 3, 7, 0, 16, 48, 112, 240, 511, 0, 1024, 3072, 7168, 16383, 32767])
 (.cond (.t 10)
 (.seq (.reg [opT 6 (.mv (.c (.i .i64 4)))])
 (.ret))
 (.skip))))))
 (.seq (.dreg [mvT 26 0,
 mvT 27 1,
 mvT 28 2,
 mvT 29 0,
 opT 30 (.nilchk (.t 29)),
 opT 31 (.fad 2 (.t 30)),
 opT 32 (.ld1 (.t 31)),
 clT 33 13 [(.t 28), (.t 32)],
 mvT 34 0,
 opT 35 (.nilchk (.t 34)),
 opT 36 (.fad 7 (.t 35)),
 opT 37 (.ld1 (.t 36)),
 opT 38 (.build [(.i .u64 0), (.i .u64 0), (.i .i64 0)] [(0, 1, (.t 27)), (1, 1, (.t 33)), (2, 1, (.t 37))]),
 clT 39 30 [(.t 26), (.t 38)]]
 [0, 1, 2, 3, 4, 5, 6, 8, 9, 10, 11, 7, 12, 13] [0, 0, 0, 0, 8, 24, 56, 124, 0, 256, 768, 1792, 4094, 8191])
 (.seq (.reg [mvT 40 0,
 opT 41 (.nilchk (.t 40)),
 opT 42 (.fad 7 (.t 41)),
 opT 43 (.ld1 (.t 42)),
 opT 44 (.ibin .add (.t 43) (.c (.i .i64 1))),
 opT 45 (.nilchk (.t 40)),
 opT 46 (.fad 7 (.t 45)),
 .op none none (.st 1 (.t 46) (.t 44))])
 (.seq (.reg [mvT 47 0,
 opT 48 (.nilchk (.t 47)),
 opT 49 (.fad 6 (.t 48)),
 opT 50 (.ld1 (.t 49)),
 opT 51 (.ibin .add (.t 50) (.c (.i .i64 1))),
 opT 52 (.nilchk (.t 47)),
 opT 53 (.fad 6 (.t 52)),
 .op none none (.st 1 (.t 53) (.t 51))])
 (.seq (.reg [opT 6 (.mv (.c (.i .i64 0)))])
 (.ret)))))),
 [.t 6]⟩
def k10 : List Nat := [0, 1, 2, 6, 7, 10]
set_option maxRecDepth 100000 in
theorem c10 : compF Go.Proofs.Tryd.prog 3 Go.Proofs.Tryd.f10 = some e10 := by kernel_rfl
/-- (*sandglass/wheel.Wheel).Advance -/
def e11 : IFunc := ⟨68, 2,
 .seq (.reg [opT 4 (.mv (.c (.i .i64 0)))])
 (.seq (.seq (.reg [mvT 10 0,
 clT 11 29 [(.t 10)]])
 (.cond (.t 11)
 (.seq (.reg [opT 4 (.mv (.c (.i .i64 0)))])
 (.ret))
 (.skip)))
 (.seq (.dreg [mvT 12 0,
 opT 13 (.nilchk (.t 12)),
 opT 14 (.fad 3 (.t 13)),
 opT 15 (.ld1 (.t 14)),
 mvT 16 1,
 mvT 17 0,
 opT 18 (.nilchk (.t 17)),
 opT 19 (.fad 2 (.t 18)),
 opT 20 (.ld1 (.t 19)),
 opT 21 (.ibin .quo (.t 16) (.t 20)),
 opT 22 (.mx false (.t 15) [(.t 21)]),
 mvT 5 22]
 [0, 1, 2, 3, 4, 5, 6, 7, 8, 9, 10, 11] [0, 1, 3, 7, 0, 0, 32, 96, 224, 496, 1023, 2047])
 (.seq (.reg [mvT 23 0,
 mvT 24 5,
 clT 25 31 [(.t 23), (.t 24)],
 mvT 6 25])
 (.seq (.reg [mvT 26 0,
 mvT 27 5,
 opT 28 (.nilchk (.t 26)),
 opT 29 (.fad 3 (.t 28)),
 .op none none (.st 1 (.t 29) (.t 27))])
 (.seq (.reg [mvT 30 6,
 clT 31 32 [(.t 30), (.c (.fn (.func 33) [] []))]])
 (.seq (.reg [opT 7 (.mv (.c (.i .i64 0)))])
 (.seq (.seq (.reg [mvT 32 6,
 opT 33 (.len 2 (.t 32)),
 opT 34 (.mv (.c (.i .i64 0)))])
 (.block 0
 (.loop
 (.seq (.reg [opT 35 (.ibin .lss (.t 34) (.t 33))])
 (.seq (.cond (.t 35)
 (.skip)
 (.exit 0))
 (.seq (.block 1
 (.seq (.reg [opT 36 (.iad 3 (.t 32) (.t 34)),
 opT 37 (.ldn 3 (.t 36)),
 opT 9 (.box (.c (.agg [(.i .u64 0), (.i .u64 0), (.i .i64 0)]))),
 .op none none (.st 3 (.t 9) (.t 37))])
 (.seq (.seq (.reg [opT 38 (.fad 1 (.t 9)),
 opT 39 (.ld1 (.t 38)),
 mvT 40 5,
 opT 41 (.ibin .gtr (.t 39) (.t 40))])
 (.cond (.t 41)
 (.seq (.reg [mvT 42 0,
 opT 43 (.ldn 3 (.t 9)),
 clT 44 30 [(.t 42), (.t 43)]])
 (.exit 1))
 (.skip)))
 (.seq (.dreg [mvT 45 0,
 mvT 46 0,
 opT 47 (.nilchk (.t 46)),
 opT 48 (.fad 4 (.t 47)),
 opT 49 (.ld1 (.t 48)),
 opT 50 (.fad 0 (.t 9)),
 opT 51 (.ld1 (.t 50)),
 opT 52 (.bslice 1 1 [(.i .u64 0)] [(0, 1, (.t 51))]),
 opT 53 (.app 1 8 (.t 49) (.t 52)),
 opT 54 (.nilchk (.t 45)),
 opT 55 (.fad 4 (.t 54)),
 .op none none (.st 1 (.t 55) (.t 53))]
 [0, 1, 2, 3, 4, 5, 6, 7, 8, 9, 10, 11] [0, 0, 2, 6, 14, 0, 32, 96, 254, 511, 1023, 2047])
 (.reg [mvT 56 7,
 opT 57 (.ibin .add (.t 56) (.c (.i .i64 1))),
 mvT 7 57])))))
 (.reg [opT 58 (.ibin .add (.t 34) (.c (.i .i64 1))),
 mvT 34 58])))))))
 (.seq (.reg [mvT 59 0,
 opT 60 (.nilchk (.t 59)),
 opT 61 (.fad 6 (.t 60)),
 opT 62 (.ld1 (.t 61)),
 mvT 63 7,
 opT 64 (.ibin .sub (.t 62) (.t 63)),
 opT 65 (.nilchk (.t 59)),
 opT 66 (.fad 6 (.t 65)),
 .op none none (.st 1 (.t 66) (.t 64))])
 (.seq (.reg [mvT 67 7,
 mvT 4 67])
 (.ret)))))))))),
 [.t 4]⟩
def k11 : List Nat := [0, 1, 4, 5, 6, 7, 9, 11, 32, 33, 34, 35, 41]
set_option maxRecDepth 100000 in
theorem c11 : compF Go.Proofs.Tryd.prog 2 Go.Proofs.Tryd.f11 = some e11 := by kernel_rfl
/-- (*sandglass/wheel.Wheel).Take -/
def e12 : IFunc := ⟨30, 1,
 .seq (.reg [opT 2 (.mv (.c (.i .u64 0))),
 opT 3 (.mv (.c (.b false)))])
 (.seq (.seq (.reg [mvT 5 0,
 clT 6 29 [(.t 5)],
 mvT 7 6,
 unT 8 7 (.mv (.t 0)),
 unT 9 7 (.nilchk (.t 8)),
 unT 10 7 (.fad 4 (.t 9)),
 unT 11 7 (.ld1 (.t 10)),
 unT 12 7 (.len 2 (.t 11)),
 unT 13 7 (.ibin .eql (.t 12) (.c (.i .i64 0))),
 opT 14 (.pick (.t 7) (.c (.b true)) (.t 13))])
 (.cond (.t 14)
 (.seq (.reg [opT 2 (.mv (.c (.i .u64 0))),
 opT 3 (.mv (.c (.b false)))])
 (.ret))
 (.skip)))
 (.seq (.reg [mvT 15 0,
 opT 16 (.nilchk (.t 15)),
 opT 17 (.fad 4 (.t 16)),
 opT 18 (.ld1 (.t 17)),
 opT 19 (.iad 1 (.t 18) (.c (.i .i64 0))),
 opT 20 (.ld1 (.t 19)),
 mvT 4 20])
 (.seq (.reg [mvT 21 0,
 mvT 22 0,
 opT 23 (.nilchk (.t 22)),
 opT 24 (.fad 4 (.t 23)),
 opT 25 (.ld1 (.t 24)),
 opT 26 (.slice 1 (.t 25) (some (.c (.i .i64 1))) none),
 opT 27 (.nilchk (.t 21)),
 opT 28 (.fad 4 (.t 27)),
 .op none none (.st 1 (.t 28) (.t 26))])
 (.seq (.reg [mvT 29 4,
 mvT 2 29,
 opT 3 (.mv (.c (.b true)))])
 (.ret))))),
 [.t 2, .t 3]⟩
def k12 : List Nat := [0, 2, 3, 4, 14]
set_option maxRecDepth 100000 in
theorem c12 : compF Go.Proofs.Tryd.prog 1 Go.Proofs.Tryd.f12 = some e12 := by kernel_rfl
/-- sandglass/span.Slot -/
def e13 : IFunc := ⟨9, 2,
 .seq (.reg [opT 4 (.mv (.c (.i .u64 0)))])
 (.seq (.reg [mvT 5 0,
 mvT 6 1,
 opT 7 (.mx false (.t 6) [(.c (.i .u64 1))]),
 clT 8 37 [(.t 5), (.c (.i .u64 1)), (.t 7)],
 mvT 4 8])
 (.ret)),
 [.t 4]⟩
def k13 : List Nat := [0, 1, 4]
set_option maxRecDepth 100000 in
theorem c13 : compF Go.Proofs.Tryd.prog 2 Go.Proofs.Tryd.f13 = some e13 := by kernel_rfl
/-- (*sandglass/wheel.Wheel).Due -/
def e14 : IFunc := ⟨10, 1,
 .seq (.reg [opT 2 (.mv (.c (.i .i64 0)))])
 (.seq (.seq (.reg [mvT 3 0,
 clT 4 29 [(.t 3)]])
 (.cond (.t 4)
 (.seq (.reg [opT 2 (.mv (.c (.i .i64 0)))])
 (.ret))
 (.skip)))
 (.seq (.reg [mvT 5 0,
 opT 6 (.nilchk (.t 5)),
 opT 7 (.fad 4 (.t 6)),
 opT 8 (.ld1 (.t 7)),
 opT 9 (.len 2 (.t 8)),
 mvT 2 9])
 (.ret))),
 [.t 2]⟩
def k14 : List Nat := [0, 2, 4]
set_option maxRecDepth 100000 in
theorem c14 : compF Go.Proofs.Tryd.prog 1 Go.Proofs.Tryd.f14 = some e14 := by kernel_rfl
/-- sandglass/sandglasslaw09.awake -/
def e15 : IFunc := ⟨116, 0,
 .seq (.reg [opT 0 (.mv (.c (.b false)))])
 (.seq (.reg [clT 19 20 [(.c (.i .i64 4)), (.c (.i .u64 10)), (.c (.i .i64 9))],
 mvT 18 19,
 opT 20 (.ext (.t 18) 0),
 opT 21 (.ext (.t 18) 1),
 mvT 1 20,
 mvT 2 21])
 (.seq (.reg [mvT 22 1,
 clT 23 10 [(.t 22), (.c (.i .u64 7)), (.c (.i .u64 25))]])
 (.seq (.reg [mvT 24 1,
 clT 25 10 [(.t 24), (.c (.i .u64 8)), (.c (.i .u64 12))]])
 (.seq (.reg [mvT 26 1,
 clT 27 10 [(.t 26), (.c (.i .u64 9)), (.c (.i .u64 100))]])
 (.seq (.reg [mvT 28 1,
 clT 29 27 [(.t 28)],
 mvT 3 29])
 (.seq (.reg [mvT 31 1,
 clT 32 16 [(.t 31)],
 mvT 30 32,
 opT 33 (.ext (.t 30) 0),
 opT 34 (.ext (.t 30) 1),
 mvT 4 33,
 mvT 5 34])
 (.seq (.reg [mvT 35 1,
 clT 36 11 [(.t 35), (.c (.i .u64 19))],
 mvT 37 1,
 clT 38 11 [(.t 37), (.c (.i .u64 29))],
 mvT 6 36,
 mvT 7 38])
 (.seq (.reg [mvT 40 1,
 clT 41 12 [(.t 40)],
 mvT 39 41,
 opT 42 (.ext (.t 39) 0),
 opT 43 (.ext (.t 39) 1),
 mvT 8 42,
 mvT 9 43])
 (.seq (.reg [mvT 44 1,
 clT 45 19 [(.t 44)],
 mvT 46 1,
 clT 47 27 [(.t 46)],
 mvT 10 45,
 mvT 11 47])
 (.seq (.reg [mvT 48 1,
 clT 49 11 [(.t 48), (.c (.i .u64 35))],
 mvT 12 49])
 (.seq (.reg [mvT 51 1,
 clT 52 12 [(.t 51)],
 mvT 50 52,
 opT 53 (.ext (.t 50) 0),
 opT 54 (.ext (.t 50) 1),
 mvT 13 53,
 mvT 14 54])
 (.seq (.reg [mvT 55 1,
 clT 56 27 [(.t 55)],
 mvT 15 56])
 (.seq (.reg [clT 58 20 [(.c (.i .i64 1)), (.c (.i .u64 10)), (.c (.i .i64 9))],
 mvT 57 58,
 opT 59 (.ext (.t 57) 0),
 opT 60 (.ext (.t 57) 1),
 mvT 16 59,
 mvT 17 60])
 (.seq (.reg [mvT 61 2,
 opT 62 (.ibin .eql (.t 61) (.c (.i .i64 0))),
 mvT 63 62,
 onT 64 63 (.mv (.t 17)),
 onT 65 63 (.ibin .eql (.t 64) (.c (.i .i64 2))),
 opT 66 (.pick (.t 63) (.t 65) (.c (.b false))),
 mvT 67 66,
 onT 68 67 (.mv (.t 3)),
 onT 69 67 (.bslice 1 4 [(.i .i64 0), (.i .i64 0), (.i .i64 0), (.i .i64 0)] [(0, 1, (.c (.i .i64 0))), (1, 1, (.c (.i .i64 0))), (2, 1, (.c (.i .i64 1))), (3, 1, (.c (.i .i64 2)))]),
 .call (some 70) (some (67, true)) (.c (.fn (.func 26) [] [])) [(.t 68), (.t 69)],
 opT 71 (.pick (.t 67) (.t 70) (.c (.b false))),
 mvT 72 71,
 onT 73 72 (.mv (.t 4)),
 onT 74 72 (.ibin .eql (.t 73) (.c (.i .u64 20))),
 opT 75 (.pick (.t 72) (.t 74) (.c (.b false))),
 mvT 76 75,
 onT 77 76 (.mv (.t 5)),
 opT 78 (.pick (.t 76) (.t 77) (.c (.b false))),
 mvT 79 78,
 onT 80 79 (.mv (.t 6)),
 onT 81 79 (.ibin .eql (.t 80) (.c (.i .i64 0))),
 opT 82 (.pick (.t 79) (.t 81) (.c (.b false))),
 mvT 83 82,
 onT 84 83 (.mv (.t 7)),
 onT 85 83 (.ibin .eql (.t 84) (.c (.i .i64 1))),
 opT 86 (.pick (.t 83) (.t 85) (.c (.b false))),
 mvT 87 86,
 onT 88 87 (.mv (.t 8)),
 onT 89 87 (.ibin .eql (.t 88) (.c (.i .u64 8))),
 opT 90 (.pick (.t 87) (.t 89) (.c (.b false))),
 mvT 91 90,
 onT 92 91 (.mv (.t 9)),
 opT 93 (.pick (.t 91) (.t 92) (.c (.b false))),
 mvT 94 93,
 onT 95 94 (.mv (.t 10)),
 onT 96 94 (.ibin .eql (.t 95) (.c (.i .u64 2))),
 opT 97 (.pick (.t 94) (.t 96) (.c (.b false))),
 mvT 98 97,
 onT 99 98 (.mv (.t 11)),
 onT 100 98 (.bslice 1 4 [(.i .i64 0), (.i .i64 0), (.i .i64 0), (.i .i64 0)] [(0, 1, (.c (.i .i64 0))), (1, 1, (.c (.i .i64 2))), (2, 1, (.c (.i .i64 0))), (3, 1, (.c (.i .i64 0)))]),
 .call (some 101) (some (98, true)) (.c (.fn (.func 26) [] [])) [(.t 99), (.t 100)],
 opT 102 (.pick (.t 98) (.t 101) (.c (.b false))),
 mvT 103 102,
 onT 104 103 (.mv (.t 12)),
 onT 105 103 (.ibin .eql (.t 104) (.c (.i .i64 1))),
 opT 106 (.pick (.t 103) (.t 105) (.c (.b false))),
 mvT 107 106,
 onT 108 107 (.mv (.t 13)),
 onT 109 107 (.ibin .eql (.t 108) (.c (.i .u64 7))),
 opT 110 (.pick (.t 107) (.t 109) (.c (.b false))),
 mvT 111 110,
 onT 112 111 (.mv (.t 15)),
 onT 113 111 (.bslice 1 4 [(.i .i64 0), (.i .i64 0), (.i .i64 0), (.i .i64 0)] [(0, 1, (.c (.i .i64 0))), (1, 1, (.c (.i .i64 0))), (2, 1, (.c (.i .i64 0))), (3, 1, (.c (.i .i64 1)))]),
 .call (some 114) (some (111, true)) (.c (.fn (.func 26) [] [])) [(.t 112), (.t 113)],
 opT 115 (.pick (.t 111) (.t 114) (.c (.b false))),
 mvT 0 115])
 (.ret))))))))))))))),
 [.t 0]⟩
def k15 : List Nat := [0, 1, 2, 3, 4, 5, 6, 7, 8, 9, 10, 11, 12, 13, 15, 17]
set_option maxRecDepth 100000 in
theorem c15 : compF Go.Proofs.Tryd.prog 0 Go.Proofs.Tryd.f15 = some e15 := by kernel_rfl
/-- (*sandglass/wheel.Wheel).Next -/
def e16 : IFunc := ⟨59, 1,
 .seq (.reg [opT 2 (.mv (.c (.i .u64 0))),
 opT 3 (.mv (.c (.b false)))])
 (.seq (.seq (.reg [mvT 8 0,
 clT 9 29 [(.t 8)],
 mvT 10 9,
 unT 11 10 (.mv (.t 0)),
 unT 12 10 (.nilchk (.t 11)),
 unT 13 10 (.fad 6 (.t 12)),
 unT 14 10 (.ld1 (.t 13)),
 unT 15 10 (.ibin .eql (.t 14) (.c (.i .i64 0))),
 opT 16 (.pick (.t 10) (.c (.b true)) (.t 15))])
 (.cond (.t 16)
 (.seq (.reg [opT 2 (.mv (.c (.i .u64 0))),
 opT 3 (.mv (.c (.b false)))])
 (.ret))
 (.skip)))
 (.seq (.reg [mvT 17 0,
 mvT 18 0,
 opT 19 (.nilchk (.t 18)),
 opT 20 (.fad 3 (.t 19)),
 opT 21 (.ld1 (.t 20)),
 clT 22 38 [(.t 17), (.t 21)],
 mvT 4 22])
 (.seq (.reg [mvT 24 0,
 opT 25 (.nilchk (.t 24)),
 opT 26 (.fad 1 (.t 25)),
 opT 27 (.ld1 (.t 26)),
 mvT 28 4,
 clT 29 39 [(.t 27), (.t 28)],
 mvT 23 29,
 opT 30 (.ext (.t 23) 0),
 opT 31 (.ext (.t 23) 1),
 mvT 5 30,
 mvT 6 31])
 (.seq (.dreg [mvT 32 5,
 mvT 33 4,
 opT 34 (.ibin .sub (.t 32) (.t 33)),
 mvT 35 0,
 opT 36 (.nilchk (.t 35)),
 opT 37 (.fad 0 (.t 36)),
 opT 38 (.ld1 (.t 37)),
 opT 39 (.len 2 (.t 38)),
 opT 40 (.ibin .add (.t 34) (.t 39)),
 mvT 41 0,
 opT 42 (.nilchk (.t 41)),
 opT 43 (.fad 0 (.t 42)),
 opT 44 (.ld1 (.t 43)),
 opT 45 (.len 2 (.t 44)),
 opT 46 (.ibin .rem (.t 40) (.t 45)),
 mvT 7 46]
 [0, 1, 2, 3, 4, 5, 6, 7, 8, 9, 10, 11, 12, 13, 14, 15] [0, 0, 3, 0, 8, 24, 56, 120, 255, 0, 512, 1536, 3584, 7680, 16383, 32767])
 (.seq (.dreg [mvT 47 0,
 opT 48 (.nilchk (.t 47)),
 opT 49 (.fad 3 (.t 48)),
 opT 50 (.ld1 (.t 49)),
 mvT 51 7,
 opT 52 (.conv .u64 (.t 51)),
 clT 53 40 [(.t 50), (.t 52)],
 mvT 54 0,
 opT 55 (.nilchk (.t 54)),
 opT 56 (.fad 2 (.t 55)),
 opT 57 (.ld1 (.t 56)),
 clT 58 18 [(.t 53), (.t 57)],
 mvT 2 58,
 opT 3 (.mv (.c (.b true)))]
 [0, 1, 2, 3, 4, 5, 7, 8, 9, 10, 6, 11, 12, 13] [0, 1, 3, 7, 0, 16, 63, 0, 128, 384, 896, 2047, 4095, 8191])
 (.ret)))))),
 [.t 2, .t 3]⟩
def k16 : List Nat := [0, 2, 3, 4, 5, 7, 16]
set_option maxRecDepth 100000 in
theorem c16 : compF Go.Proofs.Tryd.prog 1 Go.Proofs.Tryd.f16 = some e16 := by kernel_rfl
/-- (*sandglass/wheel.Wheel).Waits -/
def e17 : IFunc := ⟨9, 1,
 .seq (.reg [opT 2 (.mv (.c (.i .i64 0)))])
 (.seq (.seq (.reg [mvT 3 0,
 clT 4 29 [(.t 3)]])
 (.cond (.t 4)
 (.seq (.reg [opT 2 (.mv (.c (.i .i64 0)))])
 (.ret))
 (.skip)))
 (.seq (.reg [mvT 5 0,
 opT 6 (.nilchk (.t 5)),
 opT 7 (.fad 6 (.t 6)),
 opT 8 (.ld1 (.t 7)),
 mvT 2 8])
 (.ret))),
 [.t 2]⟩
def k17 : List Nat := [0, 2, 4]
set_option maxRecDepth 100000 in
theorem c17 : compF Go.Proofs.Tryd.prog 1 Go.Proofs.Tryd.f17 = some e17 := by kernel_rfl
/-- sandglass/span.Begin -/
def e18 : IFunc := ⟨9, 2,
 .seq (.reg [opT 4 (.mv (.c (.i .u64 0)))])
 (.seq (.reg [mvT 5 0,
 mvT 6 1,
 opT 7 (.mx false (.t 6) [(.c (.i .u64 1))]),
 clT 8 41 [(.t 5), (.t 7)],
 mvT 4 8])
 (.ret)),
 [.t 4]⟩
def k18 : List Nat := [0, 1, 4]
set_option maxRecDepth 100000 in
theorem c18 : compF Go.Proofs.Tryd.prog 2 Go.Proofs.Tryd.f18 = some e18 := by kernel_rfl
/-- (*sandglass/wheel.Wheel).Cursor -/
def e19 : IFunc := ⟨9, 1,
 .seq (.reg [opT 2 (.mv (.c (.i .u64 0)))])
 (.seq (.seq (.reg [mvT 3 0,
 clT 4 29 [(.t 3)]])
 (.cond (.t 4)
 (.seq (.reg [opT 2 (.mv (.c (.i .u64 0)))])
 (.ret))
 (.skip)))
 (.seq (.reg [mvT 5 0,
 opT 6 (.nilchk (.t 5)),
 opT 7 (.fad 3 (.t 6)),
 opT 8 (.ld1 (.t 7)),
 mvT 2 8])
 (.ret))),
 [.t 2]⟩
def k19 : List Nat := [0, 2, 4]
set_option maxRecDepth 100000 in
theorem c19 : compF Go.Proofs.Tryd.prog 1 Go.Proofs.Tryd.f19 = some e19 := by kernel_rfl
/-- sandglass/wheel.New -/
def e20 : IFunc := ⟨45, 3,
 .seq (.reg [opT 6 (.mv (.c .nilp)),
 opT 7 (.mv (.c (.i .i64 0)))])
 (.seq (.seq (.reg [mvT 10 0,
 opT 11 (.ibin .lss (.t 10) (.c (.i .i64 2))),
 mvT 12 11,
 unT 13 12 (.mv (.t 0)),
 unT 14 12 (.ibin .gtr (.t 13) (.c (.i .i64 4096))),
 opT 15 (.pick (.t 12) (.c (.b true)) (.t 14)),
 mvT 16 15,
 unT 17 16 (.mv (.t 1)),
 unT 18 16 (.ibin .lss (.t 17) (.c (.i .u64 1))),
 opT 19 (.pick (.t 16) (.c (.b true)) (.t 18)),
 mvT 20 19,
 unT 21 20 (.mv (.t 1)),
 unT 22 20 (.ibin .gtr (.t 21) (.c (.i .u64 1099511627776))),
 opT 23 (.pick (.t 20) (.c (.b true)) (.t 22)),
 mvT 24 23,
 unT 25 24 (.mv (.t 2)),
 unT 26 24 (.ibin .lss (.t 25) (.c (.i .i64 1))),
 opT 27 (.pick (.t 24) (.c (.b true)) (.t 26)),
 mvT 28 27,
 unT 29 28 (.mv (.t 2)),
 unT 30 28 (.ibin .gtr (.t 29) (.c (.i .i64 65536))),
 opT 31 (.pick (.t 28) (.c (.b true)) (.t 30))])
 (.cond (.t 31)
 (.seq (.reg [opT 6 (.mv (.c .nilp)),
 opT 7 (.mv (.c (.i .i64 2)))])
 (.ret))
 (.skip)))
 (.seq (.reg [mvT 33 0,
 clT 34 42 [(.t 33)],
 mvT 32 34,
 opT 35 (.ext (.t 32) 0),
 opT 36 (.ext (.t 32) 1),
 mvT 8 35,
 mvT 9 36])
 (.seq (.reg [mvT 37 0,
 opT 38 (.mksl 1 24 [.nils] (.t 37) (.t 37)),
 mvT 39 8,
 mvT 40 1,
 mvT 41 2,
 opT 42 (.build [.nils, .nilp, (.i .u64 0), (.i .u64 0), .nils, (.i .i64 0), (.i .i64 0), (.i .i64 0)] [(0, 1, (.t 38)), (1, 1, (.t 39)), (2, 1, (.t 40)), (5, 1, (.t 41))]),
 opT 43 (.box (.t 42)),
 mvT 44 9,
 mvT 6 43,
 mvT 7 44])
 (.ret)))),
 [.t 6, .t 7]⟩
def k20 : List Nat := [0, 1, 2, 6, 7, 8, 9, 31]
set_option maxRecDepth 100000 in
theorem c20 : compF Go.Proofs.Tryd.prog 3 Go.Proofs.Tryd.f20 = some e20 := by kernel_rfl
/-- sandglass/sandglasslaw05.Ints -/
def e26 : IFunc := ⟨26, 2,
 .seq (.reg [opT 4 (.mv (.c (.b false)))])
 (.seq (.seq (.reg [mvT 6 0,
 opT 7 (.len 2 (.t 6)),
 mvT 8 1,
 opT 9 (.len 2 (.t 8)),
 opT 10 (.ibin .neq (.t 7) (.t 9))])
 (.cond (.t 10)
 (.seq (.reg [opT 4 (.mv (.c (.b false)))])
 (.ret))
 (.skip)))
 (.seq (.seq (.reg [mvT 11 0,
 opT 12 (.len 2 (.t 11)),
 opT 13 (.mv (.c (.i .i64 0)))])
 (.block 0
 (.loop
 (.seq (.reg [opT 14 (.ibin .lss (.t 13) (.t 12))])
 (.seq (.cond (.t 14)
 (.skip)
 (.exit 0))
 (.seq (.block 1
 (.seq (.reg [mvT 15 13,
 mvT 5 15])
 (.seq (.dreg [mvT 16 0,
 mvT 17 5,
 opT 18 (.iad 1 (.t 16) (.t 17)),
 opT 19 (.ld1 (.t 18)),
 mvT 20 1,
 mvT 21 5,
 opT 22 (.iad 1 (.t 20) (.t 21)),
 opT 23 (.ld1 (.t 22)),
 opT 24 (.ibin .neq (.t 19) (.t 23))]
 [0, 1, 2, 3, 4, 5, 6, 7, 8] [0, 0, 3, 7, 0, 0, 48, 112, 255])
 (.cond (.t 24)
 (.seq (.reg [opT 4 (.mv (.c (.b false)))])
 (.ret))
 (.skip)))))
 (.reg [opT 25 (.ibin .add (.t 13) (.c (.i .i64 1))),
 mvT 13 25])))))))
 (.seq (.reg [opT 4 (.mv (.c (.b true)))])
 (.ret)))),
 [.t 4]⟩
def k26 : List Nat := [0, 1, 4, 5, 10, 12, 13, 14, 24]
set_option maxRecDepth 100000 in
theorem c26 : compF Go.Proofs.Tryd.prog 2 Go.Proofs.Tryd.f26 = some e26 := by kernel_rfl
/-- (*sandglass/wheel.Wheel).Held -/
def e27 : IFunc := ⟨41, 1,
 .seq (.reg [opT 2 (.mv (.c .nils))])
 (.seq (.seq (.reg [mvT 5 0,
 clT 6 29 [(.t 5)]])
 (.cond (.t 6)
 (.seq (.reg [opT 2 (.mv (.c .nils))])
 (.ret))
 (.skip)))
 (.seq (.reg [opT 3 (.mv (.c .nils))])
 (.seq (.seq (.reg [mvT 7 0,
 opT 8 (.nilchk (.t 7)),
 opT 9 (.fad 0 (.t 8)),
 opT 10 (.ld1 (.t 9)),
 opT 11 (.len 2 (.t 10)),
 opT 12 (.mv (.c (.i .i64 0)))])
 (.block 0
 (.loop
 (.seq (.reg [opT 13 (.ibin .lss (.t 12) (.t 11))])
 (.seq (.cond (.t 13)
 (.skip)
 (.exit 0))
 (.seq (.block 1
 (.seq (.reg [mvT 14 12,
 mvT 4 14])
 (.dreg [mvT 15 3,
 mvT 16 0,
 opT 17 (.nilchk (.t 16)),
 opT 18 (.fad 0 (.t 17)),
 opT 19 (.ld1 (.t 18)),
 mvT 20 0,
 mvT 21 0,
 opT 22 (.nilchk (.t 21)),
 opT 23 (.fad 3 (.t 22)),
 opT 24 (.ld1 (.t 23)),
 clT 25 38 [(.t 20), (.t 24)],
 mvT 26 4,
 opT 27 (.ibin .add (.t 25) (.t 26)),
 mvT 28 0,
 opT 29 (.nilchk (.t 28)),
 opT 30 (.fad 0 (.t 29)),
 opT 31 (.ld1 (.t 30)),
 opT 32 (.len 2 (.t 31)),
 opT 33 (.ibin .rem (.t 27) (.t 32)),
 opT 34 (.iad 1 (.t 19) (.t 33)),
 opT 35 (.ld1 (.t 34)),
 opT 36 (.len 2 (.t 35)),
 opT 37 (.bslice 1 1 [(.i .i64 0)] [(0, 1, (.t 36))]),
 opT 38 (.app 1 8 (.t 15) (.t 37)),
 mvT 3 38]
 [0, 1, 2, 3, 4, 5, 6, 7, 8, 9, 11, 13, 14, 15, 16, 17, 10, 12, 18, 19, 20, 21, 22, 23, 24] [0, 0, 2, 6, 14, 0, 0, 64, 192, 448, 992, 0, 4064, 0, 8192, 24576, 57344, 122880, 262112, 524286, 1048574, 2097150, 4194302, 8388607, 16777215])))
 (.reg [opT 39 (.ibin .add (.t 12) (.c (.i .i64 1))),
 mvT 12 39])))))))
 (.seq (.reg [mvT 40 3,
 mvT 2 40])
 (.ret))))),
 [.t 2]⟩
def k27 : List Nat := [0, 2, 3, 4, 6, 11, 12, 13]
set_option maxRecDepth 100000 in
theorem c27 : compF Go.Proofs.Tryd.prog 1 Go.Proofs.Tryd.f27 = some e27 := by kernel_rfl
/-- (*sandglass/wheel.Wheel).none -/
def e29 : IFunc := ⟨12, 1,
 .seq (.reg [opT 2 (.mv (.c (.b false)))])
 (.seq (.reg [mvT 3 0,
 opT 4 (.eqn 2 false (.t 3) (.c .nilp)),
 mvT 5 4,
 unT 6 5 (.mv (.t 0)),
 unT 7 5 (.nilchk (.t 6)),
 unT 8 5 (.fad 0 (.t 7)),
 unT 9 5 (.ld1 (.t 8)),
 unT 10 5 (.eqn 3 false (.t 9) (.c .nils)),
 opT 11 (.pick (.t 5) (.c (.b true)) (.t 10)),
 mvT 2 11])
 (.ret)),
 [.t 2]⟩
def k29 : List Nat := [0, 2]
set_option maxRecDepth 100000 in
theorem c29 : compF Go.Proofs.Tryd.prog 1 Go.Proofs.Tryd.f29 = some e29 := by kernel_rfl
/-- (*sandglass/wheel.Wheel).stand -/
def e30 : IFunc := ⟨39, 2,
 .seq (.reg [opT 3 (.box (.t 1))])
 (.seq (.dreg [mvT 5 0,
 opT 6 (.fad 1 (.t 3)),
 opT 7 (.ld1 (.t 6)),
 mvT 8 0,
 opT 9 (.nilchk (.t 8)),
 opT 10 (.fad 3 (.t 9)),
 opT 11 (.ld1 (.t 10)),
 opT 12 (.mx false (.t 7) [(.t 11)]),
 mvT 13 0,
 clT 14 46 [(.t 13)],
 opT 15 (.mx true (.t 12) [(.t 14)]),
 clT 16 38 [(.t 5), (.t 15)],
 mvT 4 16]
 [0, 1, 2, 3, 4, 5, 6, 7, 8, 9, 10, 11, 12] [0, 0, 2, 0, 8, 24, 56, 126, 0, 256, 1022, 2047, 4095])
 (.seq (.dreg [mvT 17 0,
 opT 18 (.nilchk (.t 17)),
 opT 19 (.fad 0 (.t 18)),
 opT 20 (.ld1 (.t 19)),
 mvT 21 4,
 mvT 22 0,
 opT 23 (.nilchk (.t 22)),
 opT 24 (.fad 0 (.t 23)),
 opT 25 (.ld1 (.t 24)),
 mvT 26 4,
 opT 27 (.iad 1 (.t 25) (.t 26)),
 opT 28 (.ld1 (.t 27)),
 opT 29 (.ldn 3 (.t 3)),
 opT 30 (.bslice 3 1 [(.i .u64 0), (.i .u64 0), (.i .i64 0)] [(0, 3, (.t 29))]),
 opT 31 (.app 3 24 (.t 28) (.t 30)),
 opT 32 (.iad 1 (.t 20) (.t 21)),
 .op none none (.st 1 (.t 32) (.t 31))]
 [0, 1, 2, 3, 4, 5, 6, 7, 8, 9, 10, 11, 12, 13, 14, 15, 16] [0, 1, 3, 7, 0, 0, 32, 96, 224, 0, 992, 2016, 0, 4096, 16352, 32767, 65535])
 (.reg [mvT 33 0,
 opT 34 (.nilchk (.t 33)),
 opT 35 (.fad 1 (.t 34)),
 opT 36 (.ld1 (.t 35)),
 mvT 37 4,
 clT 38 47 [(.t 36), (.t 37)]]))),
 []⟩
def k30 : List Nat := [0, 1, 3, 4]
set_option maxRecDepth 100000 in
theorem c30 : compF Go.Proofs.Tryd.prog 2 Go.Proofs.Tryd.f30 = some e30 := by kernel_rfl
/-- (*sandglass/wheel.Wheel).out -/
def e31 : IFunc := ⟨93, 2,
 .seq (.reg [opT 4 (.mv (.c .nils))])
 (.seq (.reg [opT 5 (.mv (.c .nils))])
 (.seq (.dreg [mvT 11 1,
 mvT 12 0,
 opT 13 (.nilchk (.t 12)),
 opT 14 (.fad 3 (.t 13)),
 opT 15 (.ld1 (.t 14)),
 opT 16 (.ibin .sub (.t 11) (.t 15)),
 mvT 17 0,
 opT 18 (.nilchk (.t 17)),
 opT 19 (.fad 0 (.t 18)),
 opT 20 (.ld1 (.t 19)),
 opT 21 (.len 2 (.t 20)),
 opT 22 (.ibin .sub (.t 21) (.c (.i .i64 1))),
 opT 23 (.conv .u64 (.t 22)),
 opT 24 (.mx true (.t 16) [(.t 23)]),
 opT 25 (.ibin .add (.t 24) (.c (.i .u64 1))),
 mvT 6 25]
 [0, 1, 2, 3, 4, 5, 6, 7, 8, 9, 10, 11, 12, 13, 14, 15] [0, 0, 2, 6, 14, 31, 0, 64, 192, 448, 960, 1984, 4032, 8191, 16383, 32767])
 (.seq (.seq (.reg [opT 7 (.mv (.c (.i .u64 0)))])
 (.block 0
 (.loop
 (.seq (.seq (.reg [mvT 26 7,
 mvT 27 6,
 opT 28 (.ibin .lss (.t 26) (.t 27))])
 (.cond (.t 28)
 (.skip)
 (.exit 0)))
 (.seq (.block 1
 (.seq (.reg [mvT 31 0,
 mvT 32 0,
 opT 33 (.nilchk (.t 32)),
 opT 34 (.fad 3 (.t 33)),
 opT 35 (.ld1 (.t 34)),
 mvT 36 7,
 clT 37 40 [(.t 35), (.t 36)],
 clT 38 38 [(.t 31), (.t 37)],
 mvT 8 38])
 (.seq (.reg [mvT 40 0,
 opT 41 (.nilchk (.t 40)),
 opT 42 (.fad 1 (.t 41)),
 opT 43 (.ld1 (.t 42)),
 mvT 44 8,
 clT 45 39 [(.t 43), (.t 44)],
 mvT 39 45,
 opT 46 (.ext (.t 39) 0),
 opT 47 (.ext (.t 39) 1),
 mvT 9 46,
 mvT 10 47])
 (.seq (.seq (.reg [mvT 48 10,
 opT 49 (.un .not (.t 48))])
 (.cond (.t 49)
 (.exit 0)
 (.skip)))
 (.seq (.dreg [mvT 50 7,
 mvT 51 9,
 mvT 52 8,
 opT 53 (.ibin .sub (.t 51) (.t 52)),
 mvT 54 0,
 opT 55 (.nilchk (.t 54)),
 opT 56 (.fad 0 (.t 55)),
 opT 57 (.ld1 (.t 56)),
 opT 58 (.len 2 (.t 57)),
 opT 59 (.ibin .add (.t 53) (.t 58)),
 mvT 60 0,
 opT 61 (.nilchk (.t 60)),
 opT 62 (.fad 0 (.t 61)),
 opT 63 (.ld1 (.t 62)),
 opT 64 (.len 2 (.t 63)),
 opT 65 (.ibin .rem (.t 59) (.t 64)),
 opT 66 (.conv .u64 (.t 65)),
 opT 67 (.ibin .add (.t 50) (.t 66)),
 mvT 7 67]
 [0, 1, 2, 3, 4, 5, 6, 7, 8, 9, 10, 11, 12, 13, 14, 15, 16, 17, 18] [0, 0, 0, 6, 0, 16, 48, 112, 240, 510, 0, 1024, 3072, 7168, 15360, 32766, 65534, 131071, 262143])
 (.seq (.reg [mvT 68 7,
 mvT 69 6,
 opT 70 (.ibin .lss (.t 68) (.t 69))])
 (.cond (.t 70)
 (.seq (.reg [mvT 71 5,
 mvT 72 0,
 opT 73 (.nilchk (.t 72)),
 opT 74 (.fad 0 (.t 73)),
 opT 75 (.ld1 (.t 74)),
 mvT 76 9,
 opT 77 (.iad 1 (.t 75) (.t 76)),
 opT 78 (.ld1 (.t 77)),
 opT 79 (.app 3 24 (.t 71) (.t 78)),
 mvT 5 79])
 (.seq (.reg [mvT 80 0,
 opT 81 (.nilchk (.t 80)),
 opT 82 (.fad 0 (.t 81)),
 opT 83 (.ld1 (.t 82)),
 mvT 84 9,
 opT 85 (.iad 1 (.t 83) (.t 84)),
 .op none none (.st 1 (.t 85) (.c .nils))])
 (.reg [mvT 86 0,
 opT 87 (.nilchk (.t 86)),
 opT 88 (.fad 1 (.t 87)),
 opT 89 (.ld1 (.t 88)),
 mvT 90 9,
 clT 91 48 [(.t 89), (.t 90)]])))
 (.skip))))))))
 (.reg [mvT 29 7,
 opT 30 (.ibin .add (.t 29) (.c (.i .u64 1))),
 mvT 7 30]))))))
 (.seq (.reg [mvT 92 5,
 mvT 4 92])
 (.ret))))),
 [.t 4]⟩
def k31 : List Nat := [0, 1, 4, 5, 6, 7, 8, 9, 10, 28, 49, 70]
set_option maxRecDepth 100000 in
theorem c31 : compF Go.Proofs.Tryd.prog 2 Go.Proofs.Tryd.f31 = some e31 := by kernel_rfl
/-- slices.SortFunc[[]sandglass/wheel.thing,sandglass/wheel.thing] -/
def e32 : IFunc := ⟨14, 2,
 .seq (.reg [mvT 5 0,
 opT 6 (.len 2 (.t 5)),
 mvT 4 6])
 (.reg [mvT 7 0,
 mvT 8 4,
 mvT 9 4,
 opT 10 (.conv .u64 (.t 9)),
 clT 11 50 [(.t 10)],
 mvT 12 1,
 clT 13 49 [(.t 7), (.c (.i .i64 0)), (.t 8), (.t 11), (.t 12)]]),
 []⟩
def k32 : List Nat := [0, 1, 4]
set_option maxRecDepth 100000 in
theorem c32 : compF Go.Proofs.Tryd.prog 2 Go.Proofs.Tryd.f32 = some e32 := by kernel_rfl
/-- (*sandglass/wheel.Wheel).Advance$1 -/
def e33 : IFunc := ⟨17, 2,
 .seq (.reg [opT 2 (.box (.t 0)),
 opT 3 (.box (.t 1)),
 opT 4 (.mv (.c (.i .i64 0)))])
 (.seq (.dreg [opT 5 (.fad 1 (.t 2)),
 opT 6 (.ld1 (.t 5)),
 opT 7 (.fad 1 (.t 3)),
 opT 8 (.ld1 (.t 7)),
 clT 9 35 [(.t 6), (.t 8)],
 opT 10 (.fad 2 (.t 2)),
 opT 11 (.ld1 (.t 10)),
 opT 12 (.fad 2 (.t 3)),
 opT 13 (.ld1 (.t 12)),
 clT 14 36 [(.t 11), (.t 13)],
 opT 15 (.bslice 1 2 [(.i .i64 0), (.i .i64 0)] [(0, 1, (.t 9)), (1, 1, (.t 14))]),
 clT 16 34 [(.t 15)],
 mvT 4 16]
 [0, 1, 2, 3, 5, 6, 7, 8, 4, 9, 10, 11, 12] [0, 1, 0, 4, 15, 0, 32, 0, 128, 511, 1023, 2047, 4095])
 (.ret)),
 [.t 4]⟩
def k33 : List Nat := [0, 1, 2, 3, 4]
set_option maxRecDepth 100000 in
theorem c33 : compF Go.Proofs.Tryd.prog 2 Go.Proofs.Tryd.f33 = some e33 := by kernel_rfl
/-- cmp.Or[int] -/
def e34 : IFunc := ⟨18, 1,
 .seq (.reg [opT 2 (.mv (.c (.i .i64 0)))])
 (.seq (.reg [opT 3 (.mv (.c (.i .i64 0)))])
 (.seq (.seq (.reg [mvT 6 0,
 opT 7 (.len 2 (.t 6)),
 opT 8 (.mv (.c (.i .i64 0)))])
 (.block 0
 (.loop
 (.seq (.reg [opT 9 (.ibin .lss (.t 8) (.t 7))])
 (.seq (.cond (.t 9)
 (.skip)
 (.exit 0))
 (.seq (.block 1
 (.seq (.reg [opT 10 (.iad 1 (.t 6) (.t 8)),
 opT 11 (.ld1 (.t 10)),
 mvT 5 11])
 (.seq (.reg [mvT 12 5,
 mvT 13 3,
 opT 14 (.ibin .neq (.t 12) (.t 13))])
 (.cond (.t 14)
 (.seq (.reg [mvT 15 5,
 mvT 2 15])
 (.ret))
 (.skip)))))
 (.reg [opT 16 (.ibin .add (.t 8) (.c (.i .i64 1))),
 mvT 8 16])))))))
 (.seq (.reg [mvT 17 3,
 mvT 2 17])
 (.ret)))),
 [.t 2]⟩
def k34 : List Nat := [0, 2, 3, 5, 6, 7, 8, 9, 14]
set_option maxRecDepth 100000 in
theorem c34 : compF Go.Proofs.Tryd.prog 1 Go.Proofs.Tryd.f34 = some e34 := by kernel_rfl
/-- cmp.Compare[uint64] -/
def e35 : IFunc := ⟨20, 2,
 .seq (.reg [opT 4 (.mv (.c (.i .i64 0)))])
 (.seq (.reg [mvT 7 0,
 clT 8 51 [(.t 7)],
 mvT 5 8])
 (.seq (.reg [mvT 9 1,
 clT 10 51 [(.t 9)],
 mvT 6 10])
 (.seq (.seq (.reg [mvT 11 5])
 (.cond (.t 11)
 (.seq (.seq (.reg [mvT 12 6])
 (.cond (.t 12)
 (.seq (.reg [opT 4 (.mv (.c (.i .i64 0)))])
 (.ret))
 (.skip)))
 (.seq (.reg [opT 4 (.mv (.c (.i .i64 (-1))))])
 (.ret)))
 (.skip)))
 (.seq (.seq (.reg [mvT 13 6])
 (.cond (.t 13)
 (.seq (.reg [opT 4 (.mv (.c (.i .i64 1)))])
 (.ret))
 (.skip)))
 (.seq (.seq (.reg [mvT 14 0,
 mvT 15 1,
 opT 16 (.ibin .lss (.t 14) (.t 15))])
 (.cond (.t 16)
 (.seq (.reg [opT 4 (.mv (.c (.i .i64 (-1))))])
 (.ret))
 (.skip)))
 (.seq (.seq (.reg [mvT 17 0,
 mvT 18 1,
 opT 19 (.ibin .gtr (.t 17) (.t 18))])
 (.cond (.t 19)
 (.seq (.reg [opT 4 (.mv (.c (.i .i64 1)))])
 (.ret))
 (.skip)))
 (.seq (.reg [opT 4 (.mv (.c (.i .i64 0)))])
 (.ret)))))))),
 [.t 4]⟩
def k35 : List Nat := [0, 1, 4, 5, 6, 11, 12, 13, 16, 19]
set_option maxRecDepth 100000 in
theorem c35 : compF Go.Proofs.Tryd.prog 2 Go.Proofs.Tryd.f35 = some e35 := by kernel_rfl
/-- cmp.Compare[int] -/
def e36 : IFunc := ⟨20, 2,
 .seq (.reg [opT 4 (.mv (.c (.i .i64 0)))])
 (.seq (.reg [mvT 7 0,
 clT 8 52 [(.t 7)],
 mvT 5 8])
 (.seq (.reg [mvT 9 1,
 clT 10 52 [(.t 9)],
 mvT 6 10])
 (.seq (.seq (.reg [mvT 11 5])
 (.cond (.t 11)
 (.seq (.seq (.reg [mvT 12 6])
 (.cond (.t 12)
 (.seq (.reg [opT 4 (.mv (.c (.i .i64 0)))])
 (.ret))
 (.skip)))
 (.seq (.reg [opT 4 (.mv (.c (.i .i64 (-1))))])
 (.ret)))
 (.skip)))
 (.seq (.seq (.reg [mvT 13 6])
 (.cond (.t 13)
 (.seq (.reg [opT 4 (.mv (.c (.i .i64 1)))])
 (.ret))
 (.skip)))
 (.seq (.seq (.reg [mvT 14 0,
 mvT 15 1,
 opT 16 (.ibin .lss (.t 14) (.t 15))])
 (.cond (.t 16)
 (.seq (.reg [opT 4 (.mv (.c (.i .i64 (-1))))])
 (.ret))
 (.skip)))
 (.seq (.seq (.reg [mvT 17 0,
 mvT 18 1,
 opT 19 (.ibin .gtr (.t 17) (.t 18))])
 (.cond (.t 19)
 (.seq (.reg [opT 4 (.mv (.c (.i .i64 1)))])
 (.ret))
 (.skip)))
 (.seq (.reg [opT 4 (.mv (.c (.i .i64 0)))])
 (.ret)))))))),
 [.t 4]⟩
def k36 : List Nat := [0, 1, 4, 5, 6, 11, 12, 13, 16, 19]
set_option maxRecDepth 100000 in
theorem c36 : compF Go.Proofs.Tryd.prog 2 Go.Proofs.Tryd.f36 = some e36 := by kernel_rfl
/-- (*sandglass/wheel.Wheel).place -/
def e38 : IFunc := ⟨14, 2,
 .seq (.reg [opT 4 (.mv (.c (.i .i64 0)))])
 (.seq (.reg [mvT 5 1,
 mvT 6 0,
 opT 7 (.nilchk (.t 6)),
 opT 8 (.fad 0 (.t 7)),
 opT 9 (.ld1 (.t 8)),
 opT 10 (.len 2 (.t 9)),
 opT 11 (.conv .u64 (.t 10)),
 opT 12 (.ibin .rem (.t 5) (.t 11)),
 opT 13 (.conv .i64 (.t 12)),
 mvT 4 13])
 (.ret)),
 [.t 4]⟩
def k38 : List Nat := [0, 1, 4]
set_option maxRecDepth 100000 in
theorem c38 : compF Go.Proofs.Tryd.prog 2 Go.Proofs.Tryd.f38 = some e38 := by kernel_rfl
/-- (*sandglass/bitmap.Bits).Round -/
def e39 : IFunc := ⟨20, 2,
 .seq (.reg [opT 4 (.mv (.c (.i .i64 0))),
 opT 5 (.mv (.c (.b false)))])
 (.seq (.seq (.reg [mvT 9 0,
 mvT 10 1,
 clT 11 55 [(.t 9), (.t 10)],
 mvT 8 11,
 opT 12 (.ext (.t 8) 0),
 opT 13 (.ext (.t 8) 1),
 mvT 6 12,
 mvT 7 13])
 (.seq (.reg [mvT 14 7])
 (.cond (.t 14)
 (.seq (.reg [mvT 15 6,
 mvT 4 15,
 opT 5 (.mv (.c (.b true)))])
 (.ret))
 (.skip))))
 (.seq (.reg [mvT 16 0,
 clT 17 55 [(.t 16), (.c (.i .i64 0))],
 opT 18 (.ext (.t 17) 0),
 opT 19 (.ext (.t 17) 1),
 mvT 4 18,
 mvT 5 19])
 (.ret))),
 [.t 4, .t 5]⟩
def k39 : List Nat := [0, 1, 4, 5, 6, 7, 14]
set_option maxRecDepth 100000 in
theorem c39 : compF Go.Proofs.Tryd.prog 2 Go.Proofs.Tryd.f39 = some e39 := by kernel_rfl
/-- sandglass/bitmap.New -/
def e42 : IFunc := ⟨42, 1,
 .seq (.reg [opT 2 (.mv (.c .nilp)),
 opT 3 (.mv (.c (.i .i64 0)))])
 (.seq (.seq (.reg [mvT 6 0,
 opT 7 (.ibin .lss (.t 6) (.c (.i .i64 1))),
 mvT 8 7,
 unT 9 8 (.mv (.t 0)),
 unT 10 8 (.ibin .gtr (.t 9) (.c (.i .i64 65536))),
 opT 11 (.pick (.t 8) (.c (.b true)) (.t 10))])
 (.cond (.t 11)
 (.seq (.reg [opT 2 (.mv (.c .nilp)),
 opT 3 (.mv (.c (.i .i64 2)))])
 (.ret))
 (.skip)))
 (.seq (.reg [mvT 12 0,
 opT 13 (.build [.nils, (.i .i64 0), (.i .i64 0)] [(1, 1, (.t 12))]),
 opT 14 (.box (.t 13)),
 mvT 4 14])
 (.seq (.seq (.reg [mvT 15 0,
 mvT 5 15])
 (.block 0
 (.loop
 (.seq (.seq (.reg [mvT 16 5,
 opT 17 (.ibin .gtr (.t 16) (.c (.i .i64 1))),
 mvT 18 17,
 unT 19 18 (.mv (.t 4)),
 unT 20 18 (.nilchk (.t 19)),
 unT 21 18 (.fad 0 (.t 20)),
 unT 22 18 (.ld1 (.t 21)),
 unT 23 18 (.len 2 (.t 22)),
 unT 24 18 (.ibin .eql (.t 23) (.c (.i .i64 0))),
 opT 25 (.pick (.t 18) (.c (.b true)) (.t 24))])
 (.cond (.t 25)
 (.skip)
 (.exit 0)))
 (.block 1
 (.seq (.reg [mvT 26 5,
 opT 27 (.ibin .add (.t 26) (.c (.i .i64 64))),
 opT 28 (.ibin .sub (.t 27) (.c (.i .i64 1))),
 opT 29 (.ibin .quo (.t 28) (.c (.i .i64 64))),
 mvT 5 29])
 (.dreg [mvT 30 4,
 mvT 31 4,
 opT 32 (.nilchk (.t 31)),
 opT 33 (.fad 0 (.t 32)),
 opT 34 (.ld1 (.t 33)),
 mvT 35 5,
 opT 36 (.mksl 1 8 [(.i .u64 0)] (.t 35) (.t 35)),
 opT 37 (.bslice 1 1 [.nils] [(0, 1, (.t 36))]),
 opT 38 (.app 1 24 (.t 34) (.t 37)),
 opT 39 (.nilchk (.t 30)),
 opT 40 (.fad 0 (.t 39)),
 .op none none (.st 1 (.t 40) (.t 38))]
 [0, 1, 2, 3, 4, 5, 6, 7, 8, 9, 10, 11] [0, 0, 2, 6, 14, 0, 32, 96, 254, 511, 1023, 2047])))))))
 (.seq (.reg [mvT 41 4,
 mvT 2 41,
 opT 3 (.mv (.c (.i .i64 0)))])
 (.ret))))),
 [.t 2, .t 3]⟩
def k42 : List Nat := [0, 2, 3, 4, 5, 11, 25]
set_option maxRecDepth 100000 in
theorem c42 : compF Go.Proofs.Tryd.prog 1 Go.Proofs.Tryd.f42 = some e42 := by kernel_rfl
/-- (*sandglass/wheel.Wheel).last -/
def e46 : IFunc := ⟨15, 1,
 .seq (.reg [opT 2 (.mv (.c (.i .u64 0)))])
 (.seq (.dreg [mvT 3 0,
 opT 4 (.nilchk (.t 3)),
 opT 5 (.fad 3 (.t 4)),
 opT 6 (.ld1 (.t 5)),
 mvT 7 0,
 opT 8 (.nilchk (.t 7)),
 opT 9 (.fad 0 (.t 8)),
 opT 10 (.ld1 (.t 9)),
 opT 11 (.len 2 (.t 10)),
 opT 12 (.ibin .sub (.t 11) (.c (.i .i64 1))),
 opT 13 (.conv .u64 (.t 12)),
 clT 14 40 [(.t 6), (.t 13)],
 mvT 2 14]
 [0, 1, 2, 3, 4, 5, 6, 7, 8, 9, 10, 11, 12] [0, 1, 3, 7, 0, 16, 48, 112, 240, 496, 1008, 2047, 4095])
 (.ret)),
 [.t 2]⟩
def k46 : List Nat := [0, 2]
set_option maxRecDepth 100000 in
theorem c46 : compF Go.Proofs.Tryd.prog 1 Go.Proofs.Tryd.f46 = some e46 := by kernel_rfl
/-- (*sandglass/bitmap.Bits).Set -/
def e47 : IFunc := ⟨49, 2,
 .seq (.reg [opT 4 (.mv (.c (.b false)))])
 (.seq (.seq (.reg [mvT 6 0,
 mvT 7 1,
 clT 8 60 [(.t 6), (.t 7)],
 opT 9 (.un .not (.t 8)),
 mvT 10 9,
 unT 11 10 (.mv (.t 0)),
 unT 12 10 (.mv (.t 1)),
 .call (some 13) (some (10, false)) (.c (.fn (.func 61) [] [])) [(.t 11), (.t 12)],
 opT 14 (.pick (.t 10) (.c (.b true)) (.t 13))])
 (.cond (.t 14)
 (.seq (.reg [opT 4 (.mv (.c (.b false)))])
 (.ret))
 (.skip)))
 (.seq (.seq (.reg [mvT 15 0,
 opT 16 (.nilchk (.t 15)),
 opT 17 (.fad 0 (.t 16)),
 opT 18 (.ld1 (.t 17)),
 opT 19 (.len 2 (.t 18)),
 opT 20 (.mv (.c (.i .i64 0)))])
 (.block 0
 (.loop
 (.seq (.reg [opT 21 (.ibin .lss (.t 20) (.t 19))])
 (.seq (.cond (.t 21)
 (.skip)
 (.exit 0))
 (.seq (.block 1
 (.seq (.reg [mvT 22 20,
 mvT 5 22])
 (.seq (.dreg [mvT 23 0,
 opT 24 (.nilchk (.t 23)),
 opT 25 (.fad 0 (.t 24)),
 opT 26 (.ld1 (.t 25)),
 mvT 27 5,
 opT 28 (.iad 1 (.t 26) (.t 27)),
 opT 29 (.ld1 (.t 28)),
 mvT 30 1,
 opT 31 (.ibin .shr (.t 30) (.c (.i .u64 6))),
 opT 32 (.iad 1 (.t 29) (.t 31)),
 opT 33 (.ld1 (.t 32)),
 mvT 34 1,
 opT 35 (.ibin .rem (.t 34) (.c (.i .i64 64))),
 opT 36 (.ibin .shl (.c (.i .u64 1)) (.t 35)),
 opT 37 (.ibin .or (.t 33) (.t 36)),
 opT 38 (.iad 1 (.t 29) (.t 31)),
 .op none none (.st 1 (.t 38) (.t 37))]
 [0, 1, 2, 3, 4, 5, 6, 7, 8, 9, 10, 11, 12, 13, 14, 15, 16] [0, 1, 3, 7, 0, 31, 63, 0, 128, 511, 1023, 0, 2048, 6144, 16383, 32767, 65535])
 (.reg [mvT 39 1,
 opT 40 (.ibin .shr (.t 39) (.c (.i .u64 6))),
 mvT 1 40]))))
 (.reg [opT 41 (.ibin .add (.t 20) (.c (.i .i64 1))),
 mvT 20 41])))))))
 (.seq (.reg [mvT 42 0,
 opT 43 (.nilchk (.t 42)),
 opT 44 (.fad 2 (.t 43)),
 opT 45 (.ld1 (.t 44)),
 opT 46 (.ibin .add (.t 45) (.c (.i .i64 1))),
 opT 47 (.nilchk (.t 42)),
 opT 48 (.fad 2 (.t 47)),
 .op none none (.st 1 (.t 48) (.t 46))])
 (.seq (.reg [opT 4 (.mv (.c (.b true)))])
 (.ret))))),
 [.t 4]⟩
def k47 : List Nat := [0, 1, 4, 5, 14, 19, 20, 21]
set_option maxRecDepth 100000 in
theorem c47 : compF Go.Proofs.Tryd.prog 2 Go.Proofs.Tryd.f47 = some e47 := by kernel_rfl
/-- (*sandglass/bitmap.Bits).Clear -/
def e48 : IFunc := ⟨51, 2,
 .seq (.reg [opT 4 (.mv (.c (.b false)))])
 (.seq (.seq (.reg [mvT 7 0,
 mvT 8 1,
 clT 9 61 [(.t 7), (.t 8)],
 opT 10 (.un .not (.t 9))])
 (.cond (.t 10)
 (.seq (.reg [opT 4 (.mv (.c (.b false)))])
 (.ret))
 (.skip)))
 (.seq (.seq (.reg [mvT 11 0,
 opT 12 (.nilchk (.t 11)),
 opT 13 (.fad 0 (.t 12)),
 opT 14 (.ld1 (.t 13)),
 opT 15 (.len 2 (.t 14)),
 opT 16 (.mv (.c (.i .i64 0)))])
 (.block 0
 (.loop
 (.seq (.reg [opT 17 (.ibin .lss (.t 16) (.t 15))])
 (.seq (.cond (.t 17)
 (.skip)
 (.exit 0))
 (.seq (.block 1
 (.seq (.reg [mvT 18 16,
 mvT 5 18])
 (.seq (.reg [mvT 19 0,
 opT 20 (.nilchk (.t 19)),
 opT 21 (.fad 0 (.t 20)),
 opT 22 (.ld1 (.t 21)),
 mvT 23 5,
 opT 24 (.iad 1 (.t 22) (.t 23)),
 opT 25 (.ld1 (.t 24)),
 mvT 26 1,
 opT 27 (.ibin .shr (.t 26) (.c (.i .u64 6))),
 opT 28 (.iad 1 (.t 25) (.t 27)),
 mvT 6 28])
 (.seq (.dreg [mvT 29 6,
 opT 30 (.nilchk (.t 29)),
 opT 31 (.ld1 (.t 30)),
 mvT 32 1,
 opT 33 (.ibin .rem (.t 32) (.c (.i .i64 64))),
 opT 34 (.ibin .shl (.c (.i .u64 1)) (.t 33)),
 opT 35 (.ibin .andNot (.t 31) (.t 34)),
 opT 36 (.nilchk (.t 29)),
 .op none none (.st 1 (.t 36) (.t 35))]
 [0, 1, 2, 3, 4, 5, 6, 7, 8] [0, 1, 3, 0, 8, 24, 63, 127, 255])
 (.seq (.seq (.reg [mvT 37 6,
 opT 38 (.nilchk (.t 37)),
 opT 39 (.ld1 (.t 38)),
 opT 40 (.ibin .neq (.t 39) (.c (.i .u64 0)))])
 (.cond (.t 40)
 (.exit 0)
 (.skip)))
 (.reg [mvT 41 1,
 opT 42 (.ibin .shr (.t 41) (.c (.i .u64 6))),
 mvT 1 42]))))))
 (.reg [opT 43 (.ibin .add (.t 16) (.c (.i .i64 1))),
 mvT 16 43])))))))
 (.seq (.reg [mvT 44 0,
 opT 45 (.nilchk (.t 44)),
 opT 46 (.fad 2 (.t 45)),
 opT 47 (.ld1 (.t 46)),
 opT 48 (.ibin .sub (.t 47) (.c (.i .i64 1))),
 opT 49 (.nilchk (.t 44)),
 opT 50 (.fad 2 (.t 49)),
 .op none none (.st 1 (.t 50) (.t 48))])
 (.seq (.reg [opT 4 (.mv (.c (.b true)))])
 (.ret))))),
 [.t 4]⟩
def k48 : List Nat := [0, 1, 4, 5, 6, 10, 15, 16, 17, 40]
set_option maxRecDepth 100000 in
theorem c48 : compF Go.Proofs.Tryd.prog 2 Go.Proofs.Tryd.f48 = some e48 := by kernel_rfl
/-- slices.pdqsortCmpFunc[sandglass/wheel.thing] -/
def e49 : IFunc := ⟨148, 5,
 .seq (.reg [opT 10 (.mv (.c (.b true)))])
 (.seq (.reg [opT 11 (.mv (.c (.b true)))])
 (.block 0
 (.loop
 (.block 1
 (.seq (.reg [mvT 21 2,
 mvT 22 1,
 opT 23 (.ibin .sub (.t 21) (.t 22)),
 mvT 12 23])
 (.seq (.seq (.reg [mvT 24 12,
 opT 25 (.ibin .leq (.t 24) (.c (.i .i64 12)))])
 (.cond (.t 25)
 (.seq (.reg [mvT 26 0,
 mvT 27 1,
 mvT 28 2,
 mvT 29 4,
 clT 30 62 [(.t 26), (.t 27), (.t 28), (.t 29)]])
 (.ret))
 (.skip)))
 (.seq (.seq (.reg [mvT 31 3,
 opT 32 (.ibin .eql (.t 31) (.c (.i .i64 0)))])
 (.cond (.t 32)
 (.seq (.reg [mvT 33 0,
 mvT 34 1,
 mvT 35 2,
 mvT 36 4,
 clT 37 63 [(.t 33), (.t 34), (.t 35), (.t 36)]])
 (.ret))
 (.skip)))
 (.seq (.seq (.reg [mvT 38 10,
 opT 39 (.un .not (.t 38))])
 (.cond (.t 39)
 (.seq (.reg [mvT 40 0,
 mvT 41 1,
 mvT 42 2,
 mvT 43 4,
 clT 44 64 [(.t 40), (.t 41), (.t 42), (.t 43)]])
 (.reg [mvT 45 3,
 opT 46 (.ibin .sub (.t 45) (.c (.i .i64 1))),
 mvT 3 46]))
 (.skip)))
 (.seq (.reg [mvT 48 0,
 mvT 49 1,
 mvT 50 2,
 mvT 51 4,
 clT 52 65 [(.t 48), (.t 49), (.t 50), (.t 51)],
 mvT 47 52,
 opT 53 (.ext (.t 47) 0),
 opT 54 (.ext (.t 47) 1),
 mvT 13 53,
 mvT 14 54])
 (.seq (.seq (.reg [mvT 55 14,
 opT 56 (.ibin .eql (.t 55) (.c (.i .i64 2)))])
 (.cond (.t 56)
 (.seq (.reg [mvT 57 0,
 mvT 58 1,
 mvT 59 2,
 mvT 60 4,
 clT 61 66 [(.t 57), (.t 58), (.t 59), (.t 60)]])
 (.seq (.reg [mvT 62 2,
 opT 63 (.ibin .sub (.t 62) (.c (.i .i64 1))),
 mvT 64 13,
 mvT 65 1,
 opT 66 (.ibin .sub (.t 64) (.t 65)),
 opT 67 (.ibin .sub (.t 63) (.t 66)),
 mvT 13 67])
 (.reg [opT 14 (.mv (.c (.i .i64 1)))])))
 (.skip)))
 (.seq (.seq (.reg [mvT 68 10,
 mvT 69 68,
 onT 70 69 (.mv (.t 11)),
 opT 71 (.pick (.t 69) (.t 70) (.c (.b false))),
 mvT 72 71,
 onT 73 72 (.mv (.t 14)),
 onT 74 72 (.ibin .eql (.t 73) (.c (.i .i64 1))),
 opT 75 (.pick (.t 72) (.t 74) (.c (.b false)))])
 (.cond (.t 75)
 (.seq (.reg [mvT 76 0,
 mvT 77 1,
 mvT 78 2,
 mvT 79 4,
 clT 80 67 [(.t 76), (.t 77), (.t 78), (.t 79)]])
 (.cond (.t 80)
 (.ret)
 (.skip)))
 (.skip)))
 (.seq (.seq (.dreg [mvT 81 1,
 opT 82 (.ibin .gtr (.t 81) (.c (.i .i64 0))),
 mvT 83 82,
 onT 84 83 (.mv (.t 4)),
 onT 85 83 (.mv (.t 0)),
 onT 86 83 (.mv (.t 1)),
 onT 87 83 (.ibin .sub (.t 86) (.c (.i .i64 1))),
 onT 88 83 (.iad 3 (.t 85) (.t 87)),
 onT 89 83 (.ldn 3 (.t 88)),
 onT 90 83 (.mv (.t 0)),
 onT 91 83 (.mv (.t 13)),
 onT 92 83 (.iad 3 (.t 90) (.t 91)),
 onT 93 83 (.ldn 3 (.t 92)),
 .call (some 94) (some (83, true)) (.t 84) [(.t 89), (.t 93)],
 onT 95 83 (.ibin .lss (.t 94) (.c (.i .i64 0))),
 onT 96 83 (.un .not (.t 95)),
 opT 97 (.pick (.t 83) (.t 96) (.c (.b false)))]
 [0, 1, 2, 3, 4, 5, 6, 7, 8, 9, 10, 11, 12, 13, 14, 15, 16] [0, 1, 3, 7, 7, 7, 39, 119, 247, 7, 7, 1543, 3591, 8191, 16383, 32767, 65535])
 (.cond (.t 97)
 (.seq (.reg [mvT 98 0,
 mvT 99 1,
 mvT 100 2,
 mvT 101 13,
 mvT 102 4,
 clT 103 68 [(.t 98), (.t 99), (.t 100), (.t 101), (.t 102)],
 mvT 15 103])
 (.seq (.reg [mvT 104 15,
 mvT 1 104])
 (.exit 1)))
 (.skip)))
 (.seq (.reg [mvT 106 0,
 mvT 107 1,
 mvT 108 2,
 mvT 109 13,
 mvT 110 4,
 clT 111 69 [(.t 106), (.t 107), (.t 108), (.t 109), (.t 110)],
 mvT 105 111,
 opT 112 (.ext (.t 105) 0),
 opT 113 (.ext (.t 105) 1),
 mvT 16 112,
 mvT 17 113])
 (.seq (.reg [mvT 114 17,
 mvT 11 114])
 (.seq (.reg [mvT 115 16,
 mvT 116 1,
 opT 117 (.ibin .sub (.t 115) (.t 116)),
 mvT 118 2,
 mvT 119 16,
 opT 120 (.ibin .sub (.t 118) (.t 119)),
 mvT 18 117,
 mvT 19 120])
 (.seq (.reg [mvT 121 12,
 opT 122 (.ibin .quo (.t 121) (.c (.i .i64 8))),
 mvT 20 122])
 (.seq (.reg [mvT 123 18,
 mvT 124 19,
 opT 125 (.ibin .lss (.t 123) (.t 124))])
 (.cond (.t 125)
 (.seq (.reg [mvT 126 18,
 mvT 127 20,
 opT 128 (.ibin .geq (.t 126) (.t 127)),
 mvT 10 128])
 (.seq (.reg [mvT 129 0,
 mvT 130 1,
 mvT 131 16,
 mvT 132 3,
 mvT 133 4,
 clT 134 49 [(.t 129), (.t 130), (.t 131), (.t 132), (.t 133)]])
 (.reg [mvT 135 16,
 opT 136 (.ibin .add (.t 135) (.c (.i .i64 1))),
 mvT 1 136])))
 (.seq (.reg [mvT 137 19,
 mvT 138 20,
 opT 139 (.ibin .geq (.t 137) (.t 138)),
 mvT 10 139])
 (.seq (.reg [mvT 140 0,
 mvT 141 16,
 opT 142 (.ibin .add (.t 141) (.c (.i .i64 1))),
 mvT 143 2,
 mvT 144 3,
 mvT 145 4,
 clT 146 49 [(.t 140), (.t 142), (.t 143), (.t 144), (.t 145)]])
 (.reg [mvT 147 16,
 mvT 2 147]))))))))))))))))))))),
 []⟩
def k49 : List Nat := [0, 1, 2, 3, 4, 10, 11, 12, 13, 14, 15, 16, 17, 18, 19, 20, 25, 32, 39, 56, 75, 80, 97, 125]
set_option maxRecDepth 100000 in
theorem c49 : compF Go.Proofs.Tryd.prog 5 Go.Proofs.Tryd.f49 = some e49 := by kernel_rfl
/-- math/bits.Len -/
def e50 : IFunc := ⟨8, 1,
 .seq (.reg [opT 2 (.mv (.c (.i .i64 0)))])
 (.seq (.cond (.c (.b false))
 (.seq (.reg [mvT 3 0,
 opT 4 (.conv .u32 (.t 3)),
 clT 5 70 [(.t 4)],
 mvT 2 5])
 (.ret))
 (.skip))
 (.seq (.reg [mvT 6 0,
 clT 7 71 [(.t 6)],
 mvT 2 7])
 (.ret))),
 [.t 2]⟩
def k50 : List Nat := [0, 2]
set_option maxRecDepth 100000 in
theorem c50 : compF Go.Proofs.Tryd.prog 1 Go.Proofs.Tryd.f50 = some e50 := by kernel_rfl
/-- cmp.isNaN[uint64] -/
def e51 : IFunc := ⟨6, 1,
 .seq (.reg [opT 2 (.mv (.c (.b false)))])
 (.seq (.reg [mvT 3 0,
 mvT 4 0,
 opT 5 (.ibin .neq (.t 3) (.t 4)),
 mvT 2 5])
 (.ret)),
 [.t 2]⟩
def k51 : List Nat := [0, 2]
set_option maxRecDepth 100000 in
theorem c51 : compF Go.Proofs.Tryd.prog 1 Go.Proofs.Tryd.f51 = some e51 := by kernel_rfl
/-- cmp.isNaN[int] -/
def e52 : IFunc := ⟨6, 1,
 .seq (.reg [opT 2 (.mv (.c (.b false)))])
 (.seq (.reg [mvT 3 0,
 mvT 4 0,
 opT 5 (.ibin .neq (.t 3) (.t 4)),
 mvT 2 5])
 (.ret)),
 [.t 2]⟩
def k52 : List Nat := [0, 2]
set_option maxRecDepth 100000 in
theorem c52 : compF Go.Proofs.Tryd.prog 1 Go.Proofs.Tryd.f52 = some e52 := by kernel_rfl
/-- (*sandglass/bitmap.Bits).Next -/
def e55 : IFunc := ⟨62, 2,
 .seq (.reg [opT 4 (.mv (.c (.i .i64 0))),
 opT 5 (.mv (.c (.b false)))])
 (.seq (.reg [mvT 10 1,
 opT 11 (.mx false (.t 10) [(.c (.i .i64 0))]),
 mvT 1 11])
 (.seq (.seq (.reg [mvT 12 0,
 mvT 13 1,
 clT 14 60 [(.t 12), (.t 13)],
 opT 15 (.un .not (.t 14))])
 (.cond (.t 15)
 (.seq (.reg [opT 4 (.mv (.c (.i .i64 0))),
 opT 5 (.mv (.c (.b false)))])
 (.ret))
 (.skip)))
 (.seq (.reg [mvT 16 1,
 mvT 6 16])
 (.seq (.seq (.reg [mvT 17 0,
 opT 18 (.nilchk (.t 17)),
 opT 19 (.fad 0 (.t 18)),
 opT 20 (.ld1 (.t 19)),
 opT 21 (.len 2 (.t 20)),
 opT 22 (.mv (.c (.i .i64 0)))])
 (.block 0
 (.loop
 (.seq (.reg [opT 23 (.ibin .lss (.t 22) (.t 21))])
 (.seq (.cond (.t 23)
 (.skip)
 (.exit 0))
 (.seq (.block 1
 (.seq (.reg [mvT 24 22,
 mvT 7 24])
 (.seq (.reg [mvT 25 6,
 opT 26 (.ibin .shr (.t 25) (.c (.i .u64 6))),
 mvT 8 26])
 (.seq (.seq (.reg [mvT 27 8,
 mvT 28 0,
 opT 29 (.nilchk (.t 28)),
 opT 30 (.fad 0 (.t 29)),
 opT 31 (.ld1 (.t 30)),
 mvT 32 7,
 opT 33 (.iad 1 (.t 31) (.t 32)),
 opT 34 (.ld1 (.t 33)),
 opT 35 (.len 2 (.t 34)),
 opT 36 (.ibin .lss (.t 27) (.t 35))])
 (.cond (.t 36)
 (.seq (.reg [mvT 37 0,
 opT 38 (.nilchk (.t 37)),
 opT 39 (.fad 0 (.t 38)),
 opT 40 (.ld1 (.t 39)),
 mvT 41 7,
 opT 42 (.iad 1 (.t 40) (.t 41)),
 opT 43 (.ld1 (.t 42)),
 mvT 44 8,
 opT 45 (.iad 1 (.t 43) (.t 44)),
 opT 46 (.ld1 (.t 45)),
 mvT 47 6,
 opT 48 (.ibin .rem (.t 47) (.c (.i .i64 64))),
 opT 49 (.ibin .shr (.t 46) (.t 48)),
 mvT 9 49])
 (.seq (.reg [mvT 50 9,
 opT 51 (.ibin .neq (.t 50) (.c (.i .u64 0)))])
 (.cond (.t 51)
 (.seq (.reg [mvT 52 0,
 mvT 53 7,
 mvT 54 6,
 mvT 55 9,
 clT 56 74 [(.t 55)],
 opT 57 (.ibin .add (.t 54) (.t 56)),
 clT 58 73 [(.t 52), (.t 53), (.t 57)],
 mvT 4 58,
 opT 5 (.mv (.c (.b true)))])
 (.ret))
 (.skip))))
 (.skip)))
 (.reg [mvT 59 8,
 opT 60 (.ibin .add (.t 59) (.c (.i .i64 1))),
 mvT 6 60])))))
 (.reg [opT 61 (.ibin .add (.t 22) (.c (.i .i64 1))),
 mvT 22 61])))))))
 (.seq (.reg [opT 4 (.mv (.c (.i .i64 0))),
 opT 5 (.mv (.c (.b false)))])
 (.ret)))))),
 [.t 4, .t 5]⟩
def k55 : List Nat := [0, 1, 4, 5, 6, 7, 8, 9, 15, 21, 22, 23, 36, 51]
set_option maxRecDepth 100000 in
theorem c55 : compF Go.Proofs.Tryd.prog 2 Go.Proofs.Tryd.f55 = some e55 := by kernel_rfl
/-- (*sandglass/bitmap.Bits).place -/
def e60 : IFunc := ⟨19, 2,
 .seq (.reg [opT 4 (.mv (.c (.b false)))])
 (.seq (.reg [mvT 5 0,
 opT 6 (.eqn 2 true (.t 5) (.c .nilp)),
 mvT 7 6,
 onT 8 7 (.mv (.t 1)),
 onT 9 7 (.ibin .geq (.t 8) (.c (.i .i64 0))),
 opT 10 (.pick (.t 7) (.t 9) (.c (.b false))),
 mvT 11 10,
 onT 12 11 (.mv (.t 1)),
 onT 13 11 (.mv (.t 0)),
 onT 14 11 (.nilchk (.t 13)),
 onT 15 11 (.fad 1 (.t 14)),
 onT 16 11 (.ld1 (.t 15)),
 onT 17 11 (.ibin .lss (.t 12) (.t 16)),
 opT 18 (.pick (.t 11) (.t 17) (.c (.b false))),
 mvT 4 18])
 (.ret)),
 [.t 4]⟩
def k60 : List Nat := [0, 1, 4]
set_option maxRecDepth 100000 in
theorem c60 : compF Go.Proofs.Tryd.prog 2 Go.Proofs.Tryd.f60 = some e60 := by kernel_rfl
/-- (*sandglass/bitmap.Bits).Has -/
def e61 : IFunc := ⟨25, 2,
 .seq (.reg [opT 4 (.mv (.c (.b false)))])
 (.seq (.reg [mvT 5 0,
 mvT 6 1,
 clT 7 60 [(.t 5), (.t 6)],
 mvT 8 7,
 onT 9 8 (.mv (.t 0)),
 onT 10 8 (.nilchk (.t 9)),
 onT 11 8 (.fad 0 (.t 10)),
 onT 12 8 (.ld1 (.t 11)),
 onT 13 8 (.iad 1 (.t 12) (.c (.i .i64 0))),
 onT 14 8 (.ld1 (.t 13)),
 onT 15 8 (.mv (.t 1)),
 onT 16 8 (.ibin .shr (.t 15) (.c (.i .u64 6))),
 onT 17 8 (.iad 1 (.t 14) (.t 16)),
 onT 18 8 (.ld1 (.t 17)),
 onT 19 8 (.mv (.t 1)),
 onT 20 8 (.ibin .rem (.t 19) (.c (.i .i64 64))),
 onT 21 8 (.ibin .shr (.t 18) (.t 20)),
 onT 22 8 (.ibin .and (.t 21) (.c (.i .u64 1))),
 onT 23 8 (.ibin .eql (.t 22) (.c (.i .u64 1))),
 opT 24 (.pick (.t 8) (.t 23) (.c (.b false))),
 mvT 4 24])
 (.ret)),
 [.t 4]⟩
def k61 : List Nat := [0, 1, 4]
set_option maxRecDepth 100000 in
theorem c61 : compF Go.Proofs.Tryd.prog 2 Go.Proofs.Tryd.f61 = some e61 := by kernel_rfl
/-- slices.insertionSortCmpFunc[sandglass/wheel.thing] -/
def e62 : IFunc := ⟨53, 4,
 .seq (.reg [mvT 10 1,
 opT 11 (.ibin .add (.t 10) (.c (.i .i64 1))),
 mvT 8 11])
 (.block 0
 (.loop
 (.seq (.seq (.reg [mvT 12 8,
 mvT 13 2,
 opT 14 (.ibin .lss (.t 12) (.t 13))])
 (.cond (.t 14)
 (.skip)
 (.exit 0)))
 (.seq (.block 1
 (.seq (.reg [mvT 17 8,
 mvT 9 17])
 (.block 2
 (.loop
 (.seq (.seq (.dreg [mvT 18 9,
 mvT 19 1,
 opT 20 (.ibin .gtr (.t 18) (.t 19)),
 mvT 21 20,
 onT 22 21 (.mv (.t 3)),
 onT 23 21 (.mv (.t 0)),
 onT 24 21 (.mv (.t 9)),
 onT 25 21 (.iad 3 (.t 23) (.t 24)),
 onT 26 21 (.ldn 3 (.t 25)),
 onT 27 21 (.mv (.t 0)),
 onT 28 21 (.mv (.t 9)),
 onT 29 21 (.ibin .sub (.t 28) (.c (.i .i64 1))),
 onT 30 21 (.iad 3 (.t 27) (.t 29)),
 onT 31 21 (.ldn 3 (.t 30)),
 .call (some 32) (some (21, true)) (.t 22) [(.t 26), (.t 31)],
 onT 33 21 (.ibin .lss (.t 32) (.c (.i .i64 0))),
 opT 34 (.pick (.t 21) (.t 33) (.c (.b false)))]
 [0, 1, 2, 3, 4, 5, 6, 7, 8, 9, 10, 11, 12, 13, 14, 15, 16] [0, 0, 3, 7, 15, 15, 15, 111, 239, 15, 15, 1039, 3599, 7695, 16383, 32767, 65535])
 (.cond (.t 34)
 (.skip)
 (.exit 2)))
 (.seq (.block 3
 (.dreg [mvT 37 0,
 mvT 38 9,
 mvT 39 0,
 mvT 40 9,
 opT 41 (.ibin .sub (.t 40) (.c (.i .i64 1))),
 mvT 42 0,
 mvT 43 9,
 opT 44 (.ibin .sub (.t 43) (.c (.i .i64 1))),
 opT 45 (.iad 3 (.t 42) (.t 44)),
 opT 46 (.ldn 3 (.t 45)),
 mvT 47 0,
 mvT 48 9,
 opT 49 (.iad 3 (.t 47) (.t 48)),
 opT 50 (.ldn 3 (.t 49)),
 opT 51 (.iad 3 (.t 37) (.t 38)),
 .op none none (.st 3 (.t 51) (.t 46)),
 opT 52 (.iad 3 (.t 39) (.t 41)),
 .op none none (.st 3 (.t 52) (.t 50))]
 [0, 1, 2, 3, 4, 5, 6, 7, 8, 9, 10, 11, 12, 13, 14, 15, 16, 17] [0, 0, 0, 0, 8, 0, 0, 64, 224, 480, 0, 0, 3072, 7168, 16355, 32739, 65535, 131071]))
 (.reg [mvT 35 9,
 opT 36 (.ibin .sub (.t 35) (.c (.i .i64 1))),
 mvT 9 36])))))))
 (.reg [mvT 15 8,
 opT 16 (.ibin .add (.t 15) (.c (.i .i64 1))),
 mvT 8 16]))))),
 []⟩
def k62 : List Nat := [0, 1, 2, 3, 8, 9, 14, 34]
set_option maxRecDepth 100000 in
theorem c62 : compF Go.Proofs.Tryd.prog 4 Go.Proofs.Tryd.f62 = some e62 := by kernel_rfl
/-- slices.heapSortCmpFunc[sandglass/wheel.thing] -/
def e63 : IFunc := ⟨60, 4,
 .seq (.reg [mvT 13 1,
 mvT 8 13])
 (.seq (.reg [opT 9 (.mv (.c (.i .i64 0)))])
 (.seq (.reg [mvT 14 2,
 mvT 15 1,
 opT 16 (.ibin .sub (.t 14) (.t 15)),
 mvT 10 16])
 (.seq (.seq (.reg [mvT 17 10,
 opT 18 (.ibin .sub (.t 17) (.c (.i .i64 1))),
 opT 19 (.ibin .quo (.t 18) (.c (.i .i64 2))),
 mvT 11 19])
 (.block 0
 (.loop
 (.seq (.seq (.reg [mvT 20 11,
 opT 21 (.ibin .geq (.t 20) (.c (.i .i64 0)))])
 (.cond (.t 21)
 (.skip)
 (.exit 0)))
 (.seq (.block 1
 (.reg [mvT 24 0,
 mvT 25 11,
 mvT 26 10,
 mvT 27 8,
 mvT 28 3,
 clT 29 75 [(.t 24), (.t 25), (.t 26), (.t 27), (.t 28)]]))
 (.reg [mvT 22 11,
 opT 23 (.ibin .sub (.t 22) (.c (.i .i64 1))),
 mvT 11 23]))))))
 (.seq (.reg [mvT 30 10,
 opT 31 (.ibin .sub (.t 30) (.c (.i .i64 1))),
 mvT 12 31])
 (.block 2
 (.loop
 (.seq (.seq (.reg [mvT 32 12,
 opT 33 (.ibin .geq (.t 32) (.c (.i .i64 0)))])
 (.cond (.t 33)
 (.skip)
 (.exit 2)))
 (.seq (.block 3
 (.seq (.dreg [mvT 36 0,
 mvT 37 8,
 mvT 38 0,
 mvT 39 8,
 mvT 40 12,
 opT 41 (.ibin .add (.t 39) (.t 40)),
 mvT 42 0,
 mvT 43 8,
 mvT 44 12,
 opT 45 (.ibin .add (.t 43) (.t 44)),
 opT 46 (.iad 3 (.t 42) (.t 45)),
 opT 47 (.ldn 3 (.t 46)),
 mvT 48 0,
 mvT 49 8,
 opT 50 (.iad 3 (.t 48) (.t 49)),
 opT 51 (.ldn 3 (.t 50)),
 opT 52 (.iad 3 (.t 36) (.t 37)),
 .op none none (.st 3 (.t 52) (.t 47)),
 opT 53 (.iad 3 (.t 38) (.t 41)),
 .op none none (.st 3 (.t 53) (.t 51))]
 [0, 1, 2, 3, 4, 5, 6, 7, 8, 9, 10, 11, 12, 13, 14, 15, 16, 17, 18, 19] [0, 0, 0, 0, 0, 24, 0, 0, 0, 384, 960, 1984, 0, 0, 12288, 28672, 65475, 131011, 262143, 524287])
 (.reg [mvT 54 0,
 mvT 55 9,
 mvT 56 12,
 mvT 57 8,
 mvT 58 3,
 clT 59 75 [(.t 54), (.t 55), (.t 56), (.t 57), (.t 58)]])))
 (.reg [mvT 34 12,
 opT 35 (.ibin .sub (.t 34) (.c (.i .i64 1))),
 mvT 12 35]))))))))),
 []⟩
def k63 : List Nat := [0, 1, 2, 3, 8, 9, 10, 11, 12, 21, 33]
set_option maxRecDepth 100000 in
theorem c63 : compF Go.Proofs.Tryd.prog 4 Go.Proofs.Tryd.f63 = some e63 := by kernel_rfl
/-- slices.breakPatternsCmpFunc[sandglass/wheel.thing] -/
def e64 : IFunc := ⟨67, 4,
 .seq (.reg [mvT 13 2,
 mvT 14 1,
 opT 15 (.ibin .sub (.t 13) (.t 14)),
 mvT 8 15])
 (.seq (.reg [mvT 16 8,
 opT 17 (.ibin .geq (.t 16) (.c (.i .i64 8)))])
 (.cond (.t 17)
 (.seq (.reg [mvT 18 8,
 opT 19 (.conv .u64 (.t 18)),
 opT 9 (.box (.c (.agg [(.i .u64 0)]))),
 .op none none (.st 1 (.t 9) (.t 19))])
 (.seq (.reg [mvT 20 8,
 clT 21 76 [(.t 20)],
 mvT 10 21])
 (.seq (.reg [mvT 22 1,
 mvT 23 8,
 opT 24 (.ibin .quo (.t 23) (.c (.i .i64 4))),
 opT 25 (.ibin .mul (.t 24) (.c (.i .i64 2))),
 opT 26 (.ibin .add (.t 22) (.t 25)),
 opT 27 (.ibin .sub (.t 26) (.c (.i .i64 1))),
 mvT 11 27])
 (.block 0
 (.loop
 (.seq (.seq (.reg [mvT 28 11,
 mvT 29 1,
 mvT 30 8,
 opT 31 (.ibin .quo (.t 30) (.c (.i .i64 4))),
 opT 32 (.ibin .mul (.t 31) (.c (.i .i64 2))),
 opT 33 (.ibin .add (.t 29) (.t 32)),
 opT 34 (.ibin .add (.t 33) (.c (.i .i64 1))),
 opT 35 (.ibin .leq (.t 28) (.t 34))])
 (.cond (.t 35)
 (.skip)
 (.exit 0)))
 (.seq (.block 1
 (.seq (.reg [clT 38 77 [(.t 9)],
 mvT 39 10,
 opT 40 (.ibin .sub (.t 39) (.c (.i .u64 1))),
 opT 41 (.ibin .and (.t 38) (.t 40)),
 opT 42 (.conv .i64 (.t 41)),
 mvT 12 42])
 (.seq (.seq (.reg [mvT 43 12,
 mvT 44 8,
 opT 45 (.ibin .geq (.t 43) (.t 44))])
 (.cond (.t 45)
 (.reg [mvT 46 12,
 mvT 47 8,
 opT 48 (.ibin .sub (.t 46) (.t 47)),
 mvT 12 48])
 (.skip)))
 (.dreg [mvT 49 0,
 mvT 50 11,
 mvT 51 0,
 mvT 52 1,
 mvT 53 12,
 opT 54 (.ibin .add (.t 52) (.t 53)),
 mvT 55 0,
 mvT 56 1,
 mvT 57 12,
 opT 58 (.ibin .add (.t 56) (.t 57)),
 opT 59 (.iad 3 (.t 55) (.t 58)),
 opT 60 (.ldn 3 (.t 59)),
 mvT 61 0,
 mvT 62 11,
 opT 63 (.iad 3 (.t 61) (.t 62)),
 opT 64 (.ldn 3 (.t 63)),
 opT 65 (.iad 3 (.t 49) (.t 50)),
 .op none none (.st 3 (.t 65) (.t 60)),
 opT 66 (.iad 3 (.t 51) (.t 54)),
 .op none none (.st 3 (.t 66) (.t 64))]
 [0, 1, 2, 3, 4, 5, 6, 7, 8, 9, 10, 11, 12, 13, 14, 15, 16, 17, 18, 19] [0, 0, 0, 0, 0, 24, 0, 0, 0, 384, 960, 1984, 0, 0, 12288, 28672, 65475, 131011, 262143, 524287]))))
 (.reg [mvT 36 11,
 opT 37 (.ibin .add (.t 36) (.c (.i .i64 1))),
 mvT 11 37]))))))))
 (.skip))),
 []⟩
def k64 : List Nat := [0, 1, 2, 8, 9, 10, 11, 12, 17, 35, 45]
set_option maxRecDepth 100000 in
theorem c64 : compF Go.Proofs.Tryd.prog 4 Go.Proofs.Tryd.f64 = some e64 := by kernel_rfl
/-- slices.choosePivotCmpFunc[sandglass/wheel.thing] -/
def e65 : IFunc := ⟨63, 4,
 .seq (.reg [opT 8 (.mv (.c (.i .i64 0))),
 opT 9 (.mv (.c (.i .i64 0)))])
 (.seq (.reg [mvT 15 2,
 mvT 16 1,
 opT 17 (.ibin .sub (.t 15) (.t 16)),
 mvT 10 17])
 (.seq (.reg [opT 11 (.box (.c (.agg [(.i .i64 0)])))])
 (.seq (.reg [mvT 18 1,
 mvT 19 10,
 opT 20 (.ibin .quo (.t 19) (.c (.i .i64 4))),
 opT 21 (.ibin .mul (.t 20) (.c (.i .i64 1))),
 opT 22 (.ibin .add (.t 18) (.t 21)),
 mvT 12 22])
 (.seq (.reg [mvT 23 1,
 mvT 24 10,
 opT 25 (.ibin .quo (.t 24) (.c (.i .i64 4))),
 opT 26 (.ibin .mul (.t 25) (.c (.i .i64 2))),
 opT 27 (.ibin .add (.t 23) (.t 26)),
 mvT 13 27])
 (.seq (.reg [mvT 28 1,
 mvT 29 10,
 opT 30 (.ibin .quo (.t 29) (.c (.i .i64 4))),
 opT 31 (.ibin .mul (.t 30) (.c (.i .i64 3))),
 opT 32 (.ibin .add (.t 28) (.t 31)),
 mvT 14 32])
 (.seq (.seq (.reg [mvT 33 10,
 opT 34 (.ibin .geq (.t 33) (.c (.i .i64 8)))])
 (.cond (.t 34)
 (.seq (.seq (.reg [mvT 35 10,
 opT 36 (.ibin .geq (.t 35) (.c (.i .i64 50)))])
 (.cond (.t 36)
 (.seq (.reg [mvT 37 0,
 mvT 38 12,
 mvT 39 3,
 clT 40 78 [(.t 37), (.t 38), (.t 11), (.t 39)],
 mvT 12 40])
 (.seq (.reg [mvT 41 0,
 mvT 42 13,
 mvT 43 3,
 clT 44 78 [(.t 41), (.t 42), (.t 11), (.t 43)],
 mvT 13 44])
 (.reg [mvT 45 0,
 mvT 46 14,
 mvT 47 3,
 clT 48 78 [(.t 45), (.t 46), (.t 11), (.t 47)],
 mvT 14 48])))
 (.skip)))
 (.reg [mvT 49 0,
 mvT 50 12,
 mvT 51 13,
 mvT 52 14,
 mvT 53 3,
 clT 54 79 [(.t 49), (.t 50), (.t 51), (.t 52), (.t 11), (.t 53)],
 mvT 13 54]))
 (.skip)))
 (.seq (.reg [opT 55 (.ld1 (.t 11))])
 (.block 0
 (.seq (.reg [opT 58 (.ibin .eql (.t 55) (.c (.i .i64 0))),
 mvT 57 58])
 (.cond (.t 57)
 (.seq (.reg [mvT 59 13,
 mvT 8 59,
 opT 9 (.mv (.c (.i .i64 1)))])
 (.ret))
 (.seq (.reg [opT 61 (.ibin .eql (.t 55) (.c (.i .i64 12))),
 mvT 60 61])
 (.cond (.t 60)
 (.seq (.reg [mvT 62 13,
 mvT 8 62,
 opT 9 (.mv (.c (.i .i64 2)))])
 (.ret))
 (.seq (.reg [mvT 56 13,
 mvT 8 56,
 opT 9 (.mv (.c (.i .i64 0)))])
 (.ret)))))))))))))),
 [.t 8, .t 9]⟩
def k65 : List Nat := [0, 1, 2, 3, 8, 9, 10, 11, 12, 13, 14, 34, 36, 55, 57, 60]
set_option maxRecDepth 100000 in
theorem c65 : compF Go.Proofs.Tryd.prog 4 Go.Proofs.Tryd.f65 = some e65 := by kernel_rfl
/-- slices.reverseRangeCmpFunc[sandglass/wheel.thing] -/
def e66 : IFunc := ⟨34, 4,
 .seq (.reg [mvT 10 1,
 mvT 8 10])
 (.seq (.reg [mvT 11 2,
 opT 12 (.ibin .sub (.t 11) (.c (.i .i64 1))),
 mvT 9 12])
 (.block 0
 (.loop
 (.seq (.seq (.reg [mvT 13 8,
 mvT 14 9,
 opT 15 (.ibin .lss (.t 13) (.t 14))])
 (.cond (.t 15)
 (.skip)
 (.exit 0)))
 (.block 1
 (.seq (.dreg [mvT 16 0,
 mvT 17 8,
 mvT 18 0,
 mvT 19 9,
 mvT 20 0,
 mvT 21 9,
 opT 22 (.iad 3 (.t 20) (.t 21)),
 opT 23 (.ldn 3 (.t 22)),
 mvT 24 0,
 mvT 25 8,
 opT 26 (.iad 3 (.t 24) (.t 25)),
 opT 27 (.ldn 3 (.t 26)),
 opT 28 (.iad 3 (.t 16) (.t 17)),
 .op none none (.st 3 (.t 28) (.t 23)),
 opT 29 (.iad 3 (.t 18) (.t 19)),
 .op none none (.st 3 (.t 29) (.t 27))]
 [0, 1, 2, 3, 4, 5, 6, 7, 8, 9, 10, 11, 12, 13, 14, 15] [0, 0, 0, 0, 0, 0, 48, 112, 0, 0, 768, 1792, 4083, 8179, 16383, 32767])
 (.seq (.reg [mvT 30 8,
 opT 31 (.ibin .add (.t 30) (.c (.i .i64 1))),
 mvT 8 31])
 (.reg [mvT 32 9,
 opT 33 (.ibin .sub (.t 32) (.c (.i .i64 1))),
 mvT 9 33])))))))),
 []⟩
def k66 : List Nat := [0, 1, 2, 8, 9, 15]
set_option maxRecDepth 100000 in
theorem c66 : compF Go.Proofs.Tryd.prog 4 Go.Proofs.Tryd.f66 = some e66 := by kernel_rfl
/-- slices.partialInsertionSortCmpFunc[sandglass/wheel.thing] -/
def e67 : IFunc := ⟨141, 4,
 .seq (.reg [opT 8 (.mv (.c (.b false)))])
 (.seq (.reg [mvT 13 1,
 opT 14 (.ibin .add (.t 13) (.c (.i .i64 1))),
 mvT 9 14])
 (.seq (.seq (.reg [opT 10 (.mv (.c (.i .i64 0)))])
 (.block 0
 (.loop
 (.seq (.seq (.reg [mvT 15 10,
 opT 16 (.ibin .lss (.t 15) (.c (.i .i64 5)))])
 (.cond (.t 16)
 (.skip)
 (.exit 0)))
 (.seq (.block 1
 (.seq (.block 2
 (.loop
 (.seq (.seq (.dreg [mvT 19 9,
 mvT 20 2,
 opT 21 (.ibin .lss (.t 19) (.t 20)),
 mvT 22 21,
 onT 23 22 (.mv (.t 3)),
 onT 24 22 (.mv (.t 0)),
 onT 25 22 (.mv (.t 9)),
 onT 26 22 (.iad 3 (.t 24) (.t 25)),
 onT 27 22 (.ldn 3 (.t 26)),
 onT 28 22 (.mv (.t 0)),
 onT 29 22 (.mv (.t 9)),
 onT 30 22 (.ibin .sub (.t 29) (.c (.i .i64 1))),
 onT 31 22 (.iad 3 (.t 28) (.t 30)),
 onT 32 22 (.ldn 3 (.t 31)),
 .call (some 33) (some (22, true)) (.t 23) [(.t 27), (.t 32)],
 onT 34 22 (.ibin .lss (.t 33) (.c (.i .i64 0))),
 onT 35 22 (.un .not (.t 34)),
 opT 36 (.pick (.t 22) (.t 35) (.c (.b false)))]
 [0, 1, 2, 3, 4, 5, 6, 7, 8, 9, 10, 11, 12, 13, 14, 15, 16, 17] [0, 0, 3, 7, 15, 15, 15, 111, 239, 15, 15, 1039, 3599, 7695, 16383, 32767, 65535, 131071])
 (.cond (.t 36)
 (.skip)
 (.exit 2)))
 (.block 3
 (.reg [mvT 37 9,
 opT 38 (.ibin .add (.t 37) (.c (.i .i64 1))),
 mvT 9 38])))))
 (.seq (.seq (.reg [mvT 39 9,
 mvT 40 2,
 opT 41 (.ibin .eql (.t 39) (.t 40))])
 (.cond (.t 41)
 (.seq (.reg [opT 8 (.mv (.c (.b true)))])
 (.ret))
 (.skip)))
 (.seq (.seq (.reg [mvT 42 2,
 mvT 43 1,
 opT 44 (.ibin .sub (.t 42) (.t 43)),
 opT 45 (.ibin .lss (.t 44) (.c (.i .i64 50)))])
 (.cond (.t 45)
 (.seq (.reg [opT 8 (.mv (.c (.b false)))])
 (.ret))
 (.skip)))
 (.seq (.dreg [mvT 46 0,
 mvT 47 9,
 mvT 48 0,
 mvT 49 9,
 opT 50 (.ibin .sub (.t 49) (.c (.i .i64 1))),
 mvT 51 0,
 mvT 52 9,
 opT 53 (.ibin .sub (.t 52) (.c (.i .i64 1))),
 opT 54 (.iad 3 (.t 51) (.t 53)),
 opT 55 (.ldn 3 (.t 54)),
 mvT 56 0,
 mvT 57 9,
 opT 58 (.iad 3 (.t 56) (.t 57)),
 opT 59 (.ldn 3 (.t 58)),
 opT 60 (.iad 3 (.t 46) (.t 47)),
 .op none none (.st 3 (.t 60) (.t 55)),
 opT 61 (.iad 3 (.t 48) (.t 50)),
 .op none none (.st 3 (.t 61) (.t 59))]
 [0, 1, 2, 3, 4, 5, 6, 7, 8, 9, 10, 11, 12, 13, 14, 15, 16, 17] [0, 0, 0, 0, 8, 0, 0, 64, 224, 480, 0, 0, 3072, 7168, 16355, 32739, 65535, 131071])
 (.seq (.seq (.reg [mvT 62 9,
 mvT 63 1,
 opT 64 (.ibin .sub (.t 62) (.t 63)),
 opT 65 (.ibin .geq (.t 64) (.c (.i .i64 2)))])
 (.cond (.t 65)
 (.seq (.reg [mvT 66 9,
 opT 67 (.ibin .sub (.t 66) (.c (.i .i64 1))),
 mvT 11 67])
 (.block 4
 (.loop
 (.seq (.seq (.reg [mvT 68 11,
 opT 69 (.ibin .geq (.t 68) (.c (.i .i64 1)))])
 (.cond (.t 69)
 (.skip)
 (.exit 4)))
 (.seq (.block 5
 (.seq (.seq (.dreg [mvT 72 3,
 mvT 73 0,
 mvT 74 11,
 opT 75 (.iad 3 (.t 73) (.t 74)),
 opT 76 (.ldn 3 (.t 75)),
 mvT 77 0,
 mvT 78 11,
 opT 79 (.ibin .sub (.t 78) (.c (.i .i64 1))),
 opT 80 (.iad 3 (.t 77) (.t 79)),
 opT 81 (.ldn 3 (.t 80)),
 .call (some 82) none (.t 72) [(.t 76), (.t 81)],
 opT 83 (.ibin .lss (.t 82) (.c (.i .i64 0))),
 opT 84 (.un .not (.t 83))]
 [0, 1, 2, 3, 4, 5, 6, 7, 8, 9, 10, 11, 12] [0, 0, 0, 6, 14, 0, 0, 64, 224, 480, 1023, 2047, 4095])
 (.cond (.t 84)
 (.exit 4)
 (.skip)))
 (.dreg [mvT 85 0,
 mvT 86 11,
 mvT 87 0,
 mvT 88 11,
 opT 89 (.ibin .sub (.t 88) (.c (.i .i64 1))),
 mvT 90 0,
 mvT 91 11,
 opT 92 (.ibin .sub (.t 91) (.c (.i .i64 1))),
 opT 93 (.iad 3 (.t 90) (.t 92)),
 opT 94 (.ldn 3 (.t 93)),
 mvT 95 0,
 mvT 96 11,
 opT 97 (.iad 3 (.t 95) (.t 96)),
 opT 98 (.ldn 3 (.t 97)),
 opT 99 (.iad 3 (.t 85) (.t 86)),
 .op none none (.st 3 (.t 99) (.t 94)),
 opT 100 (.iad 3 (.t 87) (.t 89)),
 .op none none (.st 3 (.t 100) (.t 98))]
 [0, 1, 2, 3, 4, 5, 6, 7, 8, 9, 10, 11, 12, 13, 14, 15, 16, 17] [0, 0, 0, 0, 8, 0, 0, 64, 224, 480, 0, 0, 3072, 7168, 16355, 32739, 65535, 131071])))
 (.reg [mvT 70 11,
 opT 71 (.ibin .sub (.t 70) (.c (.i .i64 1))),
 mvT 11 71]))))))
 (.skip)))
 (.seq (.reg [mvT 101 2,
 mvT 102 9,
 opT 103 (.ibin .sub (.t 101) (.t 102)),
 opT 104 (.ibin .geq (.t 103) (.c (.i .i64 2)))])
 (.cond (.t 104)
 (.seq (.reg [mvT 105 9,
 opT 106 (.ibin .add (.t 105) (.c (.i .i64 1))),
 mvT 12 106])
 (.block 6
 (.loop
 (.seq (.seq (.reg [mvT 107 12,
 mvT 108 2,
 opT 109 (.ibin .lss (.t 107) (.t 108))])
 (.cond (.t 109)
 (.skip)
 (.exit 6)))
 (.seq (.block 7
 (.seq (.seq (.dreg [mvT 112 3,
 mvT 113 0,
 mvT 114 12,
 opT 115 (.iad 3 (.t 113) (.t 114)),
 opT 116 (.ldn 3 (.t 115)),
 mvT 117 0,
 mvT 118 12,
 opT 119 (.ibin .sub (.t 118) (.c (.i .i64 1))),
 opT 120 (.iad 3 (.t 117) (.t 119)),
 opT 121 (.ldn 3 (.t 120)),
 .call (some 122) none (.t 112) [(.t 116), (.t 121)],
 opT 123 (.ibin .lss (.t 122) (.c (.i .i64 0))),
 opT 124 (.un .not (.t 123))]
 [0, 1, 2, 3, 4, 5, 6, 7, 8, 9, 10, 11, 12] [0, 0, 0, 6, 14, 0, 0, 64, 224, 480, 1023, 2047, 4095])
 (.cond (.t 124)
 (.exit 6)
 (.skip)))
 (.dreg [mvT 125 0,
 mvT 126 12,
 mvT 127 0,
 mvT 128 12,
 opT 129 (.ibin .sub (.t 128) (.c (.i .i64 1))),
 mvT 130 0,
 mvT 131 12,
 opT 132 (.ibin .sub (.t 131) (.c (.i .i64 1))),
 opT 133 (.iad 3 (.t 130) (.t 132)),
 opT 134 (.ldn 3 (.t 133)),
 mvT 135 0,
 mvT 136 12,
 opT 137 (.iad 3 (.t 135) (.t 136)),
 opT 138 (.ldn 3 (.t 137)),
 opT 139 (.iad 3 (.t 125) (.t 126)),
 .op none none (.st 3 (.t 139) (.t 134)),
 opT 140 (.iad 3 (.t 127) (.t 129)),
 .op none none (.st 3 (.t 140) (.t 138))]
 [0, 1, 2, 3, 4, 5, 6, 7, 8, 9, 10, 11, 12, 13, 14, 15, 16, 17] [0, 0, 0, 0, 8, 0, 0, 64, 224, 480, 0, 0, 3072, 7168, 16355, 32739, 65535, 131071])))
 (.reg [mvT 110 12,
 opT 111 (.ibin .add (.t 110) (.c (.i .i64 1))),
 mvT 12 111]))))))
 (.skip)))))))))
 (.reg [mvT 17 10,
 opT 18 (.ibin .add (.t 17) (.c (.i .i64 1))),
 mvT 10 18]))))))
 (.seq (.reg [opT 8 (.mv (.c (.b false)))])
 (.ret)))),
 [.t 8]⟩
def k67 : List Nat := [0, 1, 2, 3, 8, 9, 10, 11, 12, 16, 36, 41, 45, 65, 69, 84, 104, 109, 124]
set_option maxRecDepth 100000 in
theorem c67 : compF Go.Proofs.Tryd.prog 4 Go.Proofs.Tryd.f67 = some e67 := by kernel_rfl
/-- slices.partitionCmpFunc[sandglass/wheel.thing] -/
def e69 : IFunc := ⟨178, 5,
 .seq (.reg [opT 10 (.mv (.c (.i .i64 0))),
 opT 11 (.mv (.c (.b false)))])
 (.seq (.dreg [mvT 14 0,
 mvT 15 1,
 mvT 16 0,
 mvT 17 3,
 mvT 18 0,
 mvT 19 3,
 opT 20 (.iad 3 (.t 18) (.t 19)),
 opT 21 (.ldn 3 (.t 20)),
 mvT 22 0,
 mvT 23 1,
 opT 24 (.iad 3 (.t 22) (.t 23)),
 opT 25 (.ldn 3 (.t 24)),
 opT 26 (.iad 3 (.t 14) (.t 15)),
 .op none none (.st 3 (.t 26) (.t 21)),
 opT 27 (.iad 3 (.t 16) (.t 17)),
 .op none none (.st 3 (.t 27) (.t 25))]
 [0, 1, 2, 3, 4, 5, 6, 7, 8, 9, 10, 11, 12, 13, 14, 15] [0, 0, 0, 0, 0, 0, 48, 112, 0, 0, 768, 1792, 4083, 8179, 16383, 32767])
 (.seq (.reg [mvT 28 1,
 opT 29 (.ibin .add (.t 28) (.c (.i .i64 1))),
 mvT 30 2,
 opT 31 (.ibin .sub (.t 30) (.c (.i .i64 1))),
 mvT 12 29,
 mvT 13 31])
 (.seq (.block 0
 (.loop
 (.seq (.seq (.dreg [mvT 32 12,
 mvT 33 13,
 opT 34 (.ibin .leq (.t 32) (.t 33)),
 mvT 35 34,
 onT 36 35 (.mv (.t 4)),
 onT 37 35 (.mv (.t 0)),
 onT 38 35 (.mv (.t 12)),
 onT 39 35 (.iad 3 (.t 37) (.t 38)),
 onT 40 35 (.ldn 3 (.t 39)),
 onT 41 35 (.mv (.t 0)),
 onT 42 35 (.mv (.t 1)),
 onT 43 35 (.iad 3 (.t 41) (.t 42)),
 onT 44 35 (.ldn 3 (.t 43)),
 .call (some 45) (some (35, true)) (.t 36) [(.t 40), (.t 44)],
 onT 46 35 (.ibin .lss (.t 45) (.c (.i .i64 0))),
 opT 47 (.pick (.t 35) (.t 46) (.c (.b false)))]
 [0, 1, 2, 3, 4, 5, 6, 7, 8, 9, 10, 11, 12, 13, 14, 15] [0, 0, 3, 7, 15, 15, 15, 111, 239, 15, 15, 1551, 3599, 8191, 16383, 32767])
 (.cond (.t 47)
 (.skip)
 (.exit 0)))
 (.block 1
 (.reg [mvT 48 12,
 opT 49 (.ibin .add (.t 48) (.c (.i .i64 1))),
 mvT 12 49])))))
 (.seq (.block 2
 (.loop
 (.seq (.seq (.dreg [mvT 50 12,
 mvT 51 13,
 opT 52 (.ibin .leq (.t 50) (.t 51)),
 mvT 53 52,
 onT 54 53 (.mv (.t 4)),
 onT 55 53 (.mv (.t 0)),
 onT 56 53 (.mv (.t 13)),
 onT 57 53 (.iad 3 (.t 55) (.t 56)),
 onT 58 53 (.ldn 3 (.t 57)),
 onT 59 53 (.mv (.t 0)),
 onT 60 53 (.mv (.t 1)),
 onT 61 53 (.iad 3 (.t 59) (.t 60)),
 onT 62 53 (.ldn 3 (.t 61)),
 .call (some 63) (some (53, true)) (.t 54) [(.t 58), (.t 62)],
 onT 64 53 (.ibin .lss (.t 63) (.c (.i .i64 0))),
 onT 65 53 (.un .not (.t 64)),
 opT 66 (.pick (.t 53) (.t 65) (.c (.b false)))]
 [0, 1, 2, 3, 4, 5, 6, 7, 8, 9, 10, 11, 12, 13, 14, 15, 16] [0, 0, 3, 7, 15, 15, 15, 111, 239, 15, 15, 1551, 3599, 8191, 16383, 32767, 65535])
 (.cond (.t 66)
 (.skip)
 (.exit 2)))
 (.block 3
 (.reg [mvT 67 13,
 opT 68 (.ibin .sub (.t 67) (.c (.i .i64 1))),
 mvT 13 68])))))
 (.seq (.seq (.reg [mvT 69 12,
 mvT 70 13,
 opT 71 (.ibin .gtr (.t 69) (.t 70))])
 (.cond (.t 71)
 (.seq (.dreg [mvT 72 0,
 mvT 73 13,
 mvT 74 0,
 mvT 75 1,
 mvT 76 0,
 mvT 77 1,
 opT 78 (.iad 3 (.t 76) (.t 77)),
 opT 79 (.ldn 3 (.t 78)),
 mvT 80 0,
 mvT 81 13,
 opT 82 (.iad 3 (.t 80) (.t 81)),
 opT 83 (.ldn 3 (.t 82)),
 opT 84 (.iad 3 (.t 72) (.t 73)),
 .op none none (.st 3 (.t 84) (.t 79)),
 opT 85 (.iad 3 (.t 74) (.t 75)),
 .op none none (.st 3 (.t 85) (.t 83))]
 [0, 1, 2, 3, 4, 5, 6, 7, 8, 9, 10, 11, 12, 13, 14, 15] [0, 0, 0, 0, 0, 0, 48, 112, 0, 0, 768, 1792, 4083, 8179, 16383, 32767])
 (.seq (.reg [mvT 86 13,
 mvT 10 86,
 opT 11 (.mv (.c (.b true)))])
 (.ret)))
 (.skip)))
 (.seq (.dreg [mvT 87 0,
 mvT 88 12,
 mvT 89 0,
 mvT 90 13,
 mvT 91 0,
 mvT 92 13,
 opT 93 (.iad 3 (.t 91) (.t 92)),
 opT 94 (.ldn 3 (.t 93)),
 mvT 95 0,
 mvT 96 12,
 opT 97 (.iad 3 (.t 95) (.t 96)),
 opT 98 (.ldn 3 (.t 97)),
 opT 99 (.iad 3 (.t 87) (.t 88)),
 .op none none (.st 3 (.t 99) (.t 94)),
 opT 100 (.iad 3 (.t 89) (.t 90)),
 .op none none (.st 3 (.t 100) (.t 98))]
 [0, 1, 2, 3, 4, 5, 6, 7, 8, 9, 10, 11, 12, 13, 14, 15] [0, 0, 0, 0, 0, 0, 48, 112, 0, 0, 768, 1792, 4083, 8179, 16383, 32767])
 (.seq (.reg [mvT 101 12,
 opT 102 (.ibin .add (.t 101) (.c (.i .i64 1))),
 mvT 12 102])
 (.seq (.reg [mvT 103 13,
 opT 104 (.ibin .sub (.t 103) (.c (.i .i64 1))),
 mvT 13 104])
 (.seq (.block 4
 (.loop
 (.block 5
 (.seq (.block 6
 (.loop
 (.seq (.seq (.dreg [mvT 105 12,
 mvT 106 13,
 opT 107 (.ibin .leq (.t 105) (.t 106)),
 mvT 108 107,
 onT 109 108 (.mv (.t 4)),
 onT 110 108 (.mv (.t 0)),
 onT 111 108 (.mv (.t 12)),
 onT 112 108 (.iad 3 (.t 110) (.t 111)),
 onT 113 108 (.ldn 3 (.t 112)),
 onT 114 108 (.mv (.t 0)),
 onT 115 108 (.mv (.t 1)),
 onT 116 108 (.iad 3 (.t 114) (.t 115)),
 onT 117 108 (.ldn 3 (.t 116)),
 .call (some 118) (some (108, true)) (.t 109) [(.t 113), (.t 117)],
 onT 119 108 (.ibin .lss (.t 118) (.c (.i .i64 0))),
 opT 120 (.pick (.t 108) (.t 119) (.c (.b false)))]
 [0, 1, 2, 3, 4, 5, 6, 7, 8, 9, 10, 11, 12, 13, 14, 15] [0, 0, 3, 7, 15, 15, 15, 111, 239, 15, 15, 1551, 3599, 8191, 16383, 32767])
 (.cond (.t 120)
 (.skip)
 (.exit 6)))
 (.block 7
 (.reg [mvT 121 12,
 opT 122 (.ibin .add (.t 121) (.c (.i .i64 1))),
 mvT 12 122])))))
 (.seq (.block 8
 (.loop
 (.seq (.seq (.dreg [mvT 123 12,
 mvT 124 13,
 opT 125 (.ibin .leq (.t 123) (.t 124)),
 mvT 126 125,
 onT 127 126 (.mv (.t 4)),
 onT 128 126 (.mv (.t 0)),
 onT 129 126 (.mv (.t 13)),
 onT 130 126 (.iad 3 (.t 128) (.t 129)),
 onT 131 126 (.ldn 3 (.t 130)),
 onT 132 126 (.mv (.t 0)),
 onT 133 126 (.mv (.t 1)),
 onT 134 126 (.iad 3 (.t 132) (.t 133)),
 onT 135 126 (.ldn 3 (.t 134)),
 .call (some 136) (some (126, true)) (.t 127) [(.t 131), (.t 135)],
 onT 137 126 (.ibin .lss (.t 136) (.c (.i .i64 0))),
 onT 138 126 (.un .not (.t 137)),
 opT 139 (.pick (.t 126) (.t 138) (.c (.b false)))]
 [0, 1, 2, 3, 4, 5, 6, 7, 8, 9, 10, 11, 12, 13, 14, 15, 16] [0, 0, 3, 7, 15, 15, 15, 111, 239, 15, 15, 1551, 3599, 8191, 16383, 32767, 65535])
 (.cond (.t 139)
 (.skip)
 (.exit 8)))
 (.block 9
 (.reg [mvT 140 13,
 opT 141 (.ibin .sub (.t 140) (.c (.i .i64 1))),
 mvT 13 141])))))
 (.seq (.seq (.reg [mvT 142 12,
 mvT 143 13,
 opT 144 (.ibin .gtr (.t 142) (.t 143))])
 (.cond (.t 144)
 (.exit 4)
 (.skip)))
 (.seq (.dreg [mvT 145 0,
 mvT 146 12,
 mvT 147 0,
 mvT 148 13,
 mvT 149 0,
 mvT 150 13,
 opT 151 (.iad 3 (.t 149) (.t 150)),
 opT 152 (.ldn 3 (.t 151)),
 mvT 153 0,
 mvT 154 12,
 opT 155 (.iad 3 (.t 153) (.t 154)),
 opT 156 (.ldn 3 (.t 155)),
 opT 157 (.iad 3 (.t 145) (.t 146)),
 .op none none (.st 3 (.t 157) (.t 152)),
 opT 158 (.iad 3 (.t 147) (.t 148)),
 .op none none (.st 3 (.t 158) (.t 156))]
 [0, 1, 2, 3, 4, 5, 6, 7, 8, 9, 10, 11, 12, 13, 14, 15] [0, 0, 0, 0, 0, 0, 48, 112, 0, 0, 768, 1792, 4083, 8179, 16383, 32767])
 (.seq (.reg [mvT 159 12,
 opT 160 (.ibin .add (.t 159) (.c (.i .i64 1))),
 mvT 12 160])
 (.reg [mvT 161 13,
 opT 162 (.ibin .sub (.t 161) (.c (.i .i64 1))),
 mvT 13 162])))))))))
 (.seq (.dreg [mvT 163 0,
 mvT 164 13,
 mvT 165 0,
 mvT 166 1,
 mvT 167 0,
 mvT 168 1,
 opT 169 (.iad 3 (.t 167) (.t 168)),
 opT 170 (.ldn 3 (.t 169)),
 mvT 171 0,
 mvT 172 13,
 opT 173 (.iad 3 (.t 171) (.t 172)),
 opT 174 (.ldn 3 (.t 173)),
 opT 175 (.iad 3 (.t 163) (.t 164)),
 .op none none (.st 3 (.t 175) (.t 170)),
 opT 176 (.iad 3 (.t 165) (.t 166)),
 .op none none (.st 3 (.t 176) (.t 174))]
 [0, 1, 2, 3, 4, 5, 6, 7, 8, 9, 10, 11, 12, 13, 14, 15] [0, 0, 0, 0, 0, 0, 48, 112, 0, 0, 768, 1792, 4083, 8179, 16383, 32767])
 (.seq (.reg [mvT 177 13,
 mvT 10 177,
 opT 11 (.mv (.c (.b false)))])
 (.ret)))))))))))),
 [.t 10, .t 11]⟩
def k69 : List Nat := [0, 1, 2, 3, 4, 10, 11, 12, 13, 47, 66, 71, 120, 139, 144]
set_option maxRecDepth 100000 in
theorem c69 : compF Go.Proofs.Tryd.prog 5 Go.Proofs.Tryd.f69 = some e69 := by kernel_rfl
/-- math/bits.Len32 -/
def e70 : IFunc := ⟨19, 1,
 .seq (.reg [opT 2 (.mv (.c (.i .i64 0)))])
 (.seq (.seq (.reg [mvT 3 0,
 opT 4 (.ibin .geq (.t 3) (.c (.i .u32 65536)))])
 (.cond (.t 4)
 (.seq (.reg [mvT 5 0,
 opT 6 (.ibin .shr (.t 5) (.c (.i .u64 16))),
 mvT 0 6])
 (.reg [opT 2 (.mv (.c (.i .i64 16)))]))
 (.skip)))
 (.seq (.seq (.reg [mvT 7 0,
 opT 8 (.ibin .geq (.t 7) (.c (.i .u32 256)))])
 (.cond (.t 8)
 (.seq (.reg [mvT 9 0,
 opT 10 (.ibin .shr (.t 9) (.c (.i .u64 8))),
 mvT 0 10])
 (.reg [mvT 11 2,
 opT 12 (.ibin .add (.t 11) (.c (.i .i64 8))),
 mvT 2 12]))
 (.skip)))
 (.seq (.reg [mvT 13 2,
 mvT 14 0,
 opT 15 (.conv .u8 (.t 14)),
 opT 16 (.ixs (.c (.s ⟨#[0, 1, 2, 2, 3, 3, 3, 3, 4, 4, 4, 4, 4, 4, 4, 4, 5, 5, 5, 5, 5, 5, 5, 5, 5, 5, 5, 5, 5, 5, 5, 5, 6, 6, 6, 6, 6, 6, 6, 6, 6, 6, 6, 6, 6, 6, 6, 6, 6, 6, 6, 6, 6, 6, 6, 6, 6, 6, 6, 6, 6, 6, 6, 6, 7, 7, 7, 7, 7, 7, 7, 7, 7, 7, 7, 7, 7, 7, 7, 7, 7, 7, 7, 7, 7, 7, 7, 7, 7, 7, 7, 7, 7, 7, 7, 7, 7, 7, 7, 7, 7, 7, 7, 7, 7, 7, 7, 7, 7, 7, 7, 7, 7, 7, 7, 7, 7, 7, 7, 7, 7, 7, 7, 7, 7, 7, 7, 7, 8, 8, 8, 8, 8, 8, 8, 8, 8, 8, 8, 8, 8, 8, 8, 8, 8, 8, 8, 8, 8, 8, 8, 8, 8, 8, 8, 8, 8, 8, 8, 8, 8, 8, 8, 8, 8, 8, 8, 8, 8, 8, 8, 8, 8, 8, 8, 8, 8, 8, 8, 8, 8, 8, 8, 8, 8, 8, 8, 8, 8, 8, 8, 8, 8, 8, 8, 8, 8, 8, 8, 8, 8, 8, 8, 8, 8, 8, 8, 8, 8, 8, 8, 8, 8, 8, 8, 8, 8, 8, 8, 8, 8, 8, 8, 8, 8, 8, 8, 8, 8, 8, 8, 8, 8, 8, 8, 8, 8, 8, 8, 8, 8, 8, 8, 8, 8, 8, 8, 8, 8, 8, 8, 8, 8, 8, 8, 8]⟩)) (.t 15)),
 opT 17 (.conv .i64 (.t 16)),
 opT 18 (.ibin .add (.t 13) (.t 17)),
 mvT 2 18])
 (.ret)))),
 [.t 2]⟩
def k70 : List Nat := [0, 2, 4, 8]
set_option maxRecDepth 100000 in
theorem c70 : compF Go.Proofs.Tryd.prog 1 Go.Proofs.Tryd.f70 = some e70 := by kernel_rfl
/-- math/bits.Len64 -/
def e71 : IFunc := ⟨25, 1,
 .seq (.reg [opT 2 (.mv (.c (.i .i64 0)))])
 (.seq (.seq (.reg [mvT 3 0,
 opT 4 (.ibin .geq (.t 3) (.c (.i .u64 4294967296)))])
 (.cond (.t 4)
 (.seq (.reg [mvT 5 0,
 opT 6 (.ibin .shr (.t 5) (.c (.i .u64 32))),
 mvT 0 6])
 (.reg [opT 2 (.mv (.c (.i .i64 32)))]))
 (.skip)))
 (.seq (.seq (.reg [mvT 7 0,
 opT 8 (.ibin .geq (.t 7) (.c (.i .u64 65536)))])
 (.cond (.t 8)
 (.seq (.reg [mvT 9 0,
 opT 10 (.ibin .shr (.t 9) (.c (.i .u64 16))),
 mvT 0 10])
 (.reg [mvT 11 2,
 opT 12 (.ibin .add (.t 11) (.c (.i .i64 16))),
 mvT 2 12]))
 (.skip)))
 (.seq (.seq (.reg [mvT 13 0,
 opT 14 (.ibin .geq (.t 13) (.c (.i .u64 256)))])
 (.cond (.t 14)
 (.seq (.reg [mvT 15 0,
 opT 16 (.ibin .shr (.t 15) (.c (.i .u64 8))),
 mvT 0 16])
 (.reg [mvT 17 2,
 opT 18 (.ibin .add (.t 17) (.c (.i .i64 8))),
 mvT 2 18]))
 (.skip)))
 (.seq (.reg [mvT 19 2,
 mvT 20 0,
 opT 21 (.conv .u8 (.t 20)),
 opT 22 (.ixs (.c (.s ⟨#[0, 1, 2, 2, 3, 3, 3, 3, 4, 4, 4, 4, 4, 4, 4, 4, 5, 5, 5, 5, 5, 5, 5, 5, 5, 5, 5, 5, 5, 5, 5, 5, 6, 6, 6, 6, 6, 6, 6, 6, 6, 6, 6, 6, 6, 6, 6, 6, 6, 6, 6, 6, 6, 6, 6, 6, 6, 6, 6, 6, 6, 6, 6, 6, 7, 7, 7, 7, 7, 7, 7, 7, 7, 7, 7, 7, 7, 7, 7, 7, 7, 7, 7, 7, 7, 7, 7, 7, 7, 7, 7, 7, 7, 7, 7, 7, 7, 7, 7, 7, 7, 7, 7, 7, 7, 7, 7, 7, 7, 7, 7, 7, 7, 7, 7, 7, 7, 7, 7, 7, 7, 7, 7, 7, 7, 7, 7, 7, 8, 8, 8, 8, 8, 8, 8, 8, 8, 8, 8, 8, 8, 8, 8, 8, 8, 8, 8, 8, 8, 8, 8, 8, 8, 8, 8, 8, 8, 8, 8, 8, 8, 8, 8, 8, 8, 8, 8, 8, 8, 8, 8, 8, 8, 8, 8, 8, 8, 8, 8, 8, 8, 8, 8, 8, 8, 8, 8, 8, 8, 8, 8, 8, 8, 8, 8, 8, 8, 8, 8, 8, 8, 8, 8, 8, 8, 8, 8, 8, 8, 8, 8, 8, 8, 8, 8, 8, 8, 8, 8, 8, 8, 8, 8, 8, 8, 8, 8, 8, 8, 8, 8, 8, 8, 8, 8, 8, 8, 8, 8, 8, 8, 8, 8, 8, 8, 8, 8, 8, 8, 8, 8, 8, 8, 8, 8, 8]⟩)) (.t 21)),
 opT 23 (.conv .i64 (.t 22)),
 opT 24 (.ibin .add (.t 19) (.t 23)),
 mvT 2 24])
 (.ret))))),
 [.t 2]⟩
def k71 : List Nat := [0, 2, 4, 8, 14]
set_option maxRecDepth 100000 in
theorem c71 : compF Go.Proofs.Tryd.prog 1 Go.Proofs.Tryd.f71 = some e71 := by kernel_rfl
-- NOT 72 math/bits.Div64
/-- (*sandglass/bitmap.Bits).down -/
def e73 : IFunc := ⟨31, 3,
 .seq (.reg [opT 6 (.mv (.c (.i .i64 0)))])
 (.seq (.seq (.reg [mvT 8 1,
 opT 9 (.mv (.c (.i .i64 0)))])
 (.block 0
 (.loop
 (.seq (.reg [opT 10 (.ibin .lss (.t 9) (.t 8))])
 (.seq (.cond (.t 10)
 (.skip)
 (.exit 0))
 (.seq (.block 1
 (.seq (.reg [mvT 11 9,
 mvT 7 11])
 (.reg [mvT 12 2,
 opT 13 (.ibin .shl (.t 12) (.c (.i .u64 6))),
 mvT 14 0,
 opT 15 (.nilchk (.t 14)),
 opT 16 (.fad 0 (.t 15)),
 opT 17 (.ld1 (.t 16)),
 mvT 18 1,
 opT 19 (.ibin .sub (.t 18) (.c (.i .i64 1))),
 mvT 20 7,
 opT 21 (.ibin .sub (.t 19) (.t 20)),
 opT 22 (.iad 1 (.t 17) (.t 21)),
 opT 23 (.ld1 (.t 22)),
 mvT 24 2,
 opT 25 (.iad 1 (.t 23) (.t 24)),
 opT 26 (.ld1 (.t 25)),
 clT 27 74 [(.t 26)],
 opT 28 (.ibin .add (.t 13) (.t 27)),
 mvT 2 28])))
 (.reg [opT 29 (.ibin .add (.t 9) (.c (.i .i64 1))),
 mvT 9 29])))))))
 (.seq (.reg [mvT 30 2,
 mvT 6 30])
 (.ret))),
 [.t 6]⟩
def k73 : List Nat := [0, 1, 2, 6, 7, 8, 9, 10]
set_option maxRecDepth 100000 in
theorem c73 : compF Go.Proofs.Tryd.prog 3 Go.Proofs.Tryd.f73 = some e73 := by kernel_rfl
-- NOT 74 math/bits.TrailingZeros64
/-- slices.siftDownCmpFunc[sandglass/wheel.thing] -/
def e75 : IFunc := ⟨82, 5,
 .seq (.reg [mvT 12 1,
 mvT 10 12])
 (.block 0
 (.loop
 (.block 1
 (.seq (.reg [mvT 13 10,
 opT 14 (.ibin .mul (.c (.i .i64 2)) (.t 13)),
 opT 15 (.ibin .add (.t 14) (.c (.i .i64 1))),
 mvT 11 15])
 (.seq (.seq (.reg [mvT 16 11,
 mvT 17 2,
 opT 18 (.ibin .geq (.t 16) (.t 17))])
 (.cond (.t 18)
 (.exit 0)
 (.skip)))
 (.seq (.seq (.dreg [mvT 19 11,
 opT 20 (.ibin .add (.t 19) (.c (.i .i64 1))),
 mvT 21 2,
 opT 22 (.ibin .lss (.t 20) (.t 21)),
 mvT 23 22,
 onT 24 23 (.mv (.t 4)),
 onT 25 23 (.mv (.t 0)),
 onT 26 23 (.mv (.t 3)),
 onT 27 23 (.mv (.t 11)),
 onT 28 23 (.ibin .add (.t 26) (.t 27)),
 onT 29 23 (.iad 3 (.t 25) (.t 28)),
 onT 30 23 (.ldn 3 (.t 29)),
 onT 31 23 (.mv (.t 0)),
 onT 32 23 (.mv (.t 3)),
 onT 33 23 (.mv (.t 11)),
 onT 34 23 (.ibin .add (.t 32) (.t 33)),
 onT 35 23 (.ibin .add (.t 34) (.c (.i .i64 1))),
 onT 36 23 (.iad 3 (.t 31) (.t 35)),
 onT 37 23 (.ldn 3 (.t 36)),
 .call (some 38) (some (23, true)) (.t 24) [(.t 30), (.t 37)],
 onT 39 23 (.ibin .lss (.t 38) (.c (.i .i64 0))),
 opT 40 (.pick (.t 23) (.t 39) (.c (.b false)))]
 [0, 1, 2, 3, 4, 5, 6, 7, 8, 9, 10, 11, 12, 13, 14, 15, 16, 17, 18, 19, 20, 21] [0, 1, 0, 7, 15, 31, 31, 31, 31, 415, 991, 2015, 31, 31, 31, 24607, 57375, 127007, 258079, 524287, 1048575, 2097151])
 (.cond (.t 40)
 (.reg [mvT 41 11,
 opT 42 (.ibin .add (.t 41) (.c (.i .i64 1))),
 mvT 11 42])
 (.skip)))
 (.seq (.seq (.dreg [mvT 43 4,
 mvT 44 0,
 mvT 45 3,
 mvT 46 10,
 opT 47 (.ibin .add (.t 45) (.t 46)),
 opT 48 (.iad 3 (.t 44) (.t 47)),
 opT 49 (.ldn 3 (.t 48)),
 mvT 50 0,
 mvT 51 3,
 mvT 52 11,
 opT 53 (.ibin .add (.t 51) (.t 52)),
 opT 54 (.iad 3 (.t 50) (.t 53)),
 opT 55 (.ldn 3 (.t 54)),
 .call (some 56) none (.t 43) [(.t 49), (.t 55)],
 opT 57 (.ibin .lss (.t 56) (.c (.i .i64 0))),
 opT 58 (.un .not (.t 57))]
 [0, 1, 2, 3, 4, 5, 6, 7, 8, 9, 10, 11, 12, 13, 14, 15] [0, 0, 0, 0, 12, 30, 62, 0, 0, 0, 768, 1920, 3968, 8191, 16383, 32767])
 (.cond (.t 58)
 (.ret)
 (.skip)))
 (.seq (.dreg [mvT 59 0,
 mvT 60 3,
 mvT 61 10,
 opT 62 (.ibin .add (.t 60) (.t 61)),
 mvT 63 0,
 mvT 64 3,
 mvT 65 11,
 opT 66 (.ibin .add (.t 64) (.t 65)),
 mvT 67 0,
 mvT 68 3,
 mvT 69 11,
 opT 70 (.ibin .add (.t 68) (.t 69)),
 opT 71 (.iad 3 (.t 67) (.t 70)),
 opT 72 (.ldn 3 (.t 71)),
 mvT 73 0,
 mvT 74 3,
 mvT 75 10,
 opT 76 (.ibin .add (.t 74) (.t 75)),
 opT 77 (.iad 3 (.t 73) (.t 76)),
 opT 78 (.ldn 3 (.t 77)),
 opT 79 (.iad 3 (.t 59) (.t 62)),
 .op none none (.st 3 (.t 79) (.t 72)),
 opT 80 (.iad 3 (.t 63) (.t 66)),
 .op none none (.st 3 (.t 80) (.t 78))]
 [0, 1, 2, 3, 4, 5, 6, 7, 8, 9, 10, 11, 12, 13, 14, 15, 16, 17, 18, 19, 20, 21, 22, 23] [0, 0, 0, 6, 0, 0, 0, 96, 0, 0, 0, 1536, 3840, 7936, 0, 0, 0, 98304, 245760, 507904, 1048335, 2096911, 4194303, 8388607])
 (.reg [mvT 81 11,
 mvT 10 81]))))))))),
 []⟩
def k75 : List Nat := [0, 1, 2, 3, 4, 10, 11, 18, 40, 58]
set_option maxRecDepth 100000 in
theorem c75 : compF Go.Proofs.Tryd.prog 5 Go.Proofs.Tryd.f75 = some e75 := by kernel_rfl
/-- slices.nextPowerOfTwo -/
def e76 : IFunc := ⟨7, 1,
 .seq (.reg [opT 2 (.mv (.c (.i .u64 0)))])
 (.seq (.reg [mvT 3 0,
 opT 4 (.conv .u64 (.t 3)),
 clT 5 50 [(.t 4)],
 opT 6 (.ibin .shl (.c (.i .u64 1)) (.t 5)),
 mvT 2 6])
 (.ret)),
 [.t 2]⟩
def k76 : List Nat := [0, 2]
set_option maxRecDepth 100000 in
theorem c76 : compF Go.Proofs.Tryd.prog 1 Go.Proofs.Tryd.f76 = some e76 := by kernel_rfl
/-- (*slices.xorshift).Next -/
def e77 : IFunc := ⟨33, 1,
 .seq (.reg [opT 2 (.mv (.c (.i .u64 0)))])
 (.seq (.dreg [mvT 3 0,
 opT 4 (.nilchk (.t 3)),
 opT 5 (.ld1 (.t 4)),
 mvT 6 0,
 opT 7 (.nilchk (.t 6)),
 opT 8 (.ld1 (.t 7)),
 opT 9 (.ibin .shl (.t 8) (.c (.i .u64 13))),
 opT 10 (.ibin .xor (.t 5) (.t 9)),
 opT 11 (.nilchk (.t 3)),
 .op none none (.st 1 (.t 11) (.t 10))]
 [0, 1, 2, 3, 4, 5, 6, 7, 8, 9] [0, 1, 3, 0, 8, 24, 56, 127, 255, 511])
 (.seq (.dreg [mvT 12 0,
 opT 13 (.nilchk (.t 12)),
 opT 14 (.ld1 (.t 13)),
 mvT 15 0,
 opT 16 (.nilchk (.t 15)),
 opT 17 (.ld1 (.t 16)),
 opT 18 (.ibin .shr (.t 17) (.c (.i .u64 7))),
 opT 19 (.ibin .xor (.t 14) (.t 18)),
 opT 20 (.nilchk (.t 12)),
 .op none none (.st 1 (.t 20) (.t 19))]
 [0, 1, 2, 3, 4, 5, 6, 7, 8, 9] [0, 1, 3, 0, 8, 24, 56, 127, 255, 511])
 (.seq (.dreg [mvT 21 0,
 opT 22 (.nilchk (.t 21)),
 opT 23 (.ld1 (.t 22)),
 mvT 24 0,
 opT 25 (.nilchk (.t 24)),
 opT 26 (.ld1 (.t 25)),
 opT 27 (.ibin .shl (.t 26) (.c (.i .u64 17))),
 opT 28 (.ibin .xor (.t 23) (.t 27)),
 opT 29 (.nilchk (.t 21)),
 .op none none (.st 1 (.t 29) (.t 28))]
 [0, 1, 2, 3, 4, 5, 6, 7, 8, 9] [0, 1, 3, 0, 8, 24, 56, 127, 255, 511])
 (.seq (.reg [mvT 30 0,
 opT 31 (.nilchk (.t 30)),
 opT 32 (.ld1 (.t 31)),
 mvT 2 32])
 (.ret))))),
 [.t 2]⟩
def k77 : List Nat := [0, 2]
set_option maxRecDepth 100000 in
theorem c77 : compF Go.Proofs.Tryd.prog 1 Go.Proofs.Tryd.f77 = some e77 := by kernel_rfl
/-- slices.medianAdjacentCmpFunc[sandglass/wheel.thing] -/
def e78 : IFunc := ⟨18, 4,
 .seq (.reg [opT 8 (.mv (.c (.i .i64 0)))])
 (.seq (.reg [mvT 9 0,
 mvT 10 1,
 opT 11 (.ibin .sub (.t 10) (.c (.i .i64 1))),
 mvT 12 1,
 mvT 13 1,
 opT 14 (.ibin .add (.t 13) (.c (.i .i64 1))),
 mvT 15 2,
 mvT 16 3,
 clT 17 79 [(.t 9), (.t 11), (.t 12), (.t 14), (.t 15), (.t 16)],
 mvT 8 17])
 (.ret)),
 [.t 8]⟩
def k78 : List Nat := [0, 1, 2, 3, 8]
set_option maxRecDepth 100000 in
theorem c78 : compF Go.Proofs.Tryd.prog 4 Go.Proofs.Tryd.f78 = some e78 := by kernel_rfl
/-- slices.medianCmpFunc[sandglass/wheel.thing] -/
def e79 : IFunc := ⟨41, 6,
 .seq (.reg [opT 12 (.mv (.c (.i .i64 0)))])
 (.seq (.reg [mvT 14 0,
 mvT 15 1,
 mvT 16 2,
 mvT 17 4,
 mvT 18 5,
 clT 19 81 [(.t 14), (.t 15), (.t 16), (.t 17), (.t 18)],
 mvT 13 19,
 opT 20 (.ext (.t 13) 0),
 opT 21 (.ext (.t 13) 1),
 mvT 1 20,
 mvT 2 21])
 (.seq (.reg [mvT 23 0,
 mvT 24 2,
 mvT 25 3,
 mvT 26 4,
 mvT 27 5,
 clT 28 81 [(.t 23), (.t 24), (.t 25), (.t 26), (.t 27)],
 mvT 22 28,
 opT 29 (.ext (.t 22) 0),
 opT 30 (.ext (.t 22) 1),
 mvT 2 29,
 mvT 3 30])
 (.seq (.reg [mvT 32 0,
 mvT 33 1,
 mvT 34 2,
 mvT 35 4,
 mvT 36 5,
 clT 37 81 [(.t 32), (.t 33), (.t 34), (.t 35), (.t 36)],
 mvT 31 37,
 opT 38 (.ext (.t 31) 0),
 opT 39 (.ext (.t 31) 1),
 mvT 1 38,
 mvT 2 39])
 (.seq (.reg [mvT 40 2,
 mvT 12 40])
 (.ret))))),
 [.t 12]⟩
def k79 : List Nat := [0, 1, 2, 3, 4, 5, 12]
set_option maxRecDepth 100000 in
theorem c79 : compF Go.Proofs.Tryd.prog 6 Go.Proofs.Tryd.f79 = some e79 := by kernel_rfl
/-- slices.order2CmpFunc[sandglass/wheel.thing] -/
def e81 : IFunc := ⟨32, 5,
 .seq (.reg [opT 10 (.mv (.c (.i .i64 0))),
 opT 11 (.mv (.c (.i .i64 0)))])
 (.seq (.seq (.dreg [mvT 12 4,
 mvT 13 0,
 mvT 14 2,
 opT 15 (.iad 3 (.t 13) (.t 14)),
 opT 16 (.ldn 3 (.t 15)),
 mvT 17 0,
 mvT 18 1,
 opT 19 (.iad 3 (.t 17) (.t 18)),
 opT 20 (.ldn 3 (.t 19)),
 .call (some 21) none (.t 12) [(.t 16), (.t 20)],
 opT 22 (.ibin .lss (.t 21) (.c (.i .i64 0)))]
 [0, 1, 2, 3, 4, 5, 6, 7, 8, 9, 10] [0, 0, 0, 6, 14, 0, 0, 96, 224, 511, 1023])
 (.cond (.t 22)
 (.seq (.reg [mvT 23 3,
 opT 24 (.nilchk (.t 23)),
 opT 25 (.ld1 (.t 24)),
 opT 26 (.ibin .add (.t 25) (.c (.i .i64 1))),
 opT 27 (.nilchk (.t 23)),
 .op none none (.st 1 (.t 27) (.t 26))])
 (.seq (.reg [mvT 28 2,
 mvT 29 1,
 mvT 10 28,
 mvT 11 29])
 (.ret)))
 (.skip)))
 (.seq (.reg [mvT 30 1,
 mvT 31 2,
 mvT 10 30,
 mvT 11 31])
 (.ret))),
 [.t 10, .t 11]⟩
def k81 : List Nat := [0, 1, 2, 3, 4, 10, 11, 22]
set_option maxRecDepth 100000 in
theorem c81 : compF Go.Proofs.Tryd.prog 5 Go.Proofs.Tryd.f81 = some e81 := by kernel_rfl
-- NOT 102 gosem.cut.vars
end Go.Proofs.YtmdilnelogechaaDoor.IR
