/- This text of a proof shows: . -/
import Derived.Test.YtmdilnelogechaaDoorProg
import Derived.Test.YtmdilnelogechaaDoorEvE
import Derived.KernelRfl
set_option linter.unusedVariables false
set_option linter.unusedSimpArgs false
set_option linter.constructorNameAsVariable false
namespace Go.Proofs.YtmdilnelogechaaDoor.IR
open Go Go.Proofs.YtmdilnelogechaaDoor.Ev
set_option maxRecDepth 100000
set_option maxHeartbeats 4000000
abbrev Sf (P : Program) (a : Nat) (f : Func) := {x : IFunc // compF P a f = some x}
def s2 : Sf Go.Proofs.Tryd.prog 0 Go.Proofs.Tryd.f2 := ⟨_, by conv => lhs; reduce; simp only [Int.reduceOfNat, Int.reduceNegSucc]⟩
def e2 : IFunc := s2.1
theorem c2 : compF Go.Proofs.Tryd.prog 0 Go.Proofs.Tryd.f2 = some e2 := s2.2
def k2 : List Nat := []
def s3 : Sf Go.Proofs.Tryd.prog 3 Go.Proofs.Tryd.f3 := ⟨_, by conv => lhs; reduce; simp only [Int.reduceOfNat, Int.reduceNegSucc]⟩
def e3 : IFunc := s3.1
def k3 : List Nat := [0, 1, 2, 6, 7, 8, 9, 10, 11, 12, 14, 15, 16, 17, 18, 19, 20, 21, 22, 24, 33, 38, 39, 40, 41, 46, 54, 71, 72, 73, 101, 106, 132, 136, 137, 138, 139, 156, 168]
def s4 : Sf Go.Proofs.Tryd.prog 4 Go.Proofs.Tryd.f4 := ⟨_, by conv => lhs; reduce; simp only [Int.reduceOfNat, Int.reduceNegSucc]⟩
def e4 : IFunc := s4.1
def k4 : List Nat := [0, 1, 2, 3, 8, 9, 10, 11, 13, 14, 15, 16, 17, 18, 19, 20, 29, 34, 35, 36, 37, 41, 42, 50, 66, 76, 84, 93]
def s5 : Sf Go.Proofs.Tryd.prog 4 Go.Proofs.Tryd.f5 := ⟨_, by conv => lhs; reduce; simp only [Int.reduceOfNat, Int.reduceNegSucc]⟩
def e5 : IFunc := s5.1
theorem c5 : compF Go.Proofs.Tryd.prog 4 Go.Proofs.Tryd.f5 = some e5 := s5.2
def k5 : List Nat := [0, 1, 2, 3, 8, 9, 10, 11, 12, 14, 15, 16, 17, 18, 19, 20, 21, 22, 23, 24, 25, 26, 27, 28, 29, 59, 70, 72, 73, 74, 75, 79, 80, 100, 101, 117, 118, 139, 188]
def s6 : Sf Go.Proofs.Tryd.prog 4 Go.Proofs.Tryd.f6 := ⟨_, by conv => lhs; reduce; simp only [Int.reduceOfNat, Int.reduceNegSucc]⟩
def e6 : IFunc := s6.1
def k6 : List Nat := [0, 1, 2, 3, 8, 9, 11, 12, 14, 15, 16, 17, 19, 20, 21, 22, 23, 43, 48, 49, 50, 51, 68, 74, 75, 76, 77, 111, 113, 114, 115, 136]
def s7 : Sf Go.Proofs.Tryd.prog 3 Go.Proofs.Tryd.f7 := ⟨_, by conv => lhs; reduce; simp only [Int.reduceOfNat, Int.reduceNegSucc]⟩
def e7 : IFunc := s7.1
theorem c7 : compF Go.Proofs.Tryd.prog 3 Go.Proofs.Tryd.f7 = some e7 := s7.2
def k7 : List Nat := [0, 1, 2, 6, 7, 8, 9, 10, 11, 13, 14, 16, 17, 19, 33, 38, 39, 40, 41, 45, 46, 68, 70, 73, 79, 86, 90, 91, 92, 93, 130]
def s8 : Sf Go.Proofs.Tryd.prog 2 Go.Proofs.Tryd.f8 := ⟨_, by conv => lhs; reduce; simp only [Int.reduceOfNat, Int.reduceNegSucc]⟩
def e8 : IFunc := s8.1
theorem c8 : compF Go.Proofs.Tryd.prog 2 Go.Proofs.Tryd.f8 = some e8 := s8.2
def k8 : List Nat := [0, 1, 4, 6, 8, 10, 13, 14, 15, 16, 60]
def s9 : Sf Go.Proofs.Tryd.prog 2 Go.Proofs.Tryd.f9 := ⟨_, by conv => lhs; reduce; simp only [Int.reduceOfNat, Int.reduceNegSucc]⟩
def e9 : IFunc := s9.1
def k9 : List Nat := [0, 1, 4, 5, 6, 7, 8, 9]
def s10 : Sf Go.Proofs.Tryd.prog 3 Go.Proofs.Tryd.f10 := ⟨_, by conv => lhs; reduce; simp only [Int.reduceOfNat, Int.reduceNegSucc]⟩
def e10 : IFunc := s10.1
theorem c10 : compF Go.Proofs.Tryd.prog 3 Go.Proofs.Tryd.f10 = some e10 := s10.2
def k10 : List Nat := [0, 1, 2, 6, 7, 10]
def s11 : Sf Go.Proofs.Tryd.prog 2 Go.Proofs.Tryd.f11 := ⟨_, by conv => lhs; reduce; simp only [Int.reduceOfNat, Int.reduceNegSucc]⟩
def e11 : IFunc := s11.1
theorem c11 : compF Go.Proofs.Tryd.prog 2 Go.Proofs.Tryd.f11 = some e11 := s11.2
def k11 : List Nat := [0, 1, 4, 5, 6, 7, 9, 11, 32, 33, 34, 35, 41]
def s12 : Sf Go.Proofs.Tryd.prog 1 Go.Proofs.Tryd.f12 := ⟨_, by conv => lhs; reduce; simp only [Int.reduceOfNat, Int.reduceNegSucc]⟩
def e12 : IFunc := s12.1
theorem c12 : compF Go.Proofs.Tryd.prog 1 Go.Proofs.Tryd.f12 = some e12 := s12.2
def k12 : List Nat := [0, 2, 3, 4, 14]
def s13 : Sf Go.Proofs.Tryd.prog 2 Go.Proofs.Tryd.f13 := ⟨_, by conv => lhs; reduce; simp only [Int.reduceOfNat, Int.reduceNegSucc]⟩
def e13 : IFunc := s13.1
theorem c13 : compF Go.Proofs.Tryd.prog 2 Go.Proofs.Tryd.f13 = some e13 := s13.2
def k13 : List Nat := [0, 1, 4]
def s14 : Sf Go.Proofs.Tryd.prog 1 Go.Proofs.Tryd.f14 := ⟨_, by conv => lhs; reduce; simp only [Int.reduceOfNat, Int.reduceNegSucc]⟩
def e14 : IFunc := s14.1
theorem c14 : compF Go.Proofs.Tryd.prog 1 Go.Proofs.Tryd.f14 = some e14 := s14.2
def k14 : List Nat := [0, 2, 4]
def s15 : Sf Go.Proofs.Tryd.prog 0 Go.Proofs.Tryd.f15 := ⟨_, by conv => lhs; reduce; simp only [Int.reduceOfNat, Int.reduceNegSucc]⟩
def e15 : IFunc := s15.1
theorem c15 : compF Go.Proofs.Tryd.prog 0 Go.Proofs.Tryd.f15 = some e15 := s15.2
def k15 : List Nat := [0, 1, 2, 3, 4, 5, 6, 7, 8, 9, 10, 11, 12, 13, 15, 17]
def s16 : Sf Go.Proofs.Tryd.prog 1 Go.Proofs.Tryd.f16 := ⟨_, by conv => lhs; reduce; simp only [Int.reduceOfNat, Int.reduceNegSucc]⟩
def e16 : IFunc := s16.1
theorem c16 : compF Go.Proofs.Tryd.prog 1 Go.Proofs.Tryd.f16 = some e16 := s16.2
def k16 : List Nat := [0, 2, 3, 4, 5, 7, 16]
def s17 : Sf Go.Proofs.Tryd.prog 1 Go.Proofs.Tryd.f17 := ⟨_, by conv => lhs; reduce; simp only [Int.reduceOfNat, Int.reduceNegSucc]⟩
def e17 : IFunc := s17.1
theorem c17 : compF Go.Proofs.Tryd.prog 1 Go.Proofs.Tryd.f17 = some e17 := s17.2
def k17 : List Nat := [0, 2, 4]
def s18 : Sf Go.Proofs.Tryd.prog 2 Go.Proofs.Tryd.f18 := ⟨_, by conv => lhs; reduce; simp only [Int.reduceOfNat, Int.reduceNegSucc]⟩
def e18 : IFunc := s18.1
theorem c18 : compF Go.Proofs.Tryd.prog 2 Go.Proofs.Tryd.f18 = some e18 := s18.2
def k18 : List Nat := [0, 1, 4]
def s19 : Sf Go.Proofs.Tryd.prog 1 Go.Proofs.Tryd.f19 := ⟨_, by conv => lhs; reduce; simp only [Int.reduceOfNat, Int.reduceNegSucc]⟩
def e19 : IFunc := s19.1
theorem c19 : compF Go.Proofs.Tryd.prog 1 Go.Proofs.Tryd.f19 = some e19 := s19.2
def k19 : List Nat := [0, 2, 4]
def s20 : Sf Go.Proofs.Tryd.prog 3 Go.Proofs.Tryd.f20 := ⟨_, by conv => lhs; reduce; simp only [Int.reduceOfNat, Int.reduceNegSucc]⟩
def e20 : IFunc := s20.1
theorem c20 : compF Go.Proofs.Tryd.prog 3 Go.Proofs.Tryd.f20 = some e20 := s20.2
def k20 : List Nat := [0, 1, 2, 6, 7, 8, 9, 31]
def s21 : Sf Go.Proofs.Tryd.prog 3 Go.Proofs.Tryd.f21 := ⟨_, by conv => lhs; reduce; simp only [Int.reduceOfNat, Int.reduceNegSucc]⟩
def e21 : IFunc := s21.1
theorem c21 : compF Go.Proofs.Tryd.prog 3 Go.Proofs.Tryd.f21 = some e21 := s21.2
def k21 : List Nat := [0, 1, 2, 6, 7, 29]
def s22 : Sf Go.Proofs.Tryd.prog 3 Go.Proofs.Tryd.f22 := ⟨_, by conv => lhs; reduce; simp only [Int.reduceOfNat, Int.reduceNegSucc]⟩
def e22 : IFunc := s22.1
theorem c22 : compF Go.Proofs.Tryd.prog 3 Go.Proofs.Tryd.f22 = some e22 := s22.2
def k22 : List Nat := [0, 1, 2, 3, 6, 7, 8, 18]
def s23 : Sf Go.Proofs.Tryd.prog 2 Go.Proofs.Tryd.f23 := ⟨_, by conv => lhs; reduce; simp only [Int.reduceOfNat, Int.reduceNegSucc]⟩
def e23 : IFunc := s23.1
theorem c23 : compF Go.Proofs.Tryd.prog 2 Go.Proofs.Tryd.f23 = some e23 := s23.2
def k23 : List Nat := [0, 1, 2, 4, 5, 6, 7, 8, 9, 10, 11, 18, 35, 62, 65, 87, 97]
def s24 : Sf Go.Proofs.Tryd.prog 1 Go.Proofs.Tryd.f24 := ⟨_, by conv => lhs; reduce; simp only [Int.reduceOfNat, Int.reduceNegSucc]⟩
def e24 : IFunc := s24.1
theorem c24 : compF Go.Proofs.Tryd.prog 1 Go.Proofs.Tryd.f24 = some e24 := s24.2
def k24 : List Nat := [0, 1, 2, 3, 4, 5, 9]
def s25 : Sf Go.Proofs.Tryd.prog 1 Go.Proofs.Tryd.f25 := ⟨_, by conv => lhs; reduce; simp only [Int.reduceOfNat, Int.reduceNegSucc]⟩
def e25 : IFunc := s25.1
theorem c25 : compF Go.Proofs.Tryd.prog 1 Go.Proofs.Tryd.f25 = some e25 := s25.2
def k25 : List Nat := [0, 1, 2, 3, 4, 5, 9, 19, 29]
def s26 : Sf Go.Proofs.Tryd.prog 2 Go.Proofs.Tryd.f26 := ⟨_, by conv => lhs; reduce; simp only [Int.reduceOfNat, Int.reduceNegSucc]⟩
def e26 : IFunc := s26.1
theorem c26 : compF Go.Proofs.Tryd.prog 2 Go.Proofs.Tryd.f26 = some e26 := s26.2
def k26 : List Nat := [0, 1, 4, 5, 10, 12, 13, 14, 24]
def s27 : Sf Go.Proofs.Tryd.prog 1 Go.Proofs.Tryd.f27 := ⟨_, by conv => lhs; reduce; simp only [Int.reduceOfNat, Int.reduceNegSucc]⟩
def e27 : IFunc := s27.1
theorem c27 : compF Go.Proofs.Tryd.prog 1 Go.Proofs.Tryd.f27 = some e27 := s27.2
def k27 : List Nat := [0, 2, 3, 4, 6, 11, 12, 13]
def s28 : Sf Go.Proofs.Tryd.prog 1 Go.Proofs.Tryd.f28 := ⟨_, by conv => lhs; reduce; simp only [Int.reduceOfNat, Int.reduceNegSucc]⟩
def e28 : IFunc := s28.1
theorem c28 : compF Go.Proofs.Tryd.prog 1 Go.Proofs.Tryd.f28 = some e28 := s28.2
def k28 : List Nat := [0, 1, 2, 3, 4, 12]
def s29 : Sf Go.Proofs.Tryd.prog 1 Go.Proofs.Tryd.f29 := ⟨_, by conv => lhs; reduce; simp only [Int.reduceOfNat, Int.reduceNegSucc]⟩
def e29 : IFunc := s29.1
theorem c29 : compF Go.Proofs.Tryd.prog 1 Go.Proofs.Tryd.f29 = some e29 := s29.2
def k29 : List Nat := [0, 2]
def s30 : Sf Go.Proofs.Tryd.prog 2 Go.Proofs.Tryd.f30 := ⟨_, by conv => lhs; reduce; simp only [Int.reduceOfNat, Int.reduceNegSucc]⟩
def e30 : IFunc := s30.1
theorem c30 : compF Go.Proofs.Tryd.prog 2 Go.Proofs.Tryd.f30 = some e30 := s30.2
def k30 : List Nat := [0, 1, 3, 4]
def s31 : Sf Go.Proofs.Tryd.prog 2 Go.Proofs.Tryd.f31 := ⟨_, by conv => lhs; reduce; simp only [Int.reduceOfNat, Int.reduceNegSucc]⟩
def e31 : IFunc := s31.1
theorem c31 : compF Go.Proofs.Tryd.prog 2 Go.Proofs.Tryd.f31 = some e31 := s31.2
def k31 : List Nat := [0, 1, 4, 5, 6, 7, 8, 9, 10, 28, 49, 70]
def s32 : Sf Go.Proofs.Tryd.prog 2 Go.Proofs.Tryd.f32 := ⟨_, by conv => lhs; reduce; simp only [Int.reduceOfNat, Int.reduceNegSucc]⟩
def e32 : IFunc := s32.1
theorem c32 : compF Go.Proofs.Tryd.prog 2 Go.Proofs.Tryd.f32 = some e32 := s32.2
def k32 : List Nat := [0, 1, 4]
def s33 : Sf Go.Proofs.Tryd.prog 2 Go.Proofs.Tryd.f33 := ⟨_, by conv => lhs; reduce; simp only [Int.reduceOfNat, Int.reduceNegSucc]⟩
def e33 : IFunc := s33.1
theorem c33 : compF Go.Proofs.Tryd.prog 2 Go.Proofs.Tryd.f33 = some e33 := s33.2
def k33 : List Nat := [0, 1, 2, 3, 4]
def s34 : Sf Go.Proofs.Tryd.prog 1 Go.Proofs.Tryd.f34 := ⟨_, by conv => lhs; reduce; simp only [Int.reduceOfNat, Int.reduceNegSucc]⟩
def e34 : IFunc := s34.1
theorem c34 : compF Go.Proofs.Tryd.prog 1 Go.Proofs.Tryd.f34 = some e34 := s34.2
def k34 : List Nat := [0, 2, 3, 5, 6, 7, 8, 9, 14]
def s35 : Sf Go.Proofs.Tryd.prog 2 Go.Proofs.Tryd.f35 := ⟨_, by conv => lhs; reduce; simp only [Int.reduceOfNat, Int.reduceNegSucc]⟩
def e35 : IFunc := s35.1
theorem c35 : compF Go.Proofs.Tryd.prog 2 Go.Proofs.Tryd.f35 = some e35 := s35.2
def k35 : List Nat := [0, 1, 4, 5, 6, 11, 12, 13, 16, 19]
def s36 : Sf Go.Proofs.Tryd.prog 2 Go.Proofs.Tryd.f36 := ⟨_, by conv => lhs; reduce; simp only [Int.reduceOfNat, Int.reduceNegSucc]⟩
def e36 : IFunc := s36.1
theorem c36 : compF Go.Proofs.Tryd.prog 2 Go.Proofs.Tryd.f36 = some e36 := s36.2
def k36 : List Nat := [0, 1, 4, 5, 6, 11, 12, 13, 16, 19]
def s38 : Sf Go.Proofs.Tryd.prog 2 Go.Proofs.Tryd.f38 := ⟨_, by conv => lhs; reduce; simp only [Int.reduceOfNat, Int.reduceNegSucc]⟩
def e38 : IFunc := s38.1
theorem c38 : compF Go.Proofs.Tryd.prog 2 Go.Proofs.Tryd.f38 = some e38 := s38.2
def k38 : List Nat := [0, 1, 4]
def s39 : Sf Go.Proofs.Tryd.prog 2 Go.Proofs.Tryd.f39 := ⟨_, by conv => lhs; reduce; simp only [Int.reduceOfNat, Int.reduceNegSucc]⟩
def e39 : IFunc := s39.1
theorem c39 : compF Go.Proofs.Tryd.prog 2 Go.Proofs.Tryd.f39 = some e39 := s39.2
def k39 : List Nat := [0, 1, 4, 5, 6, 7, 14]
def s42 : Sf Go.Proofs.Tryd.prog 1 Go.Proofs.Tryd.f42 := ⟨_, by conv => lhs; reduce; simp only [Int.reduceOfNat, Int.reduceNegSucc]⟩
def e42 : IFunc := s42.1
theorem c42 : compF Go.Proofs.Tryd.prog 1 Go.Proofs.Tryd.f42 = some e42 := s42.2
def k42 : List Nat := [0, 2, 3, 4, 5, 11, 25]
def s43 : Sf Go.Proofs.Tryd.prog 2 Go.Proofs.Tryd.f43 := ⟨_, by conv => lhs; reduce; simp only [Int.reduceOfNat, Int.reduceNegSucc]⟩
def e43 : IFunc := s43.1
theorem c43 : compF Go.Proofs.Tryd.prog 2 Go.Proofs.Tryd.f43 = some e43 := s43.2
def k43 : List Nat := [0, 1, 4, 6, 11]
def s44 : Sf Go.Proofs.Tryd.prog 2 Go.Proofs.Tryd.f44 := ⟨_, by conv => lhs; reduce; simp only [Int.reduceOfNat, Int.reduceNegSucc]⟩
def e44 : IFunc := s44.1
theorem c44 : compF Go.Proofs.Tryd.prog 2 Go.Proofs.Tryd.f44 = some e44 := s44.2
def k44 : List Nat := [0, 1, 2, 4, 5, 16, 21]
def s45 : Sf Go.Proofs.Tryd.prog 2 Go.Proofs.Tryd.f45 := ⟨_, by conv => lhs; reduce; simp only [Int.reduceOfNat, Int.reduceNegSucc]⟩
def e45 : IFunc := s45.1
theorem c45 : compF Go.Proofs.Tryd.prog 2 Go.Proofs.Tryd.f45 = some e45 := s45.2
def k45 : List Nat := [0, 1, 4, 6]
def s46 : Sf Go.Proofs.Tryd.prog 1 Go.Proofs.Tryd.f46 := ⟨_, by conv => lhs; reduce; simp only [Int.reduceOfNat, Int.reduceNegSucc]⟩
def e46 : IFunc := s46.1
theorem c46 : compF Go.Proofs.Tryd.prog 1 Go.Proofs.Tryd.f46 = some e46 := s46.2
def k46 : List Nat := [0, 2]
def s47 : Sf Go.Proofs.Tryd.prog 2 Go.Proofs.Tryd.f47 := ⟨_, by conv => lhs; reduce; simp only [Int.reduceOfNat, Int.reduceNegSucc]⟩
def e47 : IFunc := s47.1
theorem c47 : compF Go.Proofs.Tryd.prog 2 Go.Proofs.Tryd.f47 = some e47 := s47.2
def k47 : List Nat := [0, 1, 4, 5, 14, 19, 20, 21]
def s48 : Sf Go.Proofs.Tryd.prog 2 Go.Proofs.Tryd.f48 := ⟨_, by conv => lhs; reduce; simp only [Int.reduceOfNat, Int.reduceNegSucc]⟩
def e48 : IFunc := s48.1
theorem c48 : compF Go.Proofs.Tryd.prog 2 Go.Proofs.Tryd.f48 = some e48 := s48.2
def k48 : List Nat := [0, 1, 4, 5, 6, 10, 15, 16, 17, 40]
def s49 : Sf Go.Proofs.Tryd.prog 5 Go.Proofs.Tryd.f49 := ⟨_, by conv => lhs; reduce; simp only [Int.reduceOfNat, Int.reduceNegSucc]⟩
def e49 : IFunc := s49.1
theorem c49 : compF Go.Proofs.Tryd.prog 5 Go.Proofs.Tryd.f49 = some e49 := s49.2
def k49 : List Nat := [0, 1, 2, 3, 4, 10, 11, 12, 13, 14, 15, 16, 17, 18, 19, 20, 25, 32, 39, 56, 75, 80, 97, 125]
def s50 : Sf Go.Proofs.Tryd.prog 1 Go.Proofs.Tryd.f50 := ⟨_, by conv => lhs; reduce; simp only [Int.reduceOfNat, Int.reduceNegSucc]⟩
def e50 : IFunc := s50.1
theorem c50 : compF Go.Proofs.Tryd.prog 1 Go.Proofs.Tryd.f50 = some e50 := s50.2
def k50 : List Nat := [0, 2]
def s51 : Sf Go.Proofs.Tryd.prog 1 Go.Proofs.Tryd.f51 := ⟨_, by conv => lhs; reduce; simp only [Int.reduceOfNat, Int.reduceNegSucc]⟩
def e51 : IFunc := s51.1
theorem c51 : compF Go.Proofs.Tryd.prog 1 Go.Proofs.Tryd.f51 = some e51 := s51.2
def k51 : List Nat := [0, 2]
def s52 : Sf Go.Proofs.Tryd.prog 1 Go.Proofs.Tryd.f52 := ⟨_, by conv => lhs; reduce; simp only [Int.reduceOfNat, Int.reduceNegSucc]⟩
def e52 : IFunc := s52.1
theorem c52 : compF Go.Proofs.Tryd.prog 1 Go.Proofs.Tryd.f52 = some e52 := s52.2
def k52 : List Nat := [0, 2]
def s55 : Sf Go.Proofs.Tryd.prog 2 Go.Proofs.Tryd.f55 := ⟨_, by conv => lhs; reduce; simp only [Int.reduceOfNat, Int.reduceNegSucc]⟩
def e55 : IFunc := s55.1
theorem c55 : compF Go.Proofs.Tryd.prog 2 Go.Proofs.Tryd.f55 = some e55 := s55.2
def k55 : List Nat := [0, 1, 4, 5, 6, 7, 8, 9, 15, 21, 22, 23, 36, 51]
def s58 : Sf Go.Proofs.Tryd.prog 2 Go.Proofs.Tryd.f58 := ⟨_, by conv => lhs; reduce; simp only [Int.reduceOfNat, Int.reduceNegSucc]⟩
def e58 : IFunc := s58.1
theorem c58 : compF Go.Proofs.Tryd.prog 2 Go.Proofs.Tryd.f58 = some e58 := s58.2
def k58 : List Nat := [0, 1, 4, 8]
def s59 : Sf Go.Proofs.Tryd.prog 2 Go.Proofs.Tryd.f59 := ⟨_, by conv => lhs; reduce; simp only [Int.reduceOfNat, Int.reduceNegSucc]⟩
def e59 : IFunc := s59.1
theorem c59 : compF Go.Proofs.Tryd.prog 2 Go.Proofs.Tryd.f59 = some e59 := s59.2
def k59 : List Nat := [0, 1, 4, 12]
def s60 : Sf Go.Proofs.Tryd.prog 2 Go.Proofs.Tryd.f60 := ⟨_, by conv => lhs; reduce; simp only [Int.reduceOfNat, Int.reduceNegSucc]⟩
def e60 : IFunc := s60.1
theorem c60 : compF Go.Proofs.Tryd.prog 2 Go.Proofs.Tryd.f60 = some e60 := s60.2
def k60 : List Nat := [0, 1, 4]
def s61 : Sf Go.Proofs.Tryd.prog 2 Go.Proofs.Tryd.f61 := ⟨_, by conv => lhs; reduce; simp only [Int.reduceOfNat, Int.reduceNegSucc]⟩
def e61 : IFunc := s61.1
theorem c61 : compF Go.Proofs.Tryd.prog 2 Go.Proofs.Tryd.f61 = some e61 := s61.2
def k61 : List Nat := [0, 1, 4]
def s62 : Sf Go.Proofs.Tryd.prog 4 Go.Proofs.Tryd.f62 := ⟨_, by conv => lhs; reduce; simp only [Int.reduceOfNat, Int.reduceNegSucc]⟩
def e62 : IFunc := s62.1
theorem c62 : compF Go.Proofs.Tryd.prog 4 Go.Proofs.Tryd.f62 = some e62 := s62.2
def k62 : List Nat := [0, 1, 2, 3, 8, 9, 14, 34]
def s63 : Sf Go.Proofs.Tryd.prog 4 Go.Proofs.Tryd.f63 := ⟨_, by conv => lhs; reduce; simp only [Int.reduceOfNat, Int.reduceNegSucc]⟩
def e63 : IFunc := s63.1
theorem c63 : compF Go.Proofs.Tryd.prog 4 Go.Proofs.Tryd.f63 = some e63 := s63.2
def k63 : List Nat := [0, 1, 2, 3, 8, 9, 10, 11, 12, 21, 33]
def s64 : Sf Go.Proofs.Tryd.prog 4 Go.Proofs.Tryd.f64 := ⟨_, by conv => lhs; reduce; simp only [Int.reduceOfNat, Int.reduceNegSucc]⟩
def e64 : IFunc := s64.1
theorem c64 : compF Go.Proofs.Tryd.prog 4 Go.Proofs.Tryd.f64 = some e64 := s64.2
def k64 : List Nat := [0, 1, 2, 8, 9, 10, 11, 12, 17, 35, 45]
def s65 : Sf Go.Proofs.Tryd.prog 4 Go.Proofs.Tryd.f65 := ⟨_, by conv => lhs; reduce; simp only [Int.reduceOfNat, Int.reduceNegSucc]⟩
def e65 : IFunc := s65.1
theorem c65 : compF Go.Proofs.Tryd.prog 4 Go.Proofs.Tryd.f65 = some e65 := s65.2
def k65 : List Nat := [0, 1, 2, 3, 8, 9, 10, 11, 12, 13, 14, 34, 36, 55, 57, 60]
def s66 : Sf Go.Proofs.Tryd.prog 4 Go.Proofs.Tryd.f66 := ⟨_, by conv => lhs; reduce; simp only [Int.reduceOfNat, Int.reduceNegSucc]⟩
def e66 : IFunc := s66.1
theorem c66 : compF Go.Proofs.Tryd.prog 4 Go.Proofs.Tryd.f66 = some e66 := s66.2
def k66 : List Nat := [0, 1, 2, 8, 9, 15]
def s67 : Sf Go.Proofs.Tryd.prog 4 Go.Proofs.Tryd.f67 := ⟨_, by conv => lhs; reduce; simp only [Int.reduceOfNat, Int.reduceNegSucc]⟩
def e67 : IFunc := s67.1
theorem c67 : compF Go.Proofs.Tryd.prog 4 Go.Proofs.Tryd.f67 = some e67 := s67.2
def k67 : List Nat := [0, 1, 2, 3, 8, 9, 10, 11, 12, 16, 36, 41, 45, 65, 69, 84, 104, 109, 124]
def s69 : Sf Go.Proofs.Tryd.prog 5 Go.Proofs.Tryd.f69 := ⟨_, by conv => lhs; reduce; simp only [Int.reduceOfNat, Int.reduceNegSucc]⟩
def e69 : IFunc := s69.1
theorem c69 : compF Go.Proofs.Tryd.prog 5 Go.Proofs.Tryd.f69 = some e69 := s69.2
def k69 : List Nat := [0, 1, 2, 3, 4, 10, 11, 12, 13, 47, 66, 71, 120, 139, 144]
/-- math/bits.Len32 -/
def e70 : IFunc := ⟨19, 1,
 .seq (.reg [.op (some 2) none (.mv (.c (.i .i64 0)))])
 (.seq (.seq (.reg [.op (some 3) none (.mv (.t 0)),
 .op (some 4) none (.ibin .geq (.t 3) (.c (.i .u32 65536)))])
 (.cond (.t 4)
 (.seq (.reg [.op (some 5) none (.mv (.t 0)),
 .op (some 6) none (.ibin .shr (.t 5) (.c (.i .u64 16))),
 .op (some 0) none (.mv (.t 6))])
 (.reg [.op (some 2) none (.mv (.c (.i .i64 16)))]))
 (.skip)))
 (.seq (.seq (.reg [.op (some 7) none (.mv (.t 0)),
 .op (some 8) none (.ibin .geq (.t 7) (.c (.i .u32 256)))])
 (.cond (.t 8)
 (.seq (.reg [.op (some 9) none (.mv (.t 0)),
 .op (some 10) none (.ibin .shr (.t 9) (.c (.i .u64 8))),
 .op (some 0) none (.mv (.t 10))])
 (.reg [.op (some 11) none (.mv (.t 2)),
 .op (some 12) none (.ibin .add (.t 11) (.c (.i .i64 8))),
 .op (some 2) none (.mv (.t 12))]))
 (.skip)))
 (.seq (.reg [.op (some 13) none (.mv (.t 2)),
 .op (some 14) none (.mv (.t 0)),
 .op (some 15) none (.conv .u8 (.t 14)),
 .op (some 16) none (.ixs (.c (.s ⟨#[0, 1, 2, 2, 3, 3, 3, 3, 4, 4, 4, 4, 4, 4, 4, 4, 5, 5, 5, 5, 5, 5, 5, 5, 5, 5, 5, 5, 5, 5, 5, 5, 6, 6, 6, 6, 6, 6, 6, 6, 6, 6, 6, 6, 6, 6, 6, 6, 6, 6, 6, 6, 6, 6, 6, 6, 6, 6, 6, 6, 6, 6, 6, 6, 7, 7, 7, 7, 7, 7, 7, 7, 7, 7, 7, 7, 7, 7, 7, 7, 7, 7, 7, 7, 7, 7, 7, 7, 7, 7, 7, 7, 7, 7, 7, 7, 7, 7, 7, 7, 7, 7, 7, 7, 7, 7, 7, 7, 7, 7, 7, 7, 7, 7, 7, 7, 7, 7, 7, 7, 7, 7, 7, 7, 7, 7, 7, 7, 8, 8, 8, 8, 8, 8, 8, 8, 8, 8, 8, 8, 8, 8, 8, 8, 8, 8, 8, 8, 8, 8, 8, 8, 8, 8, 8, 8, 8, 8, 8, 8, 8, 8, 8, 8, 8, 8, 8, 8, 8, 8, 8, 8, 8, 8, 8, 8, 8, 8, 8, 8, 8, 8, 8, 8, 8, 8, 8, 8, 8, 8, 8, 8, 8, 8, 8, 8, 8, 8, 8, 8, 8, 8, 8, 8, 8, 8, 8, 8, 8, 8, 8, 8, 8, 8, 8, 8, 8, 8, 8, 8, 8, 8, 8, 8, 8, 8, 8, 8, 8, 8, 8, 8, 8, 8, 8, 8, 8, 8, 8, 8, 8, 8, 8, 8, 8, 8, 8, 8, 8, 8, 8, 8, 8, 8, 8, 8]⟩)) (.t 15)),
 .op (some 17) none (.conv .i64 (.t 16)),
 .op (some 18) none (.ibin .add (.t 13) (.t 17)),
 .op (some 2) none (.mv (.t 18))])
 (.ret)))),
 [.t 2]⟩
def k70 : List Nat := [0, 2, 4, 8]
set_option maxRecDepth 100000 in
theorem c70 : compF Go.Proofs.Tryd.prog 1 Go.Proofs.Tryd.f70 = some e70 := by kernel_rfl
/-- math/bits.Len64 -/
def e71 : IFunc := ⟨25, 1,
 .seq (.reg [.op (some 2) none (.mv (.c (.i .i64 0)))])
 (.seq (.seq (.reg [.op (some 3) none (.mv (.t 0)),
 .op (some 4) none (.ibin .geq (.t 3) (.c (.i .u64 4294967296)))])
 (.cond (.t 4)
 (.seq (.reg [.op (some 5) none (.mv (.t 0)),
 .op (some 6) none (.ibin .shr (.t 5) (.c (.i .u64 32))),
 .op (some 0) none (.mv (.t 6))])
 (.reg [.op (some 2) none (.mv (.c (.i .i64 32)))]))
 (.skip)))
 (.seq (.seq (.reg [.op (some 7) none (.mv (.t 0)),
 .op (some 8) none (.ibin .geq (.t 7) (.c (.i .u64 65536)))])
 (.cond (.t 8)
 (.seq (.reg [.op (some 9) none (.mv (.t 0)),
 .op (some 10) none (.ibin .shr (.t 9) (.c (.i .u64 16))),
 .op (some 0) none (.mv (.t 10))])
 (.reg [.op (some 11) none (.mv (.t 2)),
 .op (some 12) none (.ibin .add (.t 11) (.c (.i .i64 16))),
 .op (some 2) none (.mv (.t 12))]))
 (.skip)))
 (.seq (.seq (.reg [.op (some 13) none (.mv (.t 0)),
 .op (some 14) none (.ibin .geq (.t 13) (.c (.i .u64 256)))])
 (.cond (.t 14)
 (.seq (.reg [.op (some 15) none (.mv (.t 0)),
 .op (some 16) none (.ibin .shr (.t 15) (.c (.i .u64 8))),
 .op (some 0) none (.mv (.t 16))])
 (.reg [.op (some 17) none (.mv (.t 2)),
 .op (some 18) none (.ibin .add (.t 17) (.c (.i .i64 8))),
 .op (some 2) none (.mv (.t 18))]))
 (.skip)))
 (.seq (.reg [.op (some 19) none (.mv (.t 2)),
 .op (some 20) none (.mv (.t 0)),
 .op (some 21) none (.conv .u8 (.t 20)),
 .op (some 22) none (.ixs (.c (.s ⟨#[0, 1, 2, 2, 3, 3, 3, 3, 4, 4, 4, 4, 4, 4, 4, 4, 5, 5, 5, 5, 5, 5, 5, 5, 5, 5, 5, 5, 5, 5, 5, 5, 6, 6, 6, 6, 6, 6, 6, 6, 6, 6, 6, 6, 6, 6, 6, 6, 6, 6, 6, 6, 6, 6, 6, 6, 6, 6, 6, 6, 6, 6, 6, 6, 7, 7, 7, 7, 7, 7, 7, 7, 7, 7, 7, 7, 7, 7, 7, 7, 7, 7, 7, 7, 7, 7, 7, 7, 7, 7, 7, 7, 7, 7, 7, 7, 7, 7, 7, 7, 7, 7, 7, 7, 7, 7, 7, 7, 7, 7, 7, 7, 7, 7, 7, 7, 7, 7, 7, 7, 7, 7, 7, 7, 7, 7, 7, 7, 8, 8, 8, 8, 8, 8, 8, 8, 8, 8, 8, 8, 8, 8, 8, 8, 8, 8, 8, 8, 8, 8, 8, 8, 8, 8, 8, 8, 8, 8, 8, 8, 8, 8, 8, 8, 8, 8, 8, 8, 8, 8, 8, 8, 8, 8, 8, 8, 8, 8, 8, 8, 8, 8, 8, 8, 8, 8, 8, 8, 8, 8, 8, 8, 8, 8, 8, 8, 8, 8, 8, 8, 8, 8, 8, 8, 8, 8, 8, 8, 8, 8, 8, 8, 8, 8, 8, 8, 8, 8, 8, 8, 8, 8, 8, 8, 8, 8, 8, 8, 8, 8, 8, 8, 8, 8, 8, 8, 8, 8, 8, 8, 8, 8, 8, 8, 8, 8, 8, 8, 8, 8, 8, 8, 8, 8, 8, 8]⟩)) (.t 21)),
 .op (some 23) none (.conv .i64 (.t 22)),
 .op (some 24) none (.ibin .add (.t 19) (.t 23)),
 .op (some 2) none (.mv (.t 24))])
 (.ret))))),
 [.t 2]⟩
def k71 : List Nat := [0, 2, 4, 8, 14]
set_option maxRecDepth 100000 in
theorem c71 : compF Go.Proofs.Tryd.prog 1 Go.Proofs.Tryd.f71 = some e71 := by kernel_rfl
-- NOT 72 math/bits.Div64
def s73 : Sf Go.Proofs.Tryd.prog 3 Go.Proofs.Tryd.f73 := ⟨_, by conv => lhs; reduce; simp only [Int.reduceOfNat, Int.reduceNegSucc]⟩
def e73 : IFunc := s73.1
theorem c73 : compF Go.Proofs.Tryd.prog 3 Go.Proofs.Tryd.f73 = some e73 := s73.2
def k73 : List Nat := [0, 1, 2, 6, 7, 8, 9, 10]
-- NOT 74 math/bits.TrailingZeros64
def s75 : Sf Go.Proofs.Tryd.prog 5 Go.Proofs.Tryd.f75 := ⟨_, by conv => lhs; reduce; simp only [Int.reduceOfNat, Int.reduceNegSucc]⟩
def e75 : IFunc := s75.1
theorem c75 : compF Go.Proofs.Tryd.prog 5 Go.Proofs.Tryd.f75 = some e75 := s75.2
def k75 : List Nat := [0, 1, 2, 3, 4, 10, 11, 18, 40, 58]
def s76 : Sf Go.Proofs.Tryd.prog 1 Go.Proofs.Tryd.f76 := ⟨_, by conv => lhs; reduce; simp only [Int.reduceOfNat, Int.reduceNegSucc]⟩
def e76 : IFunc := s76.1
theorem c76 : compF Go.Proofs.Tryd.prog 1 Go.Proofs.Tryd.f76 = some e76 := s76.2
def k76 : List Nat := [0, 2]
def s77 : Sf Go.Proofs.Tryd.prog 1 Go.Proofs.Tryd.f77 := ⟨_, by conv => lhs; reduce; simp only [Int.reduceOfNat, Int.reduceNegSucc]⟩
def e77 : IFunc := s77.1
theorem c77 : compF Go.Proofs.Tryd.prog 1 Go.Proofs.Tryd.f77 = some e77 := s77.2
def k77 : List Nat := [0, 2]
def s78 : Sf Go.Proofs.Tryd.prog 4 Go.Proofs.Tryd.f78 := ⟨_, by conv => lhs; reduce; simp only [Int.reduceOfNat, Int.reduceNegSucc]⟩
def e78 : IFunc := s78.1
theorem c78 : compF Go.Proofs.Tryd.prog 4 Go.Proofs.Tryd.f78 = some e78 := s78.2
def k78 : List Nat := [0, 1, 2, 3, 8]
def s79 : Sf Go.Proofs.Tryd.prog 6 Go.Proofs.Tryd.f79 := ⟨_, by conv => lhs; reduce; simp only [Int.reduceOfNat, Int.reduceNegSucc]⟩
def e79 : IFunc := s79.1
theorem c79 : compF Go.Proofs.Tryd.prog 6 Go.Proofs.Tryd.f79 = some e79 := s79.2
def k79 : List Nat := [0, 1, 2, 3, 4, 5, 12]
def s81 : Sf Go.Proofs.Tryd.prog 5 Go.Proofs.Tryd.f81 := ⟨_, by conv => lhs; reduce; simp only [Int.reduceOfNat, Int.reduceNegSucc]⟩
def e81 : IFunc := s81.1
theorem c81 : compF Go.Proofs.Tryd.prog 5 Go.Proofs.Tryd.f81 = some e81 := s81.2
def k81 : List Nat := [0, 1, 2, 3, 4, 10, 11, 22]
-- NOT 102 gosem.cut.vars
end Go.Proofs.YtmdilnelogechaaDoor.IR
