/- The contracts of sat.Add, bits.Div64, sat.part, sat.Down, sat.Up: what each call answers, for numbers of 64 bits. -/
import Derived.Test.YtmdilnelogechaaDoorProg
import Derived.WalkKit
import Derived.KernelRfl
import Derived.Laws.Externs
import Derived.Test.YtmdilnelogechaaDoorWWords
import Derived.Test.YtmdilnelogechaaDoorExtBits
namespace Go.Proofs.YtmdilnelogechaaDoor.Ext
open Go.RowKit Go.Proofs.YtmdilnelogechaaDoorW.PrintWords
theorem add64_small (x y : Int) (hx : 0 ≤ x) (hy : 0 ≤ y) (hs : x + y ≤ 18446744073709551615) (w : World) : (callFunc 56 #[.int .u64 x, .int .u64 y, .int .u64 0]).run Tryd.prog w =
    .ok (.value (.tuple #[.int .u64 (x + y), .int .u64 0])) w := by
  rw [run_callFunc_extern Tryd.func56 (by kernel_rfl) (by kernel_rfl) (by kernel_rfl) (e := add64Entry) (by kernel_rfl), run_add64 x y 0 hx hy (by omega) (by omega)]
  have e1 : (x + y + 0) % 18446744073709551616 = x + y := by omega
  have e2 : (x + y + 0) / 18446744073709551616 = 0 := by omega
  simp only [Result.andThen, e1, e2]
theorem add64_big (x y : Int) (hx : 0 ≤ x) (hy : 0 ≤ y) (hx' : x ≤ 18446744073709551615) (hy' : y ≤ 18446744073709551615) (hs : ¬ x + y ≤ 18446744073709551615) (w : World) : (callFunc 56 #[.int .u64 x, .int .u64 y, .int .u64 0]).run Tryd.prog w =
    .ok (.value (.tuple #[.int .u64 (x + y - 18446744073709551616), .int .u64 1])) w := by
  rw [run_callFunc_extern Tryd.func56 (by kernel_rfl) (by kernel_rfl) (by kernel_rfl) (e := add64Entry) (by kernel_rfl), run_add64 x y 0 hx hy (by omega) (by omega)]
  have e1 : (x + y + 0) % 18446744073709551616 = x + y - 18446744073709551616 := by omega
  have e2 : (x + y + 0) / 18446744073709551616 = 1 := by omega
  simp only [Result.andThen, e1, e2]

/-- A number, or Never. -/
def sat (a : Int) : Int := if a ≤ 18446744073709551615 then a else 18446744073709551615

/-! ### sat.Add -/
def sat_Add.f (a0 : Int) (a1 : Int) : Option (Int) := if U a0 ∧ U a1 then some (sat (a0 + a1)) else none
theorem sat_Add.calls (a0 : Int) (a1 : Int) (r : Int) (w : World) (h : sat_Add.f a0 a1 = some r) :
    Calls Tryd.prog 40 #[.int .u64 a0, .int .u64 a1] w fun e w' => e = .returned (.int .u64 r) ∧ Drawn0 w w' := by
  unfold sat_Add.f at h
  by_cases hu : U a0 ∧ U a1
  · rw [if_pos hu] at h
    obtain ⟨⟨h1, h2⟩, h3, h4⟩ := hu
    unfold sat at h
    by_cases hc : a0 + a1 ≤ 18446744073709551615
    · rw [if_pos hc] at h
      have K := fun W => add64_small a0 a1 h1 h3 hc W
      clear h2 h4 hc
      obtain rfl := Option.some.inj h
      clear h
      go_enter Tryd.func40, Tryd.ntmps40
      go_wp2_with (simp only [K])
      go_ret
      exact ⟨rfl, Drawn0.refl _⟩
    · rw [if_neg hc] at h
      have K := fun W => add64_big a0 a1 h1 h3 h2 h4 hc W
      clear h1 h2 h3 h4 hc
      obtain rfl := Option.some.inj h
      clear h
      go_enter Tryd.func40, Tryd.ntmps40
      go_wp2_with (simp only [K])
      go_ret
      exact ⟨rfl, Drawn0.refl _⟩
  · rw [if_neg hu] at h; cases h
end Go.Proofs.YtmdilnelogechaaDoor.Ext
