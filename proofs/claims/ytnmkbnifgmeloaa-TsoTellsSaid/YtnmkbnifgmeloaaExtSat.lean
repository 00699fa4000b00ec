/- The contracts of sat.Add, bits.Div64, sat.part, sat.Down, sat.Up: what each call answers, for numbers of 64 bits. -/
import Derived.Test.YtnmkbnifgmeloaaProg
import Derived.WalkKit
import Derived.KernelRfl
import Derived.Laws.Externs
import Derived.Test.YtnmkbnifgmeloaaWWords
import Derived.Test.YtnmkbnifgmeloaaExtBits
namespace Go.Proofs.Ytnmkbnifgmeloaa.Ext
open Go.RowKit Go.Proofs.YtnmkbnifgmeloaaW.PrintWords
theorem add64_small (x y : Int) (hx : 0 ≤ x) (hy : 0 ≤ y) (hs : x + y ≤ 18446744073709551615) (w : World) : (callFunc 40 #[.int .u64 x, .int .u64 y, .int .u64 0]).run Try.prog w =
    .ok (.value (.tuple #[.int .u64 (x + y), .int .u64 0])) w := by
  rw [run_callFunc_extern Try.func40 (by kernel_rfl) (by kernel_rfl) (by kernel_rfl) (e := add64Entry) (by kernel_rfl), run_add64 x y 0 hx hy (by omega) (by omega)]
  have e1 : (x + y + 0) % 18446744073709551616 = x + y := by omega
  have e2 : (x + y + 0) / 18446744073709551616 = 0 := by omega
  simp only [Result.andThen, e1, e2]
theorem add64_big (x y : Int) (hx : 0 ≤ x) (hy : 0 ≤ y) (hx' : x ≤ 18446744073709551615) (hy' : y ≤ 18446744073709551615) (hs : ¬ x + y ≤ 18446744073709551615) (w : World) : (callFunc 40 #[.int .u64 x, .int .u64 y, .int .u64 0]).run Try.prog w =
    .ok (.value (.tuple #[.int .u64 (x + y - 18446744073709551616), .int .u64 1])) w := by
  rw [run_callFunc_extern Try.func40 (by kernel_rfl) (by kernel_rfl) (by kernel_rfl) (e := add64Entry) (by kernel_rfl), run_add64 x y 0 hx hy (by omega) (by omega)]
  have e1 : (x + y + 0) % 18446744073709551616 = x + y - 18446744073709551616 := by omega
  have e2 : (x + y + 0) / 18446744073709551616 = 1 := by omega
  simp only [Result.andThen, e1, e2]

/-- A number, or Never. -/
def sat (a : Int) : Int := if a ≤ 18446744073709551615 then a else 18446744073709551615

end Go.Proofs.Ytnmkbnifgmeloaa.Ext
