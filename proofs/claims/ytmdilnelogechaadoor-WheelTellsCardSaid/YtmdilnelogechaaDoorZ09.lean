/- This text of a proof shows: how many zero bits a number ends with, as the library's own code tells. -/
import Derived.Test.YtmdilnelogechaaDoorProg
import Derived.Test.YtmdilnelogechaaDoorEvE
import Derived.WalkKit
import Derived.Laws.Bits64b
import Derived.Lib.TrailingZeros
set_option linter.unusedVariables false
set_option linter.unusedSimpArgs false
set_option linter.constructorNameAsVariable false
namespace Go.Proofs.YtmdilnelogechaaDoor.IR
open Go Go.Proofs.YtmdilnelogechaaDoor.Ev Go.RowKit
set_option maxHeartbeats 1000000 in
theorem tz_core (x k idx : Nat) (w : World) (hx0 : ((x : Int) == 0) = false)
    (key : IntKind.u64.wrap (bits BinOp.and IntKind.u64 (x : Int) (IntKind.u64.wrap (-(x : Int))) * 285870213051353865) / 288230376151711744 = (idx : Int))
    (hi : idx < 64) (hk : k < 64) (hcell : w.cell? ⟨2, idx, none⟩ = some (.int .u8 k)) :
    Calls Tryd.prog 74 #[.int .u64 x] w fun e w' => e = .returned (.int .i64 k) ∧ w' = w := by
  go_enter Tryd.func74, Tryd.ntmps74
  go_wp2_with (simp only [key])
  go_ret
  exact ⟨rfl, rfl⟩
theorem tz_zero (w : World) : Calls Tryd.prog 74 #[.int .u64 0] w fun e w' => e = .returned (.int .i64 64) ∧ w' = w := by
  go_enter Tryd.func74, Tryd.ntmps74
  go_wp2
  go_ret
  exact ⟨rfl, rfl⟩
theorem wrap_u64' (n : Int) : IntKind.u64.wrap n = n % 18446744073709551616 := by simp [IntKind.wrap, IntKind.signed, IntKind.bits]
theorem tz_key (x a : Nat) (hx : x < 18446744073709551616) (hx0 : x ≠ 0) (hlow : x &&& (18446744073709551616 - x) = a) :
    IntKind.u64.wrap (bits BinOp.and IntKind.u64 (x : Int) (IntKind.u64.wrap (-(x : Int))) * 285870213051353865) / 288230376151711744 = ((a * 285870213051353865 % 18446744073709551616 / 288230376151711744 : Nat) : Int) := by
  have e1 : IntKind.u64.wrap (-(x : Int)) = ((18446744073709551616 - x : Nat) : Int) := by rw [wrap_u64']; omega
  rw [e1, bits_and_u64_nat x _ hx (by omega), hlow, wrap_u64']
  omega
theorem tab_eq : fixB = [(2, Lib.deBruijn64tab.map fun n => Value.int .u8 (n : Nat))] := by rfl
theorem map_getD (l : List Nat) (i : Nat) (h : i < l.length) (f : Nat → Value) : (l.map f)[i]? = some (f (l.getD i 0)) := by
  rw [List.getElem?_map, List.getElem?_eq_getElem h, List.getD_eq_getElem?_getD, List.getElem?_eq_getElem h]; rfl
theorem tz_calls (x : Nat) (hx : x < 18446744073709551616) (w : World) (hf : FixW w) :
    Calls Tryd.prog 74 #[.int .u64 x] w fun e w' => e = .returned (.int .i64 (Lib.ctz 64 x)) ∧ w' = w := by
  by_cases hx0 : x = 0
  · subst hx0
    exact tz_zero w
  · obtain ⟨hlow, hk⟩ := Lib.lowest_bit 64 x hx0 hx
    obtain ⟨hi, htab⟩ := Lib.deBruijn64_at _ hk
    have hg := (hf (2, Lib.deBruijn64tab.map fun n => Value.int .u8 (n : Nat)) (by rw [tab_eq]; simp)).2
    have hcell := hg _ _ (map_getD Lib.deBruijn64tab _ hi (fun n => Value.int .u8 (n : Nat)))
    rw [htab] at hcell
    exact tz_core x _ _ w (by simp; omega) (tz_key x _ hx hx0 hlow) hi hk hcell
theorem tz_c (x : Int) (h0 : 0 ≤ x) (h1 : x ≤ 18446744073709551615) (H : Heap) : SoundCall Tryd.prog 74 [.i .u64 x] H (fun v H' => v = .i .i64 (Lib.ctz 64 x.toNat) ∧ H' = H) := by
  refine sound_intsF (fun args w => by rfl) (l := [(.u64, x)]) (fun σ => .i _ _) (fun w hf => ?_) H
  have e : x = ((x.toNat : Nat) : Int) := by omega
  have := tz_calls x.toNat (by omega) w hf
  rw [← e] at this
  exact this.mono fun e w' h => ⟨h.1, w.drawn, by rw [h.2]⟩
end Go.Proofs.YtmdilnelogechaaDoor.IR
