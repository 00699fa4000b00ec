/- bits.Len64: how many bits a number has. -/
import Derived.Test.YtmdilnelogechaaDoorProg
import Derived.WalkKit
import Derived.KernelRfl
import Derived.Lib.Strings
import Derived.Lib.Slices
import Derived.Lib.Small
import Derived.Lib.Walk
import Derived.Lib.BitFns
import Derived.Test.YtmdilnelogechaaDoorWWords
namespace Go.Proofs.YtmdilnelogechaaDoor.Ext
open Go.RowKit Go.Proofs.YtmdilnelogechaaDoorW.PrintWords
/-- Is a number one of 64 bits? -/
def U (a : Int) : Prop := 0 ≤ a ∧ a ≤ 18446744073709551615
instance (a : Int) : Decidable (U a) := by unfold U; infer_instance
def bits_Len64.f (a0 : Int) : Option (Int) := if U a0 then some (Lib.bitLen a0.toNat : Int) else none
theorem tab_at (i : Nat) (h : i < Lib.len8tab.size) : (Lib.len8tab[i]'h).toNat = Lib.bitLen i := by
  have all : ∀ j : Fin 256, (Lib.len8tab[j.val]'(by rw [Lib.len8tab_size]; exact j.isLt)).toNat = Lib.bitLen j.val := by decide +kernel
  exact all ⟨i, by rw [Lib.len8tab_size] at h; exact h⟩
theorem len64_end {i : Nat} (c x : Nat) (n : Nat) (h : i < Lib.len8tab.size) (hc : c ≤ 56) (hx : x < 256) (e : Lib.bitLen n = c + Lib.bitLen x) (hi : i = x) :
    wrap64 ((c : Int) + wrap64 ((Lib.len8tab[i]'h).toNat : Int)) = (Lib.bitLen n : Int) := by
  subst hi
  have l := Lib.bitLen_le8 ⟨i, hx⟩
  simp only at l
  rw [tab_at, e]; unfold wrap64; omega
set_option maxHeartbeats 4000000 in
set_option maxRecDepth 100000 in
theorem len64_any (x : Int) (w : World) (h0 : 0 ≤ x) (h1 : x ≤ 18446744073709551615) :
    Calls Tryd.prog 71 #[.int .u64 x] w fun e w' => e = .returned (.int .i64 (Lib.bitLen x.toNat)) ∧ w' = w := by
  have hu := Tryd.underlying9
  have hsz := Lib.len8tab_size
  go_enter Tryd.func71, Tryd.ntmps71
  go_wp2
  all_goals (go_ret; refine ⟨congrArg Ending.returned (congrArg (Value.int IntKind.i64) ?_), rfl⟩)
  all_goals first
    | exact len64_end 56 (x.toNat / 72057594037927936) x.toNat _ (by omega) (by omega) (Lib.bitLen_shift56 x.toNat (by omega) (by omega)) (by omega)
    | exact len64_end 48 (x.toNat / 281474976710656) x.toNat _ (by omega) (by omega) (Lib.bitLen_shift48 x.toNat (by omega) (by omega)) (by omega)
    | exact len64_end 40 (x.toNat / 1099511627776) x.toNat _ (by omega) (by omega) (Lib.bitLen_shift40 x.toNat (by omega) (by omega)) (by omega)
    | exact len64_end 32 (x.toNat / 4294967296) x.toNat _ (by omega) (by omega) (Lib.bitLen_shift32 x.toNat (by omega) (by omega)) (by omega)
    | exact len64_end 24 (x.toNat / 16777216) x.toNat _ (by omega) (by omega) (Lib.bitLen_shift24 x.toNat (by omega) (by omega)) (by omega)
    | exact len64_end 16 (x.toNat / 65536) x.toNat _ (by omega) (by omega) (Lib.bitLen_shift16 x.toNat (by omega) (by omega)) (by omega)
    | exact len64_end 8 (x.toNat / 256) x.toNat _ (by omega) (by omega) (Lib.bitLen_shift8 x.toNat (by omega) (by omega)) (by omega)
    | exact len64_end 0 x.toNat x.toNat _ (by omega) (by omega) (Nat.zero_add _).symm (by omega)
    | (have l := len64_end 0 x.toNat x.toNat (by rw [Lib.len8tab_size]; omega) (by omega) (by omega) (Nat.zero_add _).symm rfl; simpa using l)
theorem bits_Len64.calls (a0 : Int) (r : Int) (w : World) (h : bits_Len64.f a0 = some r) :
    Calls Tryd.prog 71 #[.int .u64 a0] w fun e w' => e = .returned (.int .i64 r) ∧ Drawn0 w w' := by
  unfold bits_Len64.f at h
  by_cases hu : U a0
  · rw [if_pos hu] at h
    obtain rfl := Option.some.inj h
    refine (len64_any a0 w hu.1 hu.2).mono ?_
    rintro e w' ⟨rfl, rfl⟩
    exact ⟨rfl, Drawn0.refl _⟩
  · rw [if_neg hu] at h; cases h
end Go.Proofs.YtmdilnelogechaaDoor.Ext
