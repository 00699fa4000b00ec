/- Plain facts of layer 1: what the contracts' functions answer for numbers of 64 bits, and how saturated numbers are ordered. -/
import Derived.Test.YtmdilnelogechaaDoorExtDown
namespace Go.Proofs.YtmdilnelogechaaDoor.Ext
open Go.RowKit

theorem U_wf {a : Int} (h : (Lit.int .u64 a).wf = true) : U a := by
  have hmin : IntKind.u64.min = 0 := rfl
  have hmax : IntKind.u64.max = 18446744073709551615 := rfl
  simp only [Lit.wf, Bool.and_eq_true, decide_eq_true_eq, hmin, hmax] at h
  exact h
theorem U_lo {a : Int} (h : U a) : 0 ≤ a := h.1
theorem U_hi {a : Int} (h : U a) : a ≤ 18446744073709551615 := h.2
theorem U_wrap (n : Int) : U (IntKind.u64.wrap n) := by rw [IntKind.wrap_u64]; exact ⟨by omega, by omega⟩
theorem wrap_U {n : Int} (h : U n) : IntKind.u64.wrap n = n := by rw [IntKind.wrap_u64]; have := h.1; have := h.2; omega
theorem U_sat {x : Int} (h : 0 ≤ x) : U (sat x) := by unfold sat; split <;> exact ⟨by omega, by omega⟩
theorem sat_le (x : Int) : sat x ≤ x := by unfold sat; split <;> omega
theorem sat_top (x : Int) : sat x ≤ 18446744073709551615 := by unfold sat; split <;> omega
theorem sat_mono {x y : Int} (h : x ≤ y) : sat x ≤ sat y := by unfold sat; split <;> split <;> omega
theorem sat_U {x : Int} (h : U x) : sat x = x := by unfold sat; rw [if_pos h.2]
theorem sat_lt {x : Int} (h : sat x ≠ 18446744073709551615) : sat x = x ∧ x < 18446744073709551615 := by
  unfold sat at *; split <;> rename_i h' <;> (try rw [if_pos h'] at h) <;> (try rw [if_neg h'] at h) <;> omega
theorem sat_is {x : Int} (h : sat x = 18446744073709551615) : 18446744073709551615 ≤ x := by unfold sat at h; split at h <;> omega
theorem le_sat {n x : Int} (h : n ≤ x) (hn : n ≤ 18446744073709551615) : n ≤ sat x := by unfold sat; split <;> omega
theorem sat_big {x : Int} (h : 18446744073709551615 ≤ x) : sat x = 18446744073709551615 := by unfold sat; split <;> omega
/-- In one word: the lesser one of the number and Never. -/
theorem sat_min (x : Int) : sat x = min x 18446744073709551615 := by unfold sat; split <;> omega
theorem sat_add_l {x y : Int} (h : 0 ≤ y) : sat (sat x + y) = sat (x + y) := by simp only [sat_min]; omega

theorem add_f {a b : Int} (ha : U a) (hb : U b) : sat_Add.f a b = some (sat (a + b)) := if_pos ⟨ha, hb⟩
theorem mul_f {a b : Int} (ha : U a) (hb : U b) : sat_Mul.f a b = some (sat (a * b)) := if_pos ⟨ha, hb⟩
theorem down_f {a b c : Int} (ha : U a) (hb : U b) (hc : U c) (h0 : c ≠ 0) : sat_Down.f a b c = some (sat (a * b / c)) := by
  unfold sat_Down.f; rw [if_pos ⟨ha, hb, hc⟩, if_neg h0]
theorem up_f {a b c : Int} (ha : U a) (hb : U b) (hc : U c) (h0 : c ≠ 0) : sat_Up.f a b c = some (sat ((a * b + (c - 1)) / c)) := by
  unfold sat_Up.f; rw [if_pos ⟨ha, hb, hc⟩, if_neg h0]
theorem down_zero_f {a b : Int} (ha : U a) (hb : U b) : sat_Down.f a b 0 = some 18446744073709551615 := by
  unfold sat_Down.f; rw [if_pos ⟨ha, hb, by decide⟩, if_pos rfl]
theorem up_zero_f {a b : Int} (ha : U a) (hb : U b) : sat_Up.f a b 0 = some 18446744073709551615 := by
  unfold sat_Up.f; rw [if_pos ⟨ha, hb, by decide⟩, if_pos rfl]
/-- The least number above or at a quotient. -/
theorem up_ge {v c : Int} (hc : 0 < c) : v ≤ (v + (c - 1)) / c * c := by
  have h1 := Int.mul_ediv_add_emod (v + (c - 1)) c
  have h2 := Int.emod_lt_of_pos (v + (c - 1)) hc
  rw [Int.mul_comm] at h1
  omega
theorem up_least {v c t : Int} (hc : 0 < c) (h : v ≤ t * c) : (v + (c - 1)) / c ≤ t := by
  have : (v + (c - 1)) / c < t + 1 := by
    rw [Int.ediv_lt_iff_lt_mul hc, Int.add_mul]
    omega
  omega
theorem up_pred {v c : Int} (hc : 0 < c) : ((v + (c - 1)) / c - 1) * c < v := by
  have h1 := Int.mul_ediv_add_emod (v + (c - 1)) c
  have h2 := Int.emod_nonneg (v + (c - 1)) (show c ≠ 0 by omega)
  rw [Int.mul_comm] at h1
  rw [Int.sub_mul]
  omega
theorem up_nonneg {v c : Int} (hc : 0 < c) (hv : 0 ≤ v) : 0 ≤ (v + (c - 1)) / c := Int.ediv_nonneg (by omega) (by omega)
theorem up_split' {v c : Nat} (hc : 0 < c) : (((v : Nat) : Int) + ((c : Int) - 1)) / (c : Int) = if v % c = 0 then ((v / c : Nat) : Int) else ((v / c : Nat) : Int) + 1 := by
  have e := Nat.div_add_mod v c
  have hm := Nat.mod_lt v hc
  rw [show ((v : Nat) : Int) + ((c : Int) - 1) = ((v + (c - 1) : Nat) : Int) by omega, show ((v + (c - 1) : Nat) : Int) / (c : Int) = (((v + (c - 1)) / c : Nat) : Int) from rfl]
  generalize v / c = q at *
  generalize v % c = r at *
  split
  · rw [show v + (c - 1) = c * q + (c - 1) by omega, Nat.mul_add_div hc, Nat.div_eq_of_lt (by omega), Nat.add_zero]
  · have : c * (q + 1) = c * q + c := by rw [Nat.mul_add, Nat.mul_one]
    rw [show v + (c - 1) = c * (q + 1) + (r - 1) by omega, Nat.mul_add_div hc, Nat.div_eq_of_lt (by omega), Nat.add_zero]
    omega
end Go.Proofs.YtmdilnelogechaaDoor.Ext
