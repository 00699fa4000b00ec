/- Plain facts of layer 2: how times, worths and slots are ordered. -/
import Derived.Test.YtnmkbnifgmeloaaExtSpan
namespace Go.Proofs.Ytnmkbnifgmeloaa.Ext
open Go.RowKit

theorem up_anti {v c f : Int} (hv : 0 ≤ v) (hc : 0 < c) (h : c ≤ f) : (v + (f - 1)) / f ≤ (v + (c - 1)) / c :=
  up_least (by omega) (Int.le_trans (up_ge hc) (Int.mul_le_mul_of_nonneg_left h (up_nonneg hc hv)))
theorem up_mono {v u c : Int} (hc : 0 < c) (h : v ≤ u) : (v + (c - 1)) / c ≤ (u + (c - 1)) / c := Int.ediv_le_ediv hc (by omega)
theorem tm_mono {n m r : Int} (hr : U r) (h : n ≤ m) : tm n r ≤ tm m r := by
  unfold tm
  split
  · exact Int.le_refl _
  · exact sat_mono (up_mono (by have := hr.1; omega) (by omega))
theorem tm_anti {n a f : Int} (hn : 0 ≤ n) (ha : 0 < a) (h : a ≤ f) : tm n f ≤ tm n a := by
  unfold tm
  rw [if_neg (by omega), if_neg (by omega)]
  exact sat_mono (up_anti (by omega) ha h)
theorem by_mono {s t r : Int} (hr : U r) (h : s ≤ t) : by_ s r ≤ by_ t r := by
  unfold by_
  split
  · exact Int.le_refl _
  · exact sat_mono (Int.ediv_le_ediv (by decide) (Int.mul_le_mul_of_nonneg_right h hr.1))
theorem by_rate {t a f : Int} (ht : 0 ≤ t) (ha : 0 < a) (h : a ≤ f) : by_ t a ≤ by_ t f := by
  unfold by_
  rw [if_neg (by omega), if_neg (by omega)]
  exact sat_mono (Int.ediv_le_ediv (by decide) (Int.mul_le_mul_of_nonneg_left h ht))
theorem by_top (t r : Int) : by_ t r ≤ 18446744073709551615 := by unfold by_; split <;> first | exact Int.le_refl _ | exact sat_top _
theorem tm_nonneg {n r : Int} (hn : 0 ≤ n) (hr : U r) : 0 ≤ tm n r := (U_tm hn hr).1
theorem sl_mono {a b w : Int} (h : a ≤ b) : sl_ a w ≤ sl_ b w := up_mono (max_pos w) h
theorem sl_anti {a w v : Int} (ha : 0 ≤ a) (h : max w 1 ≤ max v 1) : sl_ a v ≤ sl_ a w := up_anti ha (max_pos w) h
theorem bg_mono {a b w : Int} (h : a ≤ b) : bg_ a w ≤ bg_ b w := sat_mono (Int.mul_le_mul_of_nonneg_right h (by omega))
theorem bg_wide {a w v : Int} (ha : 0 ≤ a) (h : max w 1 ≤ max v 1) : bg_ a w ≤ bg_ a v := sat_mono (Int.mul_le_mul_of_nonneg_left h ha)
/-- The time that bytes take is worth as many; a unit less is not. -/
theorem time_worth {n r : Int} (hn : U n) (hr : U r) (h0 : r ≠ 0) (ht : tm n r ≠ 18446744073709551615) : n ≤ by_ (tm n r) r ∧ (tm n r ≠ 0 → by_ (tm n r - 1) r < n) := by
  have hrp : 0 < r := by have := hr.1; omega
  unfold tm at *
  rw [if_neg h0] at *
  obtain ⟨e, hlt⟩ := sat_lt ht
  rw [e]
  have hge := up_ge (v := n * 1000000000) hrp
  have hpr := up_pred (v := n * 1000000000) hrp
  generalize (n * 1000000000 + (r - 1)) / r = t at *
  unfold by_
  rw [if_neg h0, if_neg h0]
  exact ⟨le_sat ((Int.le_ediv_iff_mul_le (by decide)).2 hge) hn.2, fun _ => Int.lt_of_le_of_lt (sat_le _) ((Int.ediv_lt_iff_lt_mul (by decide)).2 hpr)⟩
theorem time_never {n r : Int} (hn : U n) (hr : U r) (h0 : r ≠ 0) (ht : tm n r = 18446744073709551615) : 0 < n := by
  have hrp : 0 < r := by have := hr.1; omega
  rcases Int.lt_or_eq_of_le hn.1 with h | h
  · exact h
  · exfalso
    unfold tm at ht
    rw [if_neg h0] at ht
    have := sat_is ht
    rw [← h, Int.zero_mul, Int.ediv_eq_zero_of_lt (by omega) (by omega)] at this
    omega
theorem le_comm (a b : Int) : le_ a b = le_ b a := by unfold le_; split <;> split <;> omega
end Go.Proofs.Ytnmkbnifgmeloaa.Ext
