/- The contracts of sat.Down and sat.Up: the product, divided, rounded, or Never. -/
import Derived.Test.YtmdilnelogechaaDoorDiv64
import Derived.Test.YtmdilnelogechaaDoorExtSat
namespace Go.Proofs.YtmdilnelogechaaDoor.Ext
open Go.RowKit Go.Proofs.YtmdilnelogechaaDoorW.PrintWords Go.Proofs.YtmdilnelogechaaDoorW.PrintMore Go.Proofs.YtmdilnelogechaaDoor.Sat
attribute [local go_sem] max2_int min2_int max_two min_two

theorem mul64_tells (a b : Nat) (ha : a < 18446744073709551616) (hb : b < 18446744073709551616) :
    PBase.bits_Mul64.f a b = some (((a * b / 18446744073709551616 : Nat) : Int), ((a * b % 18446744073709551616 : Nat) : Int)) := by
  unfold PBase.bits_Mul64.f
  have h := mul64_arith a b (by omega) (by omega) (by omega) (by omega)
  simp only [IntKind.wrap_u64, and_low32 (a : Int) (by omega) (by omega), and_low32 (b : Int) (by omega) (by omega)]
  rw [and_low32 _ (Int.emod_nonneg _ (by decide)) (Int.emod_lt_of_pos _ (by decide)), h]
  rfl

theorem add64_zero (x : Int) (hx : 0 ≤ x) (hx' : x ≤ 18446744073709551615) (w : World) : (callFunc 56 #[.int .u64 x, .int .u64 0, .int .u64 0]).run Tryd.prog w =
    .ok (.value (.tuple #[.int .u64 x, .int .u64 0])) w := by
  have := add64_small x 0 hx (by decide) (by omega) w
  simpa using this

theorem ret_int {k : IntKind} {a b : Int} (h : a = b) : Ending.returned (.int k a) = .returned (.int k b) := by rw [h]
def sat_Mul.f (a0 : Int) (a1 : Int) : Option (Int) := if U a0 ∧ U a1 then some (sat (a0 * a1)) else none
theorem sat_Mul.calls (a0 : Int) (a1 : Int) (r : Int) (w : World) (h : sat_Mul.f a0 a1 = some r) :
    Calls Tryd.prog 41 #[.int .u64 a0, .int .u64 a1] w fun e w' => e = .returned (.int .u64 r) ∧ Drawn0 w w' := by
  unfold sat_Mul.f at h
  by_cases hu : U a0 ∧ U a1
  · rw [if_pos hu] at h
    obtain ⟨⟨h1, h2⟩, h3, h4⟩ := hu
    obtain ⟨a, rfl⟩ := Int.eq_ofNat_of_zero_le h1
    obtain ⟨b, rfl⟩ := Int.eq_ofNat_of_zero_le h3
    refine PBase.sat_Mul.calls _ _ r w ?_
    unfold PBase.sat_Mul.f
    rw [mul64_tells a b (by omega) (by omega)]
    simp only [Option.bind_some]
    rw [← h]
    unfold sat
    have hm := Nat.div_add_mod (a * b) 18446744073709551616
    have hlt := Nat.mod_lt (a * b) (show 0 < 18446744073709551616 by decide)
    rw [← Int.natCast_mul]
    generalize a * b % 18446744073709551616 = l at *
    generalize a * b / 18446744073709551616 = q at *
    generalize a * b = v at *
    by_cases hq : 0 < q
    · rw [if_pos (by omega), if_neg (by omega)]
    · rw [if_neg (by omega), if_pos (by omega), show (l : Int) = (v : Int) by omega]
  · rw [if_neg hu] at h; cases h
def sat_Down.f (a0 : Int) (a1 : Int) (a2 : Int) : Option (Int) := if U a0 ∧ U a1 ∧ U a2 then some (if a2 = 0 then 18446744073709551615 else sat (a0 * a1 / a2)) else none
def sat_Up.f (a0 : Int) (a1 : Int) (a2 : Int) : Option (Int) := if U a0 ∧ U a1 ∧ U a2 then some (if a2 = 0 then 18446744073709551615 else sat ((a0 * a1 + (a2 - 1)) / a2)) else none

/-- What Div64's walk needs, as one fact. -/
theorem div_gives (hi lo c : Nat) (h1 : hi < c) (h2 : c < 18446744073709551616) (h3 : lo < 18446744073709551616) (w : World) :
    Calls Tryd.prog 72 #[.int .u64 hi, .int .u64 lo, .int .u64 c] w fun e w' => ∃ rem : Int, e = .returned (.tuple #[.int .u64 ((((hi * 18446744073709551616 + lo) / c : Nat)) : Int), .int .u64 rem]) ∧ Drawn0 w w' := by
  obtain ⟨k, hk⟩ : ∃ k : Nat, 17179869204 ≤ k := ⟨_, Nat.le_refl _⟩
  obtain ⟨rem, h⟩ := div64_tells hi lo c h1 h2 h3 k hk
  exact (PBase.bits_Div64.calls k _ _ _ _ _ w h).mono fun e w' h' => ⟨rem, h'⟩

theorem mul_gives (a b : Nat) (ha : a < 18446744073709551616) (hb : b < 18446744073709551616) (w : World) :
    Calls Tryd.prog 57 #[.int .u64 a, .int .u64 b] w fun e w' => e = .returned (.tuple #[.int .u64 (((a * b / 18446744073709551616 : Nat)) : Int), .int .u64 (((a * b % 18446744073709551616 : Nat)) : Int)]) ∧ Drawn0 w w' :=
  PBase.bits_Mul64.calls _ _ _ _ w (mul64_tells a b ha hb)

theorem drawn2 {w w1 w2 : World} (h1 : Drawn0 w w1) (h2 : Drawn0 w1 w2) : Drawn0 w w2 := by
  obtain ⟨n, rfl⟩ := h2.out
  exact h1.step n



theorem up_zero (a b hi lo : Nat) (HM : ∀ w, Calls Tryd.prog 57 #[.int .u64 a, .int .u64 b] w fun e w' => e = .returned (.tuple #[.int .u64 (hi : Int), .int .u64 (lo : Int)]) ∧ Drawn0 w w')
    (w : World) :
    Calls Tryd.prog 37 #[.int .u64 a, .int .u64 b, .int .u64 0] w fun e w' => e = .returned (.int .u64 18446744073709551615) ∧ Drawn0 w w' := by
  go_enter Tryd.func37, Tryd.ntmps37
  go_wp2_with (first | (go_at_call 57; refine (HM _).mono ?_; rintro e w1 ⟨rfl, hd1⟩) | go_in)
  go_ret
  exact ⟨rfl, hd1⟩


theorem up_big (a b hi lo : Nat) (HM : ∀ w, Calls Tryd.prog 57 #[.int .u64 a, .int .u64 b] w fun e w' => e = .returned (.tuple #[.int .u64 (hi : Int), .int .u64 (lo : Int)]) ∧ Drawn0 w w')
    (d o L H : Nat) (K : ∀ w, (callFunc 56 #[.int .u64 (lo : Int), .int .u64 (d : Int), .int .u64 0]).run Tryd.prog w = .ok (.value (.tuple #[.int .u64 (L : Int), .int .u64 (o : Int)])) w)
    (hw : IntKind.u64.wrap ((hi : Int) + (o : Int)) = H) (hd : IntKind.u64.wrap (d : Int) = d) (hge : d + 1 ≤ H) (w : World) :
    Calls Tryd.prog 37 #[.int .u64 a, .int .u64 b, .int .u64 ((d : Int) + 1)] w fun e w' => e = .returned (.int .u64 18446744073709551615) ∧ Drawn0 w w' := by
  have hc : ((d : Int) + 1 == 0) = false := by simp; omega
  go_enter Tryd.func37, Tryd.ntmps37
  go_wp2_with (first | (go_at_call 57; refine (HM _).mono ?_; rintro e w1 ⟨rfl, hd1⟩) | go_in)
  go_ret
  exact ⟨rfl, hd1⟩


theorem up_div (a b hi lo : Nat) (HM : ∀ w, Calls Tryd.prog 57 #[.int .u64 a, .int .u64 b] w fun e w' => e = .returned (.tuple #[.int .u64 (hi : Int), .int .u64 (lo : Int)]) ∧ Drawn0 w w')
    (d o L H : Nat) (K : ∀ w, (callFunc 56 #[.int .u64 (lo : Int), .int .u64 (d : Int), .int .u64 0]).run Tryd.prog w = .ok (.value (.tuple #[.int .u64 (L : Int), .int .u64 (o : Int)])) w)
    (hw : IntKind.u64.wrap ((hi : Int) + (o : Int)) = H) (hd : IntKind.u64.wrap (d : Int) = d) (hge : H < d + 1) (q : Nat) (HD : ∀ w, Calls Tryd.prog 72 #[.int .u64 H, .int .u64 L, .int .u64 ((d : Int) + 1)] w fun e w' => ∃ rem : Int, e = .returned (.tuple #[.int .u64 (q : Int), .int .u64 rem]) ∧ Drawn0 w w')
    (w : World) :
    Calls Tryd.prog 37 #[.int .u64 a, .int .u64 b, .int .u64 ((d : Int) + 1)] w fun e w' => e = .returned (.int .u64 (q : Int)) ∧ Drawn0 w w' := by
  have hc : ((d : Int) + 1 == 0) = false := by simp; omega
  go_enter Tryd.func37, Tryd.ntmps37
  go_wp2_with (first | (go_at_call 57; refine (HM _).mono ?_; rintro e w1 ⟨rfl, hd1⟩) | (go_at_call 72; refine (HD _).mono ?_; rintro e w2 ⟨rem, rfl, hd2⟩) | go_in)
  go_ret
  exact ⟨rfl, drawn2 hd1 hd2⟩

theorem nats {a : Int} (h : U a) : ∃ n : Nat, a = n ∧ n < 18446744073709551616 := by
  obtain ⟨h0, h1⟩ := h
  exact ⟨a.toNat, by omega, by omega⟩

/-- What is saturated, out of the two words. -/
theorem sat_words (v c : Nat) (hc : 0 < c) : (sat ((v : Int) / (c : Int)) = if c ≤ v / 18446744073709551616 then 18446744073709551615 else ((v / c : Nat) : Int)) := by
  have e : ((v : Int) / (c : Int)) = ((v / c : Nat) : Int) := rfl
  rw [e]
  unfold sat
  have h1 : c ≤ v / 18446744073709551616 ↔ 18446744073709551616 ≤ v / c := by
    rw [Nat.le_div_iff_mul_le (by decide), Nat.le_div_iff_mul_le hc, Nat.mul_comm]
  by_cases h : c ≤ v / 18446744073709551616
  · rw [if_pos h, if_neg (by have := h1.1 h; omega)]
  · rw [if_neg h, if_pos (by have := mt h1.2 h; omega)]

theorem high_lt {a b : Nat} (ha : a < 18446744073709551616) (hb : b < 18446744073709551616) : a * b / 18446744073709551616 < 18446744073709551615 := by
  rw [Nat.div_lt_iff_lt_mul (by decide)]
  have h : a * b ≤ 18446744073709551615 * 18446744073709551615 := Nat.mul_le_mul (by omega) (by omega)
  omega

theorem sat_Up.calls (a0 : Int) (a1 : Int) (a2 : Int) (r : Int) (w : World) (h : sat_Up.f a0 a1 a2 = some r) :
    Calls Tryd.prog 37 #[.int .u64 a0, .int .u64 a1, .int .u64 a2] w fun e w' => e = .returned (.int .u64 r) ∧ Drawn0 w w' := by
  unfold sat_Up.f at h
  by_cases hu : U a0 ∧ U a1 ∧ U a2
  · rw [if_pos hu] at h
    obtain ⟨a, rfl, ha⟩ := nats hu.1
    obtain ⟨b, rfl, hb⟩ := nats hu.2.1
    obtain ⟨c, rfl, hc⟩ := nats hu.2.2
    clear hu
    have HM := mul_gives a b ha hb
    by_cases hz : c = 0
    · subst hz
      obtain rfl := Option.some.inj h
      exact up_zero a b _ _ HM w
    · obtain ⟨d, rfl⟩ : ∃ d, c = d + 1 := ⟨c - 1, by omega⟩
      have hm := Nat.div_add_mod (a * b) 18446744073709551616
      have hlt := Nat.mod_lt (a * b) (show 0 < 18446744073709551616 by decide)
      have hle := high_lt ha hb
      clear ha hb
      rw [if_neg (by omega), ← Int.natCast_mul, show ((a * b : Nat) : Int) + (((d + 1 : Nat) : Int) - 1) = ((a * b + d : Nat) : Int) from by omega, sat_words _ _ (by omega)] at h
      have hwd : IntKind.u64.wrap (d : Int) = d := u64_nat _ (by omega)
      generalize a * b / 18446744073709551616 = hi at *
      generalize a * b % 18446744073709551616 = lo at *
      generalize hv : a * b + d = v at *
      obtain ⟨o, L, H, hK, hw, hH, hL, hLt⟩ : ∃ o L H : Nat, (∀ W, (callFunc 56 #[.int .u64 (lo : Int), .int .u64 (d : Int), .int .u64 0]).run Tryd.prog W = .ok (.value (.tuple #[.int .u64 (L : Int), .int .u64 (o : Int)])) W) ∧
          IntKind.u64.wrap ((hi : Int) + (o : Int)) = H ∧ v / 18446744073709551616 = H ∧ H * 18446744073709551616 + L = v ∧ L < 18446744073709551616 := by
        by_cases hs : lo + d < 18446744073709551616
        · refine ⟨0, lo + d, hi, fun W => ?_, ?_, by omega, by omega, hs⟩
          · rw [Int.natCast_add]; exact add64_small lo d (by omega) (by omega) (by omega) W
          · rw [show (hi : Int) + ((0 : Nat) : Int) = hi from by omega]; exact u64_nat _ (by omega)
        · refine ⟨1, lo + d - 18446744073709551616, hi + 1, fun W => ?_, ?_, by omega, by omega, by omega⟩
          · rw [Int.natCast_sub (by omega), Int.natCast_add]; exact add64_big lo d (by omega) (by omega) (by omega) (by omega) (by omega) W
          · rw [show (hi : Int) + ((1 : Nat) : Int) = ((hi + 1 : Nat) : Int) from by omega]; exact u64_nat _ (by omega)
      rw [hH] at h
      by_cases hg : d + 1 ≤ H
      · rw [if_pos hg] at h
        obtain rfl := Option.some.inj h
        exact up_big a b hi lo HM d o L H hK hw hwd hg w
      · rw [if_neg hg] at h
        obtain rfl := Option.some.inj h
        have HD := div_gives H L (d + 1) (by omega) hc hLt
        rw [hL] at HD
        exact up_div a b hi lo HM d o L H hK hw hwd (by omega) _ HD w
  · rw [if_neg hu] at h; cases h
end Go.Proofs.YtmdilnelogechaaDoor.Ext
