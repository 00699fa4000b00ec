/- Plain arithmetic: a division bit by bit: one step. -/
import Derived.Test.YtnmkbnifgmeloaaLong
namespace Go.Proofs.Ytnmkbnifgmeloaa.Sat
/-- The next bit of a number of two words. -/
theorem bit_high (hi lo i : Nat) (h : 64 ≤ i) (hlo : lo < 18446744073709551616) : (hi * 18446744073709551616 + lo) / 2 ^ i % 2 = hi / 2 ^ (i - 64) % 2 := by
  have e : 2 ^ i = 18446744073709551616 * 2 ^ (i - 64) := by rw [show (18446744073709551616 : Nat) = 2 ^ 64 from rfl, ← Nat.pow_add, show 64 + (i - 64) = i from by omega]
  rw [e, ← Nat.div_div_eq_div_mul, show (hi * 18446744073709551616 + lo) / 18446744073709551616 = hi by omega]
theorem bit_low (hi lo i : Nat) (h : i < 64) : (hi * 18446744073709551616 + lo) / 2 ^ i % 2 = lo / 2 ^ i % 2 := by
  have e : (18446744073709551616 : Nat) = 2 ^ i * (2 * 2 ^ (63 - i)) := by
    rw [show (18446744073709551616 : Nat) = 2 ^ 64 from rfl, show 2 * 2 ^ (63 - i) = 2 ^ (63 - i + 1) by rw [Nat.pow_succ]; omega, ← Nat.pow_add, show i + (63 - i + 1) = 64 from by omega]
  rw [e, show hi * (2 ^ i * (2 * 2 ^ (63 - i))) = 2 ^ i * (hi * (2 * 2 ^ (63 - i))) by rw [Nat.mul_left_comm], Nat.mul_add_div (Nat.two_pow_pos i), show hi * (2 * 2 ^ (63 - i)) = 2 * (hi * 2 ^ (63 - i)) by rw [Nat.mul_left_comm]]
  omega
theorem next_prefix (V i : Nat) : V / 2 ^ i = 2 * (V / 2 ^ (i + 1)) + V / 2 ^ i % 2 := by
  rw [Nat.pow_succ, ← Nat.div_div_eq_div_mul]
  omega
/-- Quotient and rest, one bit further: the bit takes c once, or not. -/
theorem div_step_one {N c b : Nat} (hc : 0 < c) (hb : b < 2) (h : c ≤ 2 * (N % c) + b) : (2 * N + b) / c = 2 * (N / c) + 1 ∧ (2 * N + b) % c = 2 * (N % c) + b - c := by
  have hm := Nat.mod_lt N hc
  have e := Nat.div_add_mod N c
  generalize N / c = q at *
  generalize N % c = r at *
  have hs : 2 * r + b - c < c := by omega
  have e2 : 2 * N + b = c * (2 * q + 1) + (2 * r + b - c) := by
    have : c * (2 * q + 1) = 2 * (c * q) + c := by rw [Nat.mul_add, Nat.mul_one, Nat.mul_left_comm]
    omega
  constructor
  · rw [e2, Nat.mul_add_div hc, Nat.div_eq_of_lt hs]
  · rw [e2, Nat.mul_add_mod, Nat.mod_eq_of_lt hs]
theorem div_step_zero {N c b : Nat} (hc : 0 < c) (h : 2 * (N % c) + b < c) : (2 * N + b) / c = 2 * (N / c) ∧ (2 * N + b) % c = 2 * (N % c) + b := by
  have e := Nat.div_add_mod N c
  generalize N / c = q at *
  generalize N % c = r at *
  have e2 : 2 * N + b = c * (2 * q) + (2 * r + b) := by
    have : c * (2 * q) = 2 * (c * q) := by rw [Nat.mul_left_comm]
    omega
  constructor
  · rw [e2, Nat.mul_add_div hc, Nat.div_eq_of_lt h, Nat.add_zero]
  · rw [e2, Nat.mul_add_mod, Nat.mod_eq_of_lt h]
end Go.Proofs.Ytnmkbnifgmeloaa.Sat
