/- Plain arithmetic: one digit of a long division by trial and correction, two digits, and what a saturated quotient is. -/
import Derived.RowKit
namespace Go.Proofs.YtmdilnelogechaaDoor.Sat
/-- The loop's invariant at one digit of a long division (base B): u = q * yn1 + r, q is no less than the digit, and no more than B + 1. -/
structure Trial (B u yn1 yn0 d q r : Nat) : Prop where
  eq : q * yn1 + r = u
  ge : (u * B + d) / (yn1 * B + yn0) ≤ q
  le : q ≤ B + 1

theorem trial_start {B u yn1 yn0 d : Nat} (hn : B ≤ 2 * yn1) (h0 : yn0 < B) (hd : d < B) (hu : u < yn1 * B + yn0) :
    Trial B u yn1 yn0 d (u / yn1) (u % yn1) := by
  have h1 : 0 < yn1 := by omega
  refine ⟨by rw [Nat.mul_comm]; exact Nat.div_add_mod u yn1, ?_, ?_⟩
  · rw [Nat.le_div_iff_mul_le h1]
    have h3 := Nat.div_mul_le_self (u * B + d) (yn1 * B + yn0)
    generalize (u * B + d) / (yn1 * B + yn0) = q at *
    have h4 : q * yn1 * B ≤ u * B + d := by
      have : q * (yn1 * B + yn0) = q * yn1 * B + q * yn0 := by rw [Nat.mul_add, Nat.mul_assoc]
      omega
    have h5 : q * yn1 * B < (u + 1) * B := by rw [Nat.add_mul]; omega
    have := Nat.lt_of_mul_lt_mul_right h5
    omega
  · have : u / yn1 < B + 2 := by
      rw [Nat.div_lt_iff_lt_mul h1]
      have : (B + 2) * yn1 = yn1 * B + 2 * yn1 := by rw [Nat.add_mul, Nat.mul_comm B]
      omega
    omega

theorem trial_big {B u yn1 yn0 d q r : Nat} (t : Trial B u yn1 yn0 d q r) (hu : u < yn1 * B + yn0) (hd : d < B)
    (h : B ≤ q ∨ B * r + d < q * yn0) : (u * B + d) / (yn1 * B + yn0) < q := by
  have hY : 0 < yn1 * B + yn0 := by omega
  rcases h with h | h
  · refine Nat.lt_of_lt_of_le ?_ h
    rw [Nat.div_lt_iff_lt_mul hY]
    have : (u + 1) * B ≤ (yn1 * B + yn0) * B := Nat.mul_le_mul_right B hu
    rw [Nat.add_mul] at this
    rw [Nat.mul_comm B]
    omega
  · rw [Nat.div_lt_iff_lt_mul hY]
    have e := t.eq
    have : q * (yn1 * B + yn0) = q * yn1 * B + q * yn0 := by rw [Nat.mul_add, Nat.mul_assoc]
    have e2 : u * B = q * yn1 * B + r * B := by rw [← e, Nat.add_mul]
    rw [Nat.mul_comm B r] at h
    omega

theorem trial_step {B u yn1 yn0 d q r : Nat} (t : Trial B u yn1 yn0 d q r) (hu : u < yn1 * B + yn0) (hd : d < B)
    (h : B ≤ q ∨ B * r + d < q * yn0) : 0 < q ∧ Trial B u yn1 yn0 d (q - 1) (r + yn1) := by
  have hb := trial_big t hu hd h
  have e := t.eq
  have hl := t.le
  have h0 : 0 < q := Nat.lt_of_le_of_lt (Nat.zero_le _) hb
  refine ⟨h0, ?_, Nat.le_sub_one_of_lt hb, by omega⟩
  obtain ⟨p, rfl⟩ : ∃ p, q = p + 1 := ⟨q - 1, by omega⟩
  rw [Nat.add_mul] at e
  simp only [Nat.add_sub_cancel]
  omega

theorem trial_end {B u yn1 yn0 d q r : Nat} (t : Trial B u yn1 yn0 d q r) (hY : 0 < yn1 * B + yn0)
    (h : q * yn0 ≤ B * r + d) : (u * B + d) / (yn1 * B + yn0) = q := by
  refine Nat.le_antisymm t.ge ?_
  rw [Nat.le_div_iff_mul_le hY]
  have e := t.eq
  have : q * (yn1 * B + yn0) = q * yn1 * B + q * yn0 := by rw [Nat.mul_add, Nat.mul_assoc]
  have e2 : u * B = q * yn1 * B + r * B := by rw [← e, Nat.add_mul]
  rw [Nat.mul_comm B r] at h
  omega

theorem trial_break {B u yn1 yn0 d q r : Nat} (t : Trial B u yn1 yn0 d q r) (hY : 0 < yn1 * B + yn0) (h0 : yn0 < B)
    (hq : q ≤ B) (hr : B ≤ r) : (u * B + d) / (yn1 * B + yn0) = q := by
  refine trial_end t hY ?_
  have h1 : q * yn0 ≤ B * B := Nat.mul_le_mul hq (by omega)
  have h2 : B * B ≤ B * r := Nat.mul_le_mul_left B hr
  omega

/-- What is left behind a digit. -/
theorem rest_eq {A Y q : Nat} (h : A / Y = q) : A - q * Y = A % Y := by
  subst h
  have := Nat.div_add_mod A Y
  rw [Nat.mul_comm] at this
  omega

/-- Two digits are the quotient. -/
theorem two_digits {B A Y d : Nat} (hY : 0 < Y) : (A * B + d) / Y = A / Y * B + (A % Y * B + d) / Y := by
  have e := Nat.div_add_mod A Y
  have : A * B + d = Y * (A / Y * B) + (A % Y * B + d) := by
    rw [← Nat.mul_assoc]
    have : A * B = (Y * (A / Y) + A % Y) * B := by rw [e]
    rw [this, Nat.add_mul]
    omega
  rw [this, Nat.mul_add_div hY]

/-- A digit is less than the base. -/
theorem digit_lt {B u Y d : Nat} (hu : u < Y) (hd : d < B) : (u * B + d) / Y < B := by
  rw [Nat.div_lt_iff_lt_mul (by omega)]
  have : (u + 1) * B ≤ Y * B := Nat.mul_le_mul_right B hu
  rw [Nat.add_mul] at this
  rw [Nat.mul_comm B]
  omega
end Go.Proofs.YtmdilnelogechaaDoor.Sat
