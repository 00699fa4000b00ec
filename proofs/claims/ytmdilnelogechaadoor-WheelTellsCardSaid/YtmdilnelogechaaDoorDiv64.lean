/- What bits.Div64, as printed, answers: the quotient of two words by one, if the high word is less than the divisor. And bits.Mul64: both halves of the product. -/
import Derived.Test.YtmdilnelogechaaDoorDivPlain
import Derived.Test.YtmdilnelogechaaDoorPBasex1
import Derived.Laws.MathBits
import Derived.Laws.Bits64b
import Derived.Lib.ItoaNum
namespace Go.Proofs.YtmdilnelogechaaDoor.Sat
open Go.RowKit Go.Proofs.YtmdilnelogechaaDoorW.PrintWords Go.Proofs.YtmdilnelogechaaDoor.PBase Go.Proofs.YtmdilnelogechaaDoor.Ext

theorem u64_nat (n : Nat) (h : n < 18446744073709551616) : IntKind.u64.wrap (n : Int) = n := by rw [IntKind.wrap_u64]; omega
theorem u64_int (n : Int) (h0 : 0 ≤ n) (h : n < 18446744073709551616) : IntKind.u64.wrap n = n := by rw [IntKind.wrap_u64]; omega

theorem mul_word {a b : Nat} (ha : a < 4294967296) (hb : b < 4294967296) : a * b < 18446744073709551616 - 4294967296 := by
  have h1 : a * b ≤ 4294967295 * 4294967295 := Nat.mul_le_mul (by omega) (by omega)
  omega

/-- The second loop: the second digit. -/
theorem l1_tells (s : Int) (hs : 0 ≤ s) (Y yn1 yn0 u d q1 : Nat) (hY : Y = yn1 * 4294967296 + yn0) (h1 : yn1 < 4294967296) (h0 : yn0 < 4294967296)
    (hd : d < 4294967296) (hu : u < Y) (hq1 : q1 < 4294967296) : ∀ (m q r k : Nat), q ≤ m → r < 4294967296 → Trial 4294967296 u yn1 yn0 d q r → 2 * m + 2 ≤ k →
    ∃ rem, bits_Div64.l1 k Y s yn1 yn0 d q1 r u q = some (((q1 * 4294967296 + (u * 4294967296 + d) / Y : Nat) : Int), rem) := by
  have hYp : 0 < Y := by omega
  have hdig := digit_lt (B := 4294967296) hu hd
  have ew : ∀ n : Nat, n < 4294967296 → IntKind.u64.wrap ((IntKind.u64.wrap ((q1 : Int) * 4294967296)) + (n : Int)) = ((q1 * 4294967296 + n : Nat) : Int) := by
    intro n hn; simp only [IntKind.wrap_u64]; omega
  intro m
  induction m with
  | zero =>
    intro q r k hq hr t hk
    obtain rfl : q = 0 := by omega
    obtain ⟨k, rfl⟩ : ∃ j, k = j + 2 := ⟨k - 2, by omega⟩
    have e := trial_end t (by omega) (by omega)
    rw [← hY] at e
    simp only [bits_Div64.l1]
    rw [if_neg (by omega)]
    simp only [bits_Div64.j4]
    rw [decide_eq_false (by simp only [IntKind.wrap_u64]; omega), if_neg (by decide), if_pos hs]
    exact ⟨_, by rw [e, ew 0 (by omega)]⟩
  | succ m ih =>
    intro q r k hq hr t hk
    obtain ⟨k, rfl⟩ : ∃ j, k = j + 2 := ⟨k - 2, by omega⟩
    by_cases hc : 4294967296 ≤ q ∨ 4294967296 * r + d < q * yn0
    · have hb := trial_big t (by omega) hd hc
      obtain ⟨hq0, t'⟩ := trial_step t (by omega) hd hc
      have step : bits_Div64.l1 (k + 2) Y s yn1 yn0 d q1 r u q = bits_Div64.j4 (k + 1) Y s yn1 yn0 d q1 r u q true := by
        simp only [bits_Div64.l1]
        by_cases hg : 4294967296 ≤ q
        · rw [if_pos (by omega)]
        · rw [if_neg (by omega)]
          have hm := mul_word (a := q) (b := yn0) (by omega) h0
          rw [decide_eq_true (by simp only [IntKind.wrap_u64]; omega)]
      rw [step]
      simp only [bits_Div64.j4, if_true]
      have e1 : IntKind.u64.wrap ((r : Int) + (yn1 : Int)) = ((r + yn1 : Nat) : Int) := by simp only [IntKind.wrap_u64]; omega
      have hl := t.le
      have e2 : IntKind.u64.wrap ((q : Int) - 1) = ((q - 1 : Nat) : Int) := by simp only [IntKind.wrap_u64]; omega
      rw [e1, e2]
      by_cases hbr : 4294967296 ≤ r + yn1
      · rw [if_pos (by omega), if_pos hs]
        have e := trial_break t' (by omega) h0 (by omega) hbr
        rw [← hY] at e
        exact ⟨_, by rw [ew (q - 1) (by omega), e]⟩
      · rw [if_neg (by omega)]
        exact ih (q - 1) (r + yn1) k (by omega) (by omega) t' (by omega)
    · have hc' : q < 4294967296 ∧ q * yn0 ≤ 4294967296 * r + d := by omega
      have hm := mul_word (a := q) (b := yn0) hc'.1 h0
      have e := trial_end t (by omega) hc'.2
      rw [← hY] at e
      simp only [bits_Div64.l1]
      rw [if_neg (by omega)]
      simp only [bits_Div64.j4]
      rw [decide_eq_false (by simp only [IntKind.wrap_u64]; omega), if_neg (by decide), if_pos hs]
      exact ⟨_, by rw [e, ew q hc'.1]⟩

/-- Behind the first digit. -/
theorem j2_tells (s : Int) (hs : 0 ≤ s) (Y yn1 yn0 u d0 d1 q1 : Nat) (hY : Y = yn1 * 4294967296 + yn0) (hn : 4294967296 ≤ 2 * yn1) (h1 : yn1 < 4294967296) (h0 : yn0 < 4294967296)
    (hd0 : d0 < 4294967296) (hd1 : d1 < 4294967296) (hu : u < Y) (hq : (u * 4294967296 + d0) / Y = q1) (k : Nat) (hk : 8589934600 ≤ k) :
    ∃ rem, bits_Div64.j2 k Y s yn1 yn0 u d0 d1 q1 = some ((((((u * 4294967296 + d0) * 4294967296 + d1) / Y : Nat)) : Int), rem) := by
  obtain ⟨k, rfl⟩ : ∃ j, k = j + 1 := ⟨k - 1, by omega⟩
  have hYp : 0 < Y := by omega
  have hdig := digit_lt (B := 4294967296) hu hd0
  have hrest := rest_eq hq
  have hlt : (u * 4294967296 + d0) % Y < Y := Nat.mod_lt _ hYp
  have hle : q1 * Y ≤ u * 4294967296 + d0 := by rw [← hq]; exact Nat.div_mul_le_self _ _
  have e1 : IntKind.u64.wrap ((IntKind.u64.wrap ((IntKind.u64.wrap ((u : Int) * 4294967296)) + (d0 : Int))) - (IntKind.u64.wrap ((q1 : Int) * (Y : Int)))) = (((u * 4294967296 + d0) % Y : Nat) : Int) := by
    simp only [IntKind.wrap_u64]
    rw [← hrest] at hlt ⊢
    omega
  simp only [bits_Div64.j2]
  rw [if_neg (by omega), e1, two_digits hYp, hq]
  rw [hq] at hdig
  generalize hv : (u * 4294967296 + d0) % Y = v at *
  have e2 : (v : Int).tdiv (yn1 : Int) = ((v / yn1 : Nat) : Int) := rfl
  have hmod : v - v / yn1 * yn1 = v % yn1 := rest_eq rfl
  have hdm : v / yn1 * yn1 ≤ v := Nat.div_mul_le_self _ _
  have hY64 : Y < 18446744073709551616 := by omega
  have t := trial_start (B := 4294967296) (u := v) (d := d1) hn h0 hd1 (by omega)
  have hqle := t.le
  have e3 : IntKind.u64.wrap ((v / yn1 : Nat) : Int) = ((v / yn1 : Nat) : Int) := u64_nat _ (by omega)
  have e4 : IntKind.u64.wrap ((v : Int) - IntKind.u64.wrap (((v / yn1 : Nat) : Int) * (yn1 : Int))) = ((v % yn1 : Nat) : Int) := by
    rw [← hmod]
    rw [show ((v / yn1 : Nat) : Int) * (yn1 : Int) = ((v / yn1 * yn1 : Nat) : Int) from (Int.natCast_mul _ _).symm]
    generalize v / yn1 * yn1 = z at *
    simp only [IntKind.wrap_u64]; omega
  rw [e2, e3, e4]
  exact l1_tells s hs Y yn1 yn0 v d1 q1 hY h1 h0 hd1 hlt hdig (v / yn1) (v / yn1) (v % yn1) k (Nat.le_refl _) (Nat.lt_of_lt_of_le (Nat.mod_lt _ (by omega)) (by omega)) t (by omega)

/-- The first loop: both digits. -/
theorem l0_tells (s : Int) (hs : 0 ≤ s) (Y yn1 yn0 u d0 d1 : Nat) (hY : Y = yn1 * 4294967296 + yn0) (hn : 4294967296 ≤ 2 * yn1) (h1 : yn1 < 4294967296) (h0 : yn0 < 4294967296)
    (hd0 : d0 < 4294967296) (hd1 : d1 < 4294967296) (hu : u < Y) : ∀ (m q r k : Nat), q ≤ m → r < 4294967296 → Trial 4294967296 u yn1 yn0 d0 q r → 2 * m + 8589934610 ≤ k →
    ∃ rem, bits_Div64.l0 k Y s yn1 yn0 u d0 d1 q r = some ((((((u * 4294967296 + d0) * 4294967296 + d1) / Y : Nat)) : Int), rem) := by
  have hYp : 0 < Y := by omega
  intro m
  induction m with
  | zero =>
    intro q r k hq hr t hk
    obtain rfl : q = 0 := by omega
    obtain ⟨k, rfl⟩ : ∃ j, k = j + 2 := ⟨k - 2, by omega⟩
    have e := trial_end t (by omega) (by omega)
    rw [← hY] at e
    simp only [bits_Div64.l0]
    rw [if_neg (by omega)]
    simp only [bits_Div64.j1]
    rw [decide_eq_false (by simp only [IntKind.wrap_u64]; omega), if_neg (by decide)]
    exact j2_tells s hs Y yn1 yn0 u d0 d1 0 hY hn h1 h0 hd0 hd1 hu e k (by omega)
  | succ m ih =>
    intro q r k hq hr t hk
    obtain ⟨k, rfl⟩ : ∃ j, k = j + 2 := ⟨k - 2, by omega⟩
    by_cases hc : 4294967296 ≤ q ∨ 4294967296 * r + d0 < q * yn0
    · have hb := trial_big t (by omega) hd0 hc
      obtain ⟨hq0, t'⟩ := trial_step t (by omega) hd0 hc
      have step : bits_Div64.l0 (k + 2) Y s yn1 yn0 u d0 d1 q r = bits_Div64.j1 (k + 1) Y s yn1 yn0 u d0 d1 q r true := by
        simp only [bits_Div64.l0]
        by_cases hg : 4294967296 ≤ q
        · rw [if_pos (by omega)]
        · rw [if_neg (by omega)]
          have hm := mul_word (a := q) (b := yn0) (by omega) h0
          rw [decide_eq_true (by simp only [IntKind.wrap_u64]; omega)]
      rw [step]
      simp only [bits_Div64.j1, if_true]
      have e1 : IntKind.u64.wrap ((r : Int) + (yn1 : Int)) = ((r + yn1 : Nat) : Int) := by simp only [IntKind.wrap_u64]; omega
      have hl := t.le
      have e2 : IntKind.u64.wrap ((q : Int) - 1) = ((q - 1 : Nat) : Int) := by simp only [IntKind.wrap_u64]; omega
      rw [e1, e2]
      by_cases hbr : 4294967296 ≤ r + yn1
      · rw [if_pos (by omega)]
        have e := trial_break t' (by omega) h0 (by omega) hbr
        rw [← hY] at e
        exact j2_tells s hs Y yn1 yn0 u d0 d1 (q - 1) hY hn h1 h0 hd0 hd1 hu e k (by omega)
      · rw [if_neg (by omega)]
        exact ih (q - 1) (r + yn1) k (by omega) (by omega) t' (by omega)
    · have hc' : q < 4294967296 ∧ q * yn0 ≤ 4294967296 * r + d0 := by omega
      have hm := mul_word (a := q) (b := yn0) hc'.1 h0
      have e := trial_end t (by omega) hc'.2
      rw [← hY] at e
      simp only [bits_Div64.l0]
      rw [if_neg (by omega)]
      simp only [bits_Div64.j1]
      rw [decide_eq_false (by simp only [IntKind.wrap_u64]; omega), if_neg (by decide)]
      exact j2_tells s hs Y yn1 yn0 u d0 d1 q hY hn h1 h0 hd0 hd1 hu e k (by omega)


theorem lz64 (y : Nat) (hy : y < 18446744073709551616) (hy0 : 0 < y) : ∃ s : Nat, s ≤ 63 ∧ 9223372036854775808 ≤ y * 2 ^ s ∧ y * 2 ^ s < 18446744073709551616 ∧ bits_LeadingZeros64.f y = some (s : Int) := by
  have b : 1 ≤ Lib.bitLen y ∧ 2 ^ (Lib.bitLen y - 1) ≤ y ∧ y < 2 ^ Lib.bitLen y := Lib.bitLenAux_bounds 64 y hy (by omega)
  have l : Lib.bitLen y ≤ 64 := Lib.bitLen_le y 64 (by omega) hy
  have f1 : bits_Len64.f y = some ((Lib.bitLen y : Nat) : Int) := by
    unfold bits_Len64.f
    rw [if_pos ⟨by omega, by omega⟩, Int.toNat_natCast]
  generalize Lib.bitLen y = n at *
  obtain ⟨b1, b2, b3⟩ := b
  have e1 : 2 ^ (n - 1) * 2 ^ (64 - n) = 9223372036854775808 := by rw [← Nat.pow_add, show n - 1 + (64 - n) = 63 from by omega]
  have e2 : 2 ^ n * 2 ^ (64 - n) = 18446744073709551616 := by rw [← Nat.pow_add, show n + (64 - n) = 64 from by omega]
  refine ⟨64 - n, by omega, ?_, ?_, ?_⟩
  · rw [← e1]; exact Nat.mul_le_mul_right _ b2
  · rw [← e2]; exact Nat.mul_lt_mul_of_pos_right b3 (Nat.two_pow_pos _)
  · unfold bits_LeadingZeros64.f
    rw [f1]
    simp only [Option.bind_some, wrap64]
    congr 1
    omega

/-- The words that a shift makes. -/
theorem shifted (hi lo y s : Nat) (hs : s ≤ 63) (hhi : hi < y) (hlo : lo < 18446744073709551616) :
    hi * 2 ^ s + lo / 2 ^ (64 - s) < y * 2 ^ s ∧ (hi * 2 ^ s + lo / 2 ^ (64 - s)) * 18446744073709551616 + lo * 2 ^ s % 18446744073709551616 = (hi * 18446744073709551616 + lo) * 2 ^ s ∧ lo / 2 ^ (64 - s) < 2 ^ s := by
  have hp : 0 < 2 ^ s := Nat.two_pow_pos s
  have hq : 0 < 2 ^ (64 - s) := Nat.two_pow_pos _
  have e : 2 ^ s * 2 ^ (64 - s) = 18446744073709551616 := by rw [← Nat.pow_add, show s + (64 - s) = 64 from by omega]
  generalize 2 ^ s = p at *
  generalize 2 ^ (64 - s) = q at *
  have h1 : lo / q < p := by rw [Nat.div_lt_iff_lt_mul hq, e]; exact hlo
  refine ⟨?_, ?_, h1⟩
  · have : (hi + 1) * p ≤ y * p := Nat.mul_le_mul_right p hhi
    rw [Nat.add_mul] at this
    omega
  · have h2 : lo * p / 18446744073709551616 = lo / q := by rw [← e, Nat.mul_comm lo p, Nat.mul_div_mul_left _ _ hp]
    have h3 := Nat.div_add_mod (lo * p) 18446744073709551616
    rw [h2] at h3
    rw [Nat.add_mul, Nat.add_mul, Nat.mul_assoc, Nat.mul_comm p, ← Nat.mul_assoc]
    generalize lo * p % 18446744073709551616 = z at *
    generalize lo * p = v at *
    generalize hi * 18446744073709551616 * p = w at *
    omega

theorem join64 (s x y : Nat) (hs : s ≤ 63) (hx : x * 2 ^ s < 18446744073709551616) (hy : y < 2 ^ s) : bits .or .u64 ((x * 2 ^ s : Nat) : Int) (y : Int) = ((x * 2 ^ s + y : Nat) : Int) := by
  have hy2 : 2 ^ s ≤ 2 ^ 63 := Nat.pow_le_pow_right (by decide) hs
  rw [bits_join .u64 64 (by decide) (fun n h0 h1 => u64_int n h0 h1) s _ _ (by omega) (by
      rw [show ((2 : Int) ^ s) = ((2 ^ s : Nat) : Int) from by simp]
      rw [← Int.natCast_emod, Nat.mul_mod_left]; rfl) (by omega) (by omega) (by
      rw [show ((2 : Int) ^ s) = ((2 ^ s : Nat) : Int) from by simp]; omega) (by omega)]
  omega

theorem glue (u L : Nat) : (u * 4294967296 + L / 4294967296) * 4294967296 + L % 4294967296 = u * 18446744073709551616 + L := by omega

/-- bits.Div64: the quotient, if the high word is less than the divisor. -/
theorem div64_tells (hi lo y : Nat) (hhi : hi < y) (hy : y < 18446744073709551616) (hlo : lo < 18446744073709551616) (k : Nat) (hk : 17179869204 ≤ k) :
    ∃ rem, bits_Div64.f k hi lo y = some ((((hi * 18446744073709551616 + lo) / y : Nat) : Int), rem) := by
  by_cases h0 : hi = 0
  · subst h0
    refine ⟨(lo : Int).tmod y, ?_⟩
    unfold bits_Div64.f
    rw [if_neg (by omega), if_neg (by omega), if_pos (by omega)]
    rw [show ((lo : Int).tdiv (y : Int)) = ((lo / y : Nat) : Int) from rfl, u64_nat _ (Nat.lt_of_le_of_lt (Nat.div_le_self _ _) hlo)]
    rw [show 0 * 18446744073709551616 + lo = lo from by omega]
  · obtain ⟨s, hs, hb1, hb2, hz⟩ := lz64 y hy (by omega)
    obtain ⟨g1, g2, g3⟩ := shifted hi lo y s hs hhi hlo
    have g4 : hi * 2 ^ s < 18446744073709551616 := Nat.lt_of_le_of_lt (Nat.mul_le_mul_right _ (Nat.le_of_lt hhi)) hb2
    have c2 : ((2 : Int) ^ s) = ((2 ^ s : Nat) : Int) := by simp
    have c3 : ((2 : Int) ^ (64 - s)) = ((2 ^ (64 - s) : Nat) : Int) := by simp
    have k1 : IntKind.u64.wrap (s : Int) = s := u64_nat s (by omega)
    have k2 : IntKind.u64.wrap (64 - (s : Int)) = ((64 - s : Nat) : Int) := by rw [u64_int _ (by omega) (by omega)]; omega
    have m1 : min ((s : Int).toNat) (IntKind.u64.bits) = s := by rw [Int.toNat_natCast]; exact Nat.min_eq_left (by show s ≤ 64; omega)
    have m2 : min (((64 - s : Nat) : Int).toNat) (IntKind.u64.bits) = 64 - s := by rw [Int.toNat_natCast]; exact Nat.min_eq_left (by show 64 - s ≤ 64; omega)
    have s1 : shl .u64 (y : Int) (s : Int) = ((y * 2 ^ s : Nat) : Int) := by
      unfold shl; rw [m1, c2, ← Int.natCast_mul, u64_nat _ hb2]
    have s2 : shl .u64 (hi : Int) (s : Int) = ((hi * 2 ^ s : Nat) : Int) := by
      unfold shl; rw [m1, c2, ← Int.natCast_mul, u64_nat _ g4]
    have s3 : shl .u64 (lo : Int) (s : Int) = ((lo * 2 ^ s % 18446744073709551616 : Nat) : Int) := by
      unfold shl; rw [m1, c2, ← Int.natCast_mul, IntKind.wrap_u64]; omega
    have s4 : shr .u64 (lo : Int) ((64 - s : Nat) : Int) = ((lo / 2 ^ (64 - s) : Nat) : Int) := by
      unfold shr; rw [m2, c3]; rfl
    have s5 : bits .or .u64 ((hi * 2 ^ s : Nat) : Int) ((lo / 2 ^ (64 - s) : Nat) : Int) = ((hi * 2 ^ s + lo / 2 ^ (64 - s) : Nat) : Int) := join64 s hi _ hs g4 g3
    unfold bits_Div64.f
    rw [if_neg (by omega), if_neg (by omega), if_neg (by omega), hz]
    simp only [Option.bind_some]
    rw [k1, k2, s1, s2, s3, s4, s5]
    have eqU : (((hi * 2 ^ s + lo / 2 ^ (64 - s)) * 4294967296 + lo * 2 ^ s % 18446744073709551616 / 4294967296) * 4294967296 + lo * 2 ^ s % 18446744073709551616 % 4294967296) / (y * 2 ^ s) = (hi * 18446744073709551616 + lo) / y := by
      rw [← Nat.mul_div_mul_right (hi * 18446744073709551616 + lo) y (Nat.two_pow_pos s), ← g2, glue]
    generalize y * 2 ^ s = Y at *
    generalize hi * 2 ^ s + lo / 2 ^ (64 - s) = u at *
    have hL : lo * 2 ^ s % 18446744073709551616 < 18446744073709551616 := Nat.mod_lt _ (by omega)
    generalize lo * 2 ^ s % 18446744073709551616 = L at *
    have a1 : bits .and .u64 (Y : Int) 4294967295 = ((Y % 4294967296 : Nat) : Int) := and_low32 _ (by omega) (by omega)
    have a2 : bits .and .u64 (L : Int) 4294967295 = ((L % 4294967296 : Nat) : Int) := and_low32 _ (by omega) (by omega)
    have d1 : ((Y : Int) / 4294967296) = ((Y / 4294967296 : Nat) : Int) := rfl
    have d2 : ((L : Int) / 4294967296) = ((L / 4294967296 : Nat) : Int) := rfl
    rw [a1, a2, d1, d2, if_pos (by omega), if_pos (by omega), if_neg (by omega)]
    have hY : Y = Y / 4294967296 * 4294967296 + Y % 4294967296 := by omega
    have t1 : (u : Int).tdiv ((Y / 4294967296 : Nat) : Int) = ((u / (Y / 4294967296) : Nat) : Int) := rfl
    have hmod : u - u / (Y / 4294967296) * (Y / 4294967296) = u % (Y / 4294967296) := rest_eq rfl
    have hdm : u / (Y / 4294967296) * (Y / 4294967296) ≤ u := Nat.div_mul_le_self _ _
    have t := trial_start (B := 4294967296) (u := u) (yn1 := Y / 4294967296) (yn0 := Y % 4294967296) (d := L / 4294967296) (by omega) (by omega) (by omega) (by omega)
    have tl := t.le
    have t2 : IntKind.u64.wrap ((u / (Y / 4294967296) : Nat) : Int) = ((u / (Y / 4294967296) : Nat) : Int) := u64_nat _ (by omega)
    have t3 : IntKind.u64.wrap ((u : Int) - IntKind.u64.wrap (((u / (Y / 4294967296) : Nat) : Int) * ((Y / 4294967296 : Nat) : Int))) = ((u % (Y / 4294967296) : Nat) : Int) := by
      rw [← hmod, ← Int.natCast_mul]
      generalize u / (Y / 4294967296) * (Y / 4294967296) = z at *
      simp only [IntKind.wrap_u64]; omega
    rw [t1, t2, t3]
    have hr : u % (Y / 4294967296) < Y / 4294967296 := Nat.mod_lt _ (by omega)
    obtain ⟨rem, hrem⟩ := l0_tells (s : Int) (by omega) Y (Y / 4294967296) (Y % 4294967296) u (L / 4294967296) (L % 4294967296) hY (by omega) (by omega) (by omega) (by omega) (by omega) g1
      (u / (Y / 4294967296)) (u / (Y / 4294967296)) (u % (Y / 4294967296)) k (Nat.le_refl _) (by omega) t (by omega)
    exact ⟨rem, by rw [hrem, eqU]⟩
end Go.Proofs.YtmdilnelogechaaDoor.Sat
