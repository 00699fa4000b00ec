/- The contracts of the references of layer 1: what they answer, for numbers of 64 bits, is what layer 1 answers. -/
import Derived.Test.YtnmkbnifgmeloaaHalves
import Derived.Test.YtnmkbnifgmeloaaSatFacts
import Derived.Test.YtnmkbnifgmeloaaPRefx1
namespace Go.Proofs.Ytnmkbnifgmeloaa.Ext
open Go.RowKit Go.Proofs.YtnmkbnifgmeloaaW.PrintWords Go.Proofs.YtnmkbnifgmeloaaW.PrintMore Go.Proofs.Ytnmkbnifgmeloaa.Sat

theorem ref_long (a b : Nat) (ha : a < 18446744073709551616) (hb : b < 18446744073709551616) :
    PRef.sandglassref01_Long.f a b = some (((a * b / 18446744073709551616 : Nat) : Int), ((a * b % 18446744073709551616 : Nat) : Int)) := by
  obtain ⟨h1, h2, m1, m2, m3, m4⟩ := long_words a b (a / 4294967296) (a % 4294967296) (b / 4294967296) (b % 4294967296) (by omega) (by omega) (by omega) (by omega) (by omega) (by omega)
  have t1 : (a : Int).tdiv 4294967296 = ((a / 4294967296 : Nat) : Int) := rfl
  have t2 : (b : Int).tdiv 4294967296 = ((b / 4294967296 : Nat) : Int) := rfl
  have t3 : (a : Int).tmod 4294967296 = ((a % 4294967296 : Nat) : Int) := rfl
  have t4 : (b : Int).tmod 4294967296 = ((b % 4294967296 : Nat) : Int) := rfl
  have td : ∀ n : Nat, (n : Int).tdiv 4294967296 = ((n / 4294967296 : Nat) : Int) := fun _ => rfl
  have tm : ∀ n : Nat, (n : Int).tmod 4294967296 = ((n % 4294967296 : Nat) : Int) := fun _ => rfl
  unfold PRef.sandglassref01_Long.f
  rw [t1, t2, t3, t4]
  have w1 : IntKind.u64.wrap ((a / 4294967296 : Nat) : Int) = ((a / 4294967296 : Nat) : Int) := u64_nat _ (by omega)
  have w2 : IntKind.u64.wrap ((b / 4294967296 : Nat) : Int) = ((b / 4294967296 : Nat) : Int) := u64_nat _ (by omega)
  rw [w1, w2]
  simp only [← Int.natCast_mul]
  generalize a / 4294967296 * (b / 4294967296) = A at *
  generalize a / 4294967296 * (b % 4294967296) = B at *
  generalize a % 4294967296 * (b % 4294967296) = C at *
  generalize a % 4294967296 * (b / 4294967296) = D at *
  rw [u64_nat A (by omega), u64_nat B (by omega), u64_nat C (by omega), u64_nat D (by omega), td C, tm C, u64_nat (C / 4294967296) (by omega), ← Int.natCast_add, u64_nat (B + C / 4294967296) (by omega), td, tm,
    u64_nat ((B + C / 4294967296) / 4294967296) (by omega), ← Int.natCast_add, u64_nat (A + (B + C / 4294967296) / 4294967296) (by omega), ← Int.natCast_add, u64_nat (D + (B + C / 4294967296) % 4294967296) (by omega), td, tm,
    u64_nat ((D + (B + C / 4294967296) % 4294967296) / 4294967296) (by omega), ← Int.natCast_add, u64_nat (A + (B + C / 4294967296) / 4294967296 + (D + (B + C / 4294967296) % 4294967296) / 4294967296) (by rw [h1]; exact Nat.lt_of_lt_of_le (high_lt ha hb) (by decide)), h1]
  rw [show (((D + (B + C / 4294967296) % 4294967296) % 4294967296 : Nat) : Int) * 4294967296 = (((D + (B + C / 4294967296) % 4294967296) % 4294967296 * 4294967296 : Nat) : Int) from by omega, u64_nat _ (by omega), ← Int.natCast_add, h2, u64_nat _ (Nat.mod_lt _ (by omega))]

/-- The bits' loop: of the number V's first bits, all but n, the quotient (its last 64 bits), the rest, and whether it has more. -/
theorem halves_tells (hi lo c : Nat) (hlo : lo < 18446744073709551616) (hc : 0 < c) (hc' : c < 18446744073709551616) : ∀ (n k : Nat), n ≤ 128 → 3 * n + 1 ≤ k →
    PRef.sandglassref01_halves.l0 k hi lo c (((hi * 18446744073709551616 + lo) / 2 ^ n / c % 18446744073709551616 : Nat) : Int) (((hi * 18446744073709551616 + lo) / 2 ^ n % c : Nat) : Int)
      (decide (c ≤ (hi * 18446744073709551616 + lo) / 2 ^ (max n 64))) ((n : Int) - 1) =
    some ((((hi * 18446744073709551616 + lo) / c % 18446744073709551616 : Nat) : Int), (((hi * 18446744073709551616 + lo) % c : Nat) : Int), decide (c ≤ hi)) := by
  have e64 : (hi * 18446744073709551616 + lo) / 2 ^ 64 = hi := by omega
  have bh := fun i h => bit_high hi lo i h hlo
  have bl := fun i h => bit_low hi lo i h
  generalize hi * 18446744073709551616 + lo = V at *
  intro n
  induction n with
  | zero =>
    intro k _ hk
    obtain ⟨k, rfl⟩ : ∃ j, k = j + 1 := ⟨k - 1, by omega⟩
    simp only [PRef.sandglassref01_halves.l0]
    rw [if_neg (by omega), show max 0 64 = 64 from rfl, e64, Nat.pow_zero, Nat.div_one]
  | succ n ih =>
    intro k hn hk
    obtain ⟨k, rfl⟩ : ∃ j, k = j + 3 := ⟨k - 3, by omega⟩
    have hN := next_prefix V n
    have hb2 : V / 2 ^ n % 2 < 2 := Nat.mod_lt _ (by decide)
    have i1 : (((n + 1 : Nat) : Int) - 1) = (n : Int) := by omega
    rw [i1]
    have tm : (n : Int).tmod 64 = ((n % 64 : Nat) : Int) := rfl
    have sh : ∀ x : Nat, shr .u64 (x : Int) ((n % 64 : Nat) : Int) = ((x / 2 ^ (n % 64) : Nat) : Int) := by
      intro x
      unfold shr
      rw [Int.toNat_natCast, Nat.min_eq_left (by show n % 64 ≤ 64; omega), show ((2 : Int) ^ (n % 64)) = ((2 ^ (n % 64) : Nat) : Int) by simp]
      rfl
    have tm2 : ∀ x : Nat, (x : Int).tmod 2 = ((x % 2 : Nat) : Int) := fun _ => rfl
    have first : PRef.sandglassref01_halves.l0 (k + 3) hi lo c ((V / 2 ^ (n + 1) / c % 18446744073709551616 : Nat) : Int) ((V / 2 ^ (n + 1) % c : Nat) : Int) (decide (c ≤ V / 2 ^ (max (n + 1) 64))) (n : Int) =
        PRef.sandglassref01_halves.j1 (k + 2) hi lo c ((V / 2 ^ (n + 1) / c % 18446744073709551616 : Nat) : Int) ((V / 2 ^ (n + 1) % c : Nat) : Int) (decide (c ≤ V / 2 ^ (max (n + 1) 64))) (n : Int) ((V / 2 ^ n % 2 : Nat) : Int) (decide ((n : Int) > 63)) := by
      rw [PRef.sandglassref01_halves.l0]
      rw [if_pos (by omega), tm, if_pos (by omega), sh, sh, tm2, tm2]
      by_cases h63 : (n : Int) > 63
      · rw [if_pos h63, bh n (by omega), show n % 64 = n - 64 by omega]
      · rw [if_neg h63, bl n (by omega), show n % 64 = n by omega]
    rw [first, PRef.sandglassref01_halves.j1]
    have hmax : ∀ (P : Prop) [Decidable P], True := fun _ => trivial
    generalize hM : V / 2 ^ (n + 1) = M at *
    generalize hbit : V / 2 ^ n % 2 = b at *
    have hr := Nat.mod_lt M hc
    have q2 : IntKind.u64.wrap (2 * ((M / c % 18446744073709551616 : Nat) : Int)) = ((2 * (M / c) % 18446744073709551616 : Nat) : Int) := by simp only [IntKind.wrap_u64]; omega
    have r2 : IntKind.u64.wrap (IntKind.u64.wrap (2 * ((M % c : Nat) : Int)) + (b : Int)) = (((2 * (M % c) + b) % 18446744073709551616 : Nat) : Int) := by simp only [IntKind.wrap_u64]; omega
    rw [q2, r2]
    have ihk := ih k (by omega) (by omega)
    rw [hN] at ihk
    have w1 : wrap64 ((n : Int) - 1) = (n : Int) - 1 := by unfold wrap64; omega
    by_cases hge : c ≤ 2 * (M % c) + b
    · obtain ⟨s1, s2⟩ := div_step_one hc hb2 hge
      rw [s1, s2] at ihk
      have take : ∀ x14 x32, PRef.sandglassref01_halves.j2 (k + 1) hi lo c ((2 * (M / c) % 18446744073709551616 : Nat) : Int) (((2 * (M % c) + b) % 18446744073709551616 : Nat) : Int) (decide (c ≤ V / 2 ^ (max (n + 1) 64))) (n : Int) x14 x32 true =
          some (((V / c % 18446744073709551616 : Nat) : Int), ((V % c : Nat) : Int), decide (c ≤ hi)) := by
        intro x14 x32
        rw [PRef.sandglassref01_halves.j2, if_pos rfl, w1]
        have q3 : IntKind.u64.wrap (((2 * (M / c) % 18446744073709551616 : Nat) : Int) + 1) = (((2 * (M / c) + 1) % 18446744073709551616 : Nat) : Int) := by simp only [IntKind.wrap_u64]; omega
        have r3 : IntKind.u64.wrap ((((2 * (M % c) + b) % 18446744073709551616 : Nat) : Int) - (c : Int)) = ((2 * (M % c) + b - c : Nat) : Int) := by simp only [IntKind.wrap_u64]; omega
        rw [q3, r3]
        by_cases h63 : (n : Int) > 63
        · rw [if_pos h63, ← ihk, show max n 64 = n by omega, hN]
          rw [decide_eq_true]
          have hpos : 0 < (2 * M + b) / c := by omega
          exact (Nat.div_pos_iff.1 hpos).2
        · rw [if_neg h63, ← ihk, show max (n + 1) 64 = 64 by omega, show max n 64 = 64 by omega]
      by_cases htw : (((M % c : Nat) : Int)) ≥ 9223372036854775808
      · rw [if_pos htw]; exact take _ _
      · rw [if_neg htw, show (decide ((((2 * (M % c) + b) % 18446744073709551616 : Nat) : Int) ≥ (c : Int))) = true from decide_eq_true (by omega)]
        exact take _ _
    · obtain ⟨s1, s2⟩ := div_step_zero hc (show 2 * (M % c) + b < c by omega)
      rw [s1, s2] at ihk
      rw [if_neg (by omega), show (decide ((((2 * (M % c) + b) % 18446744073709551616 : Nat) : Int) ≥ (c : Int))) = false from decide_eq_false (by omega)]
      rw [PRef.sandglassref01_halves.j2, if_neg (by decide), w1, ← ihk, show (2 * (M % c) + b) % 18446744073709551616 = 2 * (M % c) + b from Nat.mod_eq_of_lt (by omega)]
      have over : (decide (c ≤ V / 2 ^ (max (n + 1) 64))) = (decide (c ≤ V / 2 ^ (max n 64))) := by
        by_cases h63 : 64 ≤ n
        · rw [show max (n + 1) 64 = n + 1 by omega, show max n 64 = n by omega, hM, hN]
          have : c ≤ M ↔ c ≤ 2 * M + b := by
            constructor
            · intro h; omega
            · intro h
              have p1 : 0 < (2 * M + b) / c := Nat.div_pos h hc
              have p2 : 0 < M / c := by omega
              exact (Nat.div_pos_iff.1 p2).2
          simp only [this]
        · rw [show max (n + 1) 64 = 64 by omega, show max n 64 = 64 by omega]
      rw [over]

theorem halves_all (v c : Nat) (hc : 0 < c) (hc' : c < 18446744073709551616) (h : v < 18446744073709551616 * 18446744073709551616) (k : Nat) (hk : 400 ≤ k) :
    PRef.sandglassref01_halves.f k ((v / 18446744073709551616 : Nat) : Int) ((v % 18446744073709551616 : Nat) : Int) c =
    some (((v / c % 18446744073709551616 : Nat) : Int), ((v % c : Nat) : Int), decide (c ≤ v / 18446744073709551616)) := by
  have e : v / 18446744073709551616 * 18446744073709551616 + v % 18446744073709551616 = v := by omega
  have t := halves_tells (v / 18446744073709551616) (v % 18446744073709551616) c (Nat.mod_lt _ (by decide)) hc hc' 128 k (by omega) (by omega)
  rw [e] at t
  have z : v / 2 ^ 128 = 0 := Nat.div_eq_of_lt (Nat.lt_of_lt_of_le h (by decide))
  rw [show max 128 64 = 128 from rfl, z, Nat.zero_div, Nat.zero_mod, Nat.zero_mod, show decide (c ≤ 0) = false from decide_eq_false (by omega)] at t
  exact t

theorem prod_lt {a b : Nat} (ha : a < 18446744073709551616) (hb : b < 18446744073709551616) : a * b < 18446744073709551616 * 18446744073709551616 :=
  Nat.lt_of_le_of_lt (Nat.mul_le_mul (show a ≤ 18446744073709551615 by omega) (show b ≤ 18446744073709551615 by omega)) (by decide)
def sandglassref01_Down.f (a0 : Int) (a1 : Int) (a2 : Int) : Option (Int) := sat_Down.f a0 a1 a2
theorem sandglassref01_Down.calls (a0 : Int) (a1 : Int) (a2 : Int) (r : Int) (w : World) (h : sandglassref01_Down.f a0 a1 a2 = some r) :
    Calls Try.prog 32 #[.int .u64 a0, .int .u64 a1, .int .u64 a2] w fun e w' => e = .returned (.int .u64 r) ∧ Drawn0 w w' := by
  unfold sandglassref01_Down.f sat_Down.f at h
  by_cases hu : U a0 ∧ U a1 ∧ U a2
  · rw [if_pos hu] at h
    obtain ⟨a, rfl, ha⟩ := nats hu.1
    obtain ⟨b, rfl, hb⟩ := nats hu.2.1
    obtain ⟨c, rfl, hc⟩ := nats hu.2.2
    refine PRef.sandglassref01_Down.calls 400 a b c r w ?_
    unfold PRef.sandglassref01_Down.f
    by_cases hz : c = 0
    · subst hz; rw [if_pos (by omega)] at h; rw [if_pos (by omega)]; exact h
    · rw [if_neg (by omega), ref_long a b ha hb]
      rw [if_neg (by omega), ← Int.natCast_mul, sat_words _ _ (by omega)] at h
      simp only [Option.bind_some]
      rw [halves_all (a * b) c (by omega) hc (prod_lt ha hb) 400 (Nat.le_refl _)]
      simp only [Option.bind_some]
      by_cases hg : c ≤ a * b / 18446744073709551616
      · rw [if_pos hg] at h; rw [if_pos (decide_eq_true hg)]; exact h
      · rw [if_neg hg] at h; rw [if_neg (by simp only [decide_eq_true_eq]; exact hg), ← h]
        have hq : c ≤ a * b / 18446744073709551616 ↔ 18446744073709551616 ≤ a * b / c := by
          rw [Nat.le_div_iff_mul_le (by decide), Nat.le_div_iff_mul_le (by omega), Nat.mul_comm]
        have hlt := mt hq.2 hg
        generalize a * b / c = q at *
        rw [Nat.mod_eq_of_lt (by omega)]
  · rw [if_neg hu] at h; cases h
theorem up_split {v c : Nat} (hc : 0 < c) : (v + (c - 1)) / c = if v % c = 0 then v / c else v / c + 1 := by
  have e := Nat.div_add_mod v c
  have hm := Nat.mod_lt v hc
  generalize v / c = q at *
  generalize v % c = r at *
  split
  · rw [show v + (c - 1) = c * q + (c - 1) by omega, Nat.mul_add_div hc, Nat.div_eq_of_lt (by omega), Nat.add_zero]
  · have : c * (q + 1) = c * q + c := by rw [Nat.mul_add, Nat.mul_one]
    rw [show v + (c - 1) = c * (q + 1) + (r - 1) by omega, Nat.mul_add_div hc, Nat.div_eq_of_lt (by omega), Nat.add_zero]
end Go.Proofs.Ytnmkbnifgmeloaa.Ext
