/- For every input sandglasslaw01.SatExact answers true; its arguments are left as they were. No condition. -/
import Derived.Test.YtihnjbpjikekpaaPExax1
import Derived.Test.YtihnjbpjikekpaaSatFacts
import Derived.Test.YtihnjbpjikekpaaLong
namespace Go.Proofs.Ytihnjbpjikekpaa.Pure
open Go.RowKit Go.Proofs.Ytihnjbpjikekpaa.PExa Go.Proofs.YtihnjbpjikekpaaW.PrintWords Go.Proofs.YtihnjbpjikekpaaW.PrintLast Go.Proofs.Ytihnjbpjikekpaa.Ext Go.Proofs.Ytihnjbpjikekpaa.Sat

theorem exact_awake : sandglasslaw01_awake.f = some true := by decide +kernel
theorem law_long (a b : Nat) (ha : a < 18446744073709551616) (hb : b < 18446744073709551616) :
    sandglasslaw01_long.f a b = some (((a * b / 18446744073709551616 : Nat) : Int), ((a * b % 18446744073709551616 : Nat) : Int)) := by
  obtain ⟨h1, h2, m1, m2, m3, m4⟩ := long_words a b (a / 4294967296) (a % 4294967296) (b / 4294967296) (b % 4294967296) (by omega) (by omega) (by omega) (by omega) (by omega) (by omega)
  have td : ∀ n : Nat, (n : Int).tdiv 4294967296 = ((n / 4294967296 : Nat) : Int) := fun _ => rfl
  have tm : ∀ n : Nat, (n : Int).tmod 4294967296 = ((n % 4294967296 : Nat) : Int) := fun _ => rfl
  have hh := high_lt ha hb
  have hl : a * b % 18446744073709551616 < 18446744073709551616 := Nat.mod_lt _ (by decide)
  unfold sandglasslaw01_long.f
  simp only [td, tm]
  have w1 : IntKind.u64.wrap ((a / 4294967296 : Nat) : Int) = ((a / 4294967296 : Nat) : Int) := u64_nat _ (by omega)
  have w2 : IntKind.u64.wrap ((b / 4294967296 : Nat) : Int) = ((b / 4294967296 : Nat) : Int) := u64_nat _ (by omega)
  rw [w1, w2]
  simp only [← Int.natCast_mul]
  rw [← h1, ← h2] at *
  generalize a / 4294967296 * (b / 4294967296) = A at *
  generalize a / 4294967296 * (b % 4294967296) = B at *
  generalize a % 4294967296 * (b % 4294967296) = C at *
  generalize a % 4294967296 * (b / 4294967296) = D at *
  clear h1 h2
  rw [u64_nat A (by omega), u64_nat B (by omega), u64_nat C (by omega), u64_nat D (by omega), td C, tm C, u64_nat (C / 4294967296) (by omega), ← Int.natCast_add, u64_nat (B + C / 4294967296) (by omega), td, tm,
    u64_nat ((B + C / 4294967296) / 4294967296) (by omega), ← Int.natCast_add, u64_nat (A + (B + C / 4294967296) / 4294967296) (by omega), ← Int.natCast_add, u64_nat (D + (B + C / 4294967296) % 4294967296) (by omega), td,
    u64_nat ((D + (B + C / 4294967296) % 4294967296) / 4294967296) (by omega), ← Int.natCast_add, u64_nat (A + (B + C / 4294967296) / 4294967296 + (D + (B + C / 4294967296) % 4294967296) / 4294967296) (by omega)]
  congr 2
  simp only [IntKind.wrap_u64]
  omega

theorem SatExact : sandglasslaw01_SatExact.Pure := by
  intro a0 b0 c0 ha hb hc
  have ha := U_wf ha
  have hb := U_wf hb
  have hc := U_wf hc
  obtain ⟨a, rfl, la⟩ := nats ha
  obtain ⟨b, rfl, lb⟩ := nats hb
  obtain ⟨c, rfl, lc⟩ := nats hc
  refine ⟨2, ?_⟩
  unfold sandglasslaw01_SatExact.f
  by_cases h0 : c = 0
  · subst h0
    rw [show (((0 : Nat) : Int)) = 0 from rfl, down_zero_f ha hb, up_zero_f ha hb]
    simp only [Option.bind_some, if_true, exact_awake]
  · have hcp : 0 < c := by omega
    rw [down_f ha hb hc (by omega), up_f ha hb hc (by omega)]
    simp only [Option.bind_some]
    rw [if_neg (by omega), law_long a b la lb]
    simp only [Option.bind_some]
    rw [← Int.natCast_mul]
    have hvv : a * b < 18446744073709551616 * 18446744073709551616 := Nat.lt_of_le_of_lt (Nat.mul_le_mul (show a ≤ 18446744073709551615 by omega) (show b ≤ 18446744073709551615 by omega)) (by decide)
    have hv := Nat.div_add_mod (a * b) c
    have hm := Nat.mod_lt (a * b) hcp
    have hup := up_split' (v := a * b) (c := c) hcp
    generalize a * b = v at *
    rw [hup, show ((v : Int) / (c : Int)) = ((v / c : Nat) : Int) from rfl]
    generalize v / c = q at *
    generalize v % c = r at *
    by_cases hq : q < 18446744073709551615
    · have eq : sat (q : Int) = q := sat_U ⟨by omega, by omega⟩
      rw [eq, law_long q c (by omega) lc]
      simp only [Option.bind_some]
      have e1 : c * q = q * c := Nat.mul_comm _ _
      generalize q * c = p at *
      have hup2 : sat (if r = 0 then (q : Int) else (q : Int) + 1) = if r = 0 then (q : Int) else (q : Int) + 1 := by
        split
        · exact eq
        · exact sat_U ⟨by omega, by omega⟩
      rw [hup2]
      have h1 : sandglasslaw01_SatExact.j1 1 q (if r = 0 then (q : Int) else (q : Int) + 1) (r : Int) false = some true := by
        simp only [sandglasslaw01_SatExact.j1]
        rw [if_neg (by decide), exact_awake]
        simp only [Option.bind_some]
        by_cases hr : r = 0
        · rw [if_pos (by omega), if_pos hr, if_pos rfl]
        · rw [if_neg (by omega), if_neg hr, u64_int _ (by omega) (by omega), if_pos rfl]
      have h2 : sandglasslaw01_SatExact.j0 2 c q (if r = 0 then (q : Int) else (q : Int) + 1) ((v / 18446744073709551616 : Nat) : Int) ((v % 18446744073709551616 : Nat) : Int) ((p / 18446744073709551616 : Nat) : Int) ((p % 18446744073709551616 : Nat) : Int) false = some true := by
        simp only [sandglasslaw01_SatExact.j0]
        rw [if_neg (by decide), if_neg (by omega)]
        have er : IntKind.u64.wrap (((v % 18446744073709551616 : Nat) : Int) - ((p % 18446744073709551616 : Nat) : Int)) = (r : Int) := by simp only [IntKind.wrap_u64]; omega
        rw [er]
        unfold sandglasslaw01_more.f
        have e3 : IntKind.u64.wrap (((p % 18446744073709551616 : Nat) : Int) + (r : Int)) = ((v % 18446744073709551616 : Nat) : Int) := by simp only [IntKind.wrap_u64]; omega
        rw [e3]
        by_cases hcarry : ((v % 18446744073709551616 : Nat) : Int) < ((p % 18446744073709551616 : Nat) : Int)
        · rw [if_pos hcarry]
          simp only [Option.bind_some]
          rw [if_pos (by simp only [IntKind.wrap_u64]; omega)]
          simp only [if_true]
          rw [decide_eq_false (by omega)]
          exact h1
        · rw [if_neg hcarry]
          simp only [Option.bind_some]
          rw [if_pos (by omega)]
          simp only [if_true]
          rw [decide_eq_false (by omega)]
          exact h1
      rw [if_neg (by omega)]
      by_cases heq : ((p / 18446744073709551616 : Nat) : Int) = ((v / 18446744073709551616 : Nat) : Int)
      · rw [if_pos heq, decide_eq_false (by omega)]; exact h2
      · rw [if_neg heq]; exact h2
    · have eq : sat (q : Int) = ((18446744073709551615 : Nat) : Int) := sat_big (by omega)
      have eu : sat (if r = 0 then (q : Int) else (q : Int) + 1) = 18446744073709551615 := sat_big (by split <;> omega)
      rw [eq, eu, law_long 18446744073709551615 c (by decide) lc]
      simp only [Option.bind_some]
      have hle : 18446744073709551615 * c ≤ v := by
        have : 18446744073709551615 * c ≤ q * c := Nat.mul_le_mul_right c (by omega)
        rw [Nat.mul_comm q] at this
        omega
      generalize 18446744073709551615 * c = p at *
      have h2 : sandglasslaw01_SatExact.j0 2 c ((18446744073709551615 : Nat) : Int) 18446744073709551615 ((v / 18446744073709551616 : Nat) : Int) ((v % 18446744073709551616 : Nat) : Int) ((p / 18446744073709551616 : Nat) : Int) ((p % 18446744073709551616 : Nat) : Int) false = some true := by
        simp only [sandglasslaw01_SatExact.j0]
        simp only [if_true]
        rw [if_neg (by decide), if_pos (by decide), exact_awake]
        rfl
      rw [if_neg (by omega)]
      by_cases heq : ((p / 18446744073709551616 : Nat) : Int) = ((v / 18446744073709551616 : Nat) : Int)
      · rw [if_pos heq, decide_eq_false (by omega)]; exact h2
      · rw [if_neg heq]; exact h2
end Go.Proofs.Ytihnjbpjikekpaa.Pure
