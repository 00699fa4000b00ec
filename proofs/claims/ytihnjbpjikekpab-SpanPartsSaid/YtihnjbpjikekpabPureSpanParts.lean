/- For every input sandglasslaw02.SpanParts answers true; its arguments are left as they were. No condition. -/
import Derived.Test.YtihnjbpjikekpabPLaw2x1
import Derived.Test.YtihnjbpjikekpabSpanFacts
namespace Go.Proofs.Ytihnjbpjikekpab.Pure
open Go.RowKit Go.Proofs.Ytihnjbpjikekpab.PLaw2 Go.Proofs.YtihnjbpjikekpabW.PrintWords Go.Proofs.YtihnjbpjikekpabW.PrintLast Go.Proofs.Ytihnjbpjikekpab.Ext

theorem awake_SpanParts : sandglasslaw02_awake.f = some true := by decide +kernel
theorem div_parts (x y c : Int) (hc : 0 < c) : x / c + y / c ≤ (x + y) / c ∧ (x + y) / c ≤ x / c + y / c + 1 := by
  have h1 := Int.mul_ediv_add_emod x c
  have h2 := Int.mul_ediv_add_emod y c
  have m1 := Int.emod_nonneg x (show c ≠ 0 by omega)
  have m2 := Int.emod_nonneg y (show c ≠ 0 by omega)
  have n1 := Int.emod_lt_of_pos x hc
  have n2 := Int.emod_lt_of_pos y hc
  constructor
  · rw [Int.le_ediv_iff_mul_le hc, Int.add_mul, Int.mul_comm (x / c), Int.mul_comm (y / c)]
    omega
  · have : (x + y) / c < x / c + y / c + 1 + 1 := by
      rw [Int.ediv_lt_iff_lt_mul hc, Int.add_mul, Int.add_mul, Int.add_mul, Int.mul_comm (x / c), Int.mul_comm (y / c)]
      omega
    omega
theorem up_parts (x y c : Int) (hc : 0 < c) : (x + y + (c - 1)) / c ≤ (x + (c - 1)) / c + (y + (c - 1)) / c ∧ (x + (c - 1)) / c + (y + (c - 1)) / c ≤ (x + y + (c - 1)) / c + 1 := by
  constructor
  · refine up_least hc ?_
    rw [Int.add_mul]
    have := up_ge (v := x) hc
    have := up_ge (v := y) hc
    omega
  · have h1 := up_pred (v := x) hc
    have h2 := up_pred (v := y) hc
    have h3 := up_ge (v := x + y) hc
    rw [Int.sub_mul, Int.one_mul] at h1 h2
    have : ((x + (c - 1)) / c + (y + (c - 1)) / c) * c < ((x + y + (c - 1)) / c + 2) * c := by
      rw [Int.add_mul, Int.add_mul]; omega
    have := Int.lt_of_mul_lt_mul_right this (by omega)
    omega
theorem SpanParts : sandglasslaw02_SpanParts.Pure := by
  intro a0 b0 r0 ha0 hb0 hr0
  have ha0 := U_wf ha0
  have hb0 := U_wf hb0
  have hr0 := U_wf hr0
  refine ⟨1, ?_⟩
  unfold sandglasslaw02_SpanParts.f
  rw [Int.tmod_eq_emod_of_nonneg ha0.1, Int.tmod_eq_emod_of_nonneg hb0.1, Int.tmod_eq_emod_of_nonneg hr0.1]
  rw [wrap_U (show U (1 + r0 % 1099511627776) from ⟨by omega, by omega⟩), wrap_U (show U (a0 % 1099511627776 + b0 % 1099511627776) from ⟨by omega, by omega⟩)]
  obtain ⟨a, ea⟩ : ∃ a, a = a0 % 1099511627776 := ⟨_, rfl⟩
  obtain ⟨b, eb⟩ : ∃ b, b = b0 % 1099511627776 := ⟨_, rfl⟩
  obtain ⟨r, er⟩ : ∃ r, r = 1 + r0 % 1099511627776 := ⟨_, rfl⟩
  rw [← ea, ← eb, ← er]
  have ba : 0 ≤ a ∧ a < 1099511627776 := by omega
  have bb : 0 ≤ b ∧ b < 1099511627776 := by omega
  have br : 1 ≤ r ∧ r ≤ 1099511627776 := by omega
  clear ea eb er ha0 hb0 hr0
  have ua : U a := ⟨by omega, by omega⟩
  have ub : U b := ⟨by omega, by omega⟩
  have ur : U r := ⟨by omega, by omega⟩
  have uab : U (a + b) := ⟨by omega, by omega⟩
  have hr0 : r ≠ 0 := by omega
  have pa : 0 ≤ a * r ∧ a * r ≤ 1099511627776 * 1099511627776 := ⟨Int.mul_nonneg ba.1 (by omega), Int.mul_le_mul (by omega) br.2 (by omega) (by omega)⟩
  have pb : 0 ≤ b * r ∧ b * r ≤ 1099511627776 * 1099511627776 := ⟨Int.mul_nonneg bb.1 (by omega), Int.mul_le_mul (by omega) br.2 (by omega) (by omega)⟩
  have x1 : by_ a r = a * r / 1000000000 := by unfold by_; rw [if_neg hr0, sat_U ⟨by omega, by omega⟩]
  have x2 : by_ b r = b * r / 1000000000 := by unfold by_; rw [if_neg hr0, sat_U ⟨by omega, by omega⟩]
  have x3 : by_ (a + b) r = (a * r + b * r) / 1000000000 := by unfold by_; rw [if_neg hr0, Int.add_mul, sat_U ⟨by omega, by omega⟩]
  obtain ⟨d1, d2⟩ := div_parts (a * r) (b * r) 1000000000 (by decide)
  rw [span_Bytes_f ua ur, span_Bytes_f ub ur, span_Bytes_f uab ur]
  simp only [Option.bind_some]
  rw [x1, x2, x3, add_f ⟨by omega, by omega⟩ ⟨by omega, by omega⟩]
  simp only [Option.bind_some]
  rw [sat_U (x := a * r / 1000000000 + b * r / 1000000000) ⟨by omega, by omega⟩, if_neg (by omega), add_f ⟨by omega, by omega⟩ (by decide)]
  simp only [Option.bind_some]
  rw [sat_U (x := a * r / 1000000000 + b * r / 1000000000 + 1) ⟨by omega, by omega⟩, decide_eq_false (by omega)]
  simp only [sandglasslaw02_SpanParts.j0]
  rw [if_neg (by decide), wrap_U uab, span_Time_f ua ur, span_Time_f ub ur, span_Time_f uab ur, awake_SpanParts]
  simp only [Option.bind_some]
  have u1 := U_tm ua.1 ur
  have u2 := U_tm ub.1 ur
  have u3 := U_tm uab.1 ur
  rw [add_f u1 u2, add_f u3 (by decide)]
  simp only [Option.bind_some]
  obtain ⟨t1, t2⟩ := up_parts (a * 1000000000) (b * 1000000000) r (by omega)
  have n1 := up_nonneg (v := a * 1000000000) (c := r) (by omega) (by omega)
  have n2 := up_nonneg (v := b * 1000000000) (c := r) (by omega) (by omega)
  unfold tm at *
  simp only [if_neg hr0] at *
  rw [show (a + b) * 1000000000 = a * 1000000000 + b * 1000000000 by omega] at *
  generalize (a * 1000000000 + (r - 1)) / r = s at *
  generalize (b * 1000000000 + (r - 1)) / r = t at *
  generalize (a * 1000000000 + b * 1000000000 + (r - 1)) / r = z at *
  simp only [sat_min] at *
  rw [if_pos (by omega)]
  by_cases hN : min z 18446744073709551615 = 18446744073709551615
  · rw [if_pos hN]
  · rw [if_neg hN, if_pos (by omega)]
end Go.Proofs.Ytihnjbpjikekpab.Pure
