/- For every input sandglasslaw01.SatLeast answers true; its arguments are left as they were. No condition. -/
import Derived.Test.YtihnjbpjikekpaaPSatx4
import Derived.Test.YtihnjbpjikekpaaSatFacts
namespace Go.Proofs.Ytihnjbpjikekpaa.Pure
open Go.RowKit Go.Proofs.Ytihnjbpjikekpaa.PSat Go.Proofs.YtihnjbpjikekpaaW.PrintWords Go.Proofs.YtihnjbpjikekpaaW.PrintLast Go.Proofs.Ytihnjbpjikekpaa.Ext

theorem awake_true : sandglasslaw01_awake.f = some true := by decide +kernel
theorem SatLeast : sandglasslaw01_SatLeast.Pure := by
  intro n s r hn hs hr
  have hn := U_wf hn
  have hs := U_wf hs
  have hr := U_wf hr
  refine ⟨1, ?_⟩
  have h1 : sandglasslaw01_SatLeast.j0 1 n s r true = some true := by
    simp only [sandglasslaw01_SatLeast.j0, if_true, awake_true, Option.bind_some]
  unfold sandglasslaw01_SatLeast.f
  by_cases hs0 : s = 0
  · rw [if_pos hs0]; exact h1
  rw [if_neg hs0]
  by_cases hr0 : r = 0
  · rw [show (r == 0) = true by simp [hr0]]; exact h1
  rw [show (r == 0) = false by simp [hr0]]
  have hsp : 0 < s := by have := hs.1; omega
  have hrp : 0 < r := by have := hr.1; omega
  simp only [sandglasslaw01_SatLeast.j0]
  rw [if_neg (by decide), up_f hn hs hr hr0]
  simp only [Option.bind_some, awake_true]
  have hns : 0 ≤ n * s := Int.mul_nonneg hn.1 hs.1
  by_cases ht : sat ((n * s + (r - 1)) / r) = 18446744073709551615
  · rw [if_pos ht, if_pos ?_]
    rcases Int.lt_or_eq_of_le hn.1 with h | h
    · exact h
    · exfalso
      have := sat_is ht
      rw [← h, Int.zero_mul, Int.ediv_eq_zero_of_lt (by omega) (by omega)] at this
      omega
  · rw [if_neg ht]
    obtain ⟨e, hlt⟩ := sat_lt ht
    rw [e]
    have hge := up_ge (v := n * s) hrp
    have hpr := up_pred (v := n * s) hrp
    have hnn := up_nonneg hrp hns
    generalize (n * s + (r - 1)) / r = t at *
    rw [down_f ⟨hnn, by omega⟩ hr hs hs0]
    simp only [Option.bind_some]
    rw [if_pos (le_sat ((Int.le_ediv_iff_mul_le hsp).2 hge) hn.2)]
    by_cases ht0 : t = 0
    · rw [if_pos ht0]
    · rw [if_neg ht0]
      have hu : U (t - 1) := ⟨by omega, by omega⟩
      rw [wrap_U hu, down_f hu hr hs hs0]
      simp only [Option.bind_some]
      rw [if_pos (Int.lt_of_le_of_lt (sat_le _) ((Int.ediv_lt_iff_lt_mul hsp).2 hpr))]
end Go.Proofs.Ytihnjbpjikekpaa.Pure
