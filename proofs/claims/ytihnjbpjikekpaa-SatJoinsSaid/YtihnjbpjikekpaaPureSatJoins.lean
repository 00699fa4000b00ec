/- For every input sandglasslaw01.SatJoins answers true; its arguments are left as they were. No condition. -/
import Derived.Test.YtihnjbpjikekpaaPSatx3
import Derived.Test.YtihnjbpjikekpaaSatFacts
namespace Go.Proofs.Ytihnjbpjikekpaa.Pure
open Go.RowKit Go.Proofs.Ytihnjbpjikekpaa.PSat Go.Proofs.YtihnjbpjikekpaaW.PrintWords Go.Proofs.YtihnjbpjikekpaaW.PrintLast Go.Proofs.Ytihnjbpjikekpaa.Ext

theorem awake_true : sandglasslaw01_awake.f = some true := by decide +kernel
theorem le_mul_of_pos {a x : Int} (ha : 0 < a) (hx : 0 ≤ x) : x ≤ a * x := by
  have := Int.mul_le_mul_of_nonneg_right (show 1 ≤ a by omega) hx
  rwa [Int.one_mul] at this
/-- a times what is saturated is, saturated, what a times all is. -/
theorem sat_mul_sat {a x : Int} (ha : 0 < a) (hx : 0 ≤ x) : sat (a * sat x) = sat (a * x) := by
  by_cases h : x ≤ 18446744073709551615
  · rw [sat_U ⟨hx, h⟩]
  · rw [sat_big (x := x) (by omega), sat_big (x := a * x) (Int.le_trans (by omega) (le_mul_of_pos ha hx)), sat_big (le_mul_of_pos ha (by omega))]
theorem SatJoins : sandglasslaw01_SatJoins.Pure := by
  intro a b c ha hb hc
  have ha := U_wf ha
  have hb := U_wf hb
  have hc := U_wf hc
  have ab : 0 ≤ a * b := Int.mul_nonneg ha.1 hb.1
  have ac : 0 ≤ a * c := Int.mul_nonneg ha.1 hc.1
  have bc : 0 ≤ b * c := Int.mul_nonneg hb.1 hc.1
  have uab : U (sat (a + b)) := U_sat (by have := ha.1; have := hb.1; omega)
  have ubc : U (sat (b + c)) := U_sat (by have := hc.1; have := hb.1; omega)
  refine ⟨2, ?_⟩
  have h1 : sandglasslaw01_SatJoins.j1 1 a b false = some true := by
    simp only [sandglasslaw01_SatJoins.j1]
    rw [if_neg (by decide), add_f ha hb]
    simp only [Option.bind_some]
    have hsub : U (if a < b then 0 else a - b) := by split <;> exact ⟨by have := ha.1; omega, by have := ha.2; have := hb.1; omega⟩
    have last : ((sat_Sub.f a b).bind fun t => (sat_Add.f t b).bind fun u => if u = mx a b then (sandglasslaw01_awake.f).bind fun z => some z else some false) = some true := by
      rw [sub_f ha hb]
      simp only [Option.bind_some]
      rw [add_f hsub hb, awake_true]
      simp only [Option.bind_some]
      rw [if_pos]
      unfold mx sat
      have := ha.2
      have := hb.2
      split <;> split <;> omega
    by_cases e : sat (a + b) = 18446744073709551615
    · rw [if_pos e]; exact last
    · rw [if_neg e, (sat_lt e).1, sub_f ⟨by have := ha.1; have := hb.1; omega, by have := (sat_lt e).2; omega⟩ hb]
      simp only [Option.bind_some]
      rw [if_pos (by have := ha.1; split <;> omega)]
      exact last
  unfold sandglasslaw01_SatJoins.f
  rw [add_f ha hb, add_f hb ha]
  simp only [Option.bind_some]
  rw [if_pos (by rw [Int.add_comm]), mul_f ha hb, mul_f hb ha]
  simp only [Option.bind_some]
  rw [if_pos (by rw [Int.mul_comm]), add_f uab hc]
  simp only [Option.bind_some]
  rw [add_f hb hc]
  simp only [Option.bind_some]
  rw [add_f ha ubc]
  simp only [Option.bind_some]
  have e1 : sat (sat (a + b) + c) = sat (a + sat (b + c)) := by
    have := ha.1
    have := hc.1
    simp only [sat_min]; omega
  rw [show (sat (sat (a + b) + c) != sat (a + sat (b + c))) = false by rw [e1]; simp]
  simp only [sandglasslaw01_SatJoins.j0]
  rw [if_neg (by decide), add_f hb hc]
  simp only [Option.bind_some]
  rw [mul_f ha ubc]
  simp only [Option.bind_some]
  rw [mul_f ha hb, mul_f ha hc]
  simp only [Option.bind_some]
  rw [add_f (U_sat ab) (U_sat ac)]
  simp only [Option.bind_some]
  have e2 : sat (a * sat (b + c)) = sat (sat (a * b) + sat (a * c)) := by
    rcases Int.lt_or_eq_of_le ha.1 with h | h
    · rw [sat_mul_sat h (by have := hb.1; have := hc.1; omega), Int.mul_add]
      simp only [sat_min]; omega
    · rw [← h]; simp only [Int.zero_mul]; decide
  rw [if_pos e2]
  by_cases hap : a > 0
  · rw [if_pos hap]
    by_cases hcp : c > 0
    · rw [if_pos hcp]
      rw [mul_f (U_sat ab) hc]
      simp only [Option.bind_some]
      rw [mul_f hb hc]
      simp only [Option.bind_some]
      rw [mul_f ha (U_sat bc)]
      simp only [Option.bind_some]
      have e3 : sat (sat (a * b) * c) = sat (a * sat (b * c)) := by
        rw [sat_mul_sat hap bc, Int.mul_comm (sat (a * b)), sat_mul_sat hcp ab, Int.mul_comm c, Int.mul_assoc]
      rw [show (sat (sat (a * b) * c) != sat (a * sat (b * c))) = false by rw [e3]; simp]
      exact h1
    · rw [if_neg hcp]; exact h1
  · rw [if_neg hap]; exact h1
end Go.Proofs.Ytihnjbpjikekpaa.Pure
