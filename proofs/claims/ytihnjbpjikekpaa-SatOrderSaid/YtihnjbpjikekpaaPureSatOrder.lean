/- For every input sandglasslaw01.SatOrder answers true; its arguments are left as they were. No condition. -/
import Derived.Test.YtihnjbpjikekpaaPSatx3
import Derived.Test.YtihnjbpjikekpaaSatFacts
namespace Go.Proofs.Ytihnjbpjikekpaa.Pure
open Go.RowKit Go.Proofs.Ytihnjbpjikekpaa.PSat Go.Proofs.YtihnjbpjikekpaaW.PrintWords Go.Proofs.YtihnjbpjikekpaaW.PrintLast Go.Proofs.Ytihnjbpjikekpaa.Ext

theorem order_awake : sandglasslaw01_awake.f = some true := by decide +kernel
theorem div_anti {v c f : Int} (hv : 0 ≤ v) (hc : 0 < c) (h : c ≤ f) : v / f ≤ v / c := by
  rw [Int.le_ediv_iff_mul_le hc]
  exact Int.le_trans (Int.mul_le_mul_of_nonneg_left h (Int.ediv_nonneg hv (by omega))) (Int.ediv_mul_le v (by omega))
theorem SatOrder : sandglasslaw01_SatOrder.Pure := by
  intro a b c x y z ha hb hc hx hy hz
  have ha := U_wf ha
  have hb := U_wf hb
  have hc := U_wf hc
  have hx := U_wf hx
  have hy := U_wf hy
  have hz := U_wf hz
  obtain ⟨d, hd⟩ : ∃ d, d = sat (a + x) := ⟨_, rfl⟩
  obtain ⟨e, he⟩ : ∃ e, e = sat (b + y) := ⟨_, rfl⟩
  obtain ⟨f, hf⟩ : ∃ f, f = sat (c + z) := ⟨_, rfl⟩
  have ud : U d := by rw [hd]; exact U_sat (by have := ha.1; have := hx.1; omega)
  have ue : U e := by rw [he]; exact U_sat (by have := hb.1; have := hy.1; omega)
  have uf : U f := by rw [hf]; exact U_sat (by have := hc.1; have := hz.1; omega)
  have ad : a ≤ d := by rw [hd]; exact le_sat (by have := hx.1; omega) ha.2
  have be : b ≤ e := by rw [he]; exact le_sat (by have := hy.1; omega) hb.2
  have cf : c ≤ f := by rw [hf]; exact le_sat (by have := hz.1; omega) hc.2
  have pab : 0 ≤ a * b := Int.mul_nonneg ha.1 hb.1
  have pde : a * b ≤ d * e := Int.mul_le_mul ad be hb.1 ud.1
  refine ⟨2, ?_⟩
  have h1 : sandglasslaw01_SatOrder.j1 1 a b c f false = some true := by
    simp only [sandglasslaw01_SatOrder.j1]
    rw [if_neg (by decide), order_awake]
    simp only [Option.bind_some]
    by_cases c0 : c = 0
    · rw [if_pos c0]
    · have hcp : 0 < c := by have := hc.1; omega
      have hfp : 0 < f := by omega
      rw [if_neg c0, down_f ha hb uf (by omega), down_f ha hb hc c0]
      simp only [Option.bind_some]
      rw [if_pos (sat_mono (div_anti pab hcp cf)), up_f ha hb uf (by omega), up_f ha hb hc c0]
      simp only [Option.bind_some]
      rw [if_pos]
      refine sat_mono (up_least hfp ?_)
      exact Int.le_trans (up_ge hcp) (Int.mul_le_mul_of_nonneg_left cf (up_nonneg hcp pab))
  unfold sandglasslaw01_SatOrder.f
  rw [add_f ha hx, add_f hb hy, add_f hc hz]
  simp only [Option.bind_some]
  rw [← hd, ← he, ← hf, if_neg (by omega), add_f ud ue, add_f ha hb]
  simp only [Option.bind_some]
  rw [if_neg (Int.not_lt.2 (sat_mono (by omega))), mul_f ud ue, mul_f ha hb]
  simp only [Option.bind_some]
  rw [if_neg (Int.not_lt.2 (sat_mono pde)), sub_f ud hb, sub_f ha hb]
  simp only [Option.bind_some]
  rw [if_neg (by split <;> split <;> omega), sub_f ha ue]
  simp only [Option.bind_some]
  rw [decide_eq_false (by split <;> split <;> omega)]
  simp only [sandglasslaw01_SatOrder.j0]
  rw [if_neg (by decide)]
  by_cases c0 : c = 0
  · subst c0
    rw [down_zero_f ud ue, down_zero_f ha hb]
    simp only [Option.bind_some]
    rw [if_neg (by decide), up_zero_f ud ue, up_zero_f ha hb]
    simp only [Option.bind_some]
    exact h1
  · have hcp : 0 < c := by have := hc.1; omega
    rw [down_f ud ue hc c0, down_f ha hb hc c0]
    simp only [Option.bind_some]
    rw [if_neg (Int.not_lt.2 (sat_mono (Int.ediv_le_ediv hcp pde))), up_f ud ue hc c0, up_f ha hb hc c0]
    simp only [Option.bind_some]
    rw [decide_eq_false (Int.not_lt.2 (sat_mono (Int.ediv_le_ediv hcp (by omega))))]
    exact h1
end Go.Proofs.Ytihnjbpjikekpaa.Pure
