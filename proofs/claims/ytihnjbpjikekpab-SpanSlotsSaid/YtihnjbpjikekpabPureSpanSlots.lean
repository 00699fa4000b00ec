/- For every input sandglasslaw02.SpanSlots answers true; its arguments are left as they were. No condition. -/
import Derived.Test.YtihnjbpjikekpabPLawsx1
import Derived.Test.YtihnjbpjikekpabSpanFacts
namespace Go.Proofs.Ytihnjbpjikekpab.Pure
open Go.RowKit Go.Proofs.Ytihnjbpjikekpab.PLaws Go.Proofs.YtihnjbpjikekpabW.PrintWords Go.Proofs.YtihnjbpjikekpabW.PrintLast Go.Proofs.Ytihnjbpjikekpab.Ext

theorem awake_SpanSlots : sandglasslaw02_awake.f = some true := by decide +kernel
theorem SpanSlots : sandglasslaw02_SpanSlots.Pure := by
  intro a v ha hv
  have ha := U_wf ha
  have hv := U_wf hv
  obtain ⟨w, hw⟩ : ∃ w, w = Int.tmod v 9223372036854775809 := ⟨_, rfl⟩
  have hw0 : 0 ≤ w ∧ w ≤ 9223372036854775808 := by
    rw [hw, Int.tmod_eq_emod_of_nonneg hv.1]; omega
  have uw : U w := ⟨hw0.1, by omega⟩
  have em : mx w 1 = max w 1 := by unfold mx; split <;> omega
  have um : U (max w 1) := U_max uw
  have emm : max (max w 1) 1 = max w 1 := by omega
  have us : U (sl_ a w) := U_sl ha
  refine ⟨1, ?_⟩
  unfold sandglasslaw02_SpanSlots.f
  rw [← hw, em, span_Slot_f ha uw]
  simp only [Option.bind_some]
  rw [span_Begin_f us um]
  simp only [Option.bind_some]
  have hm := max_pos w
  have hge := up_ge (v := a) hm
  have hpr := up_pred (v := a) hm
  have es : sl_ a w = (a + (max w 1 - 1)) / max w 1 := rfl
  have eb : bg_ (sl_ a w) (max w 1) = sat (sl_ a w * max w 1) := by unfold bg_; rw [emm]
  rw [← es] at hge hpr
  rw [Int.sub_mul, Int.one_mul] at hpr
  rw [eb]
  have hlt : ¬ sat (sl_ a w * max w 1) < a := Int.not_lt.2 (le_sat hge ha.2)
  rw [if_neg hlt]
  have h1 : sandglasslaw02_SpanSlots.j0 1 (max w 1) (sl_ a w) (sat (sl_ a w * max w 1)) false = some true := by
    simp only [sandglasslaw02_SpanSlots.j0]
    rw [if_neg (by decide), awake_SpanSlots]
    simp only [Option.bind_some]
    by_cases hN : sat (sl_ a w * max w 1) = 18446744073709551615
    · rw [if_pos hN]
    · obtain ⟨e, hl⟩ := sat_lt hN
      rw [if_neg hN, e, span_Slot_f ⟨by have := ha.1; omega, by omega⟩ um]
      simp only [Option.bind_some]
      rw [if_pos]
      unfold sl_ at *
      rw [emm]
      generalize (a + (max w 1 - 1)) / max w 1 = s at *
      rw [Int.add_comm, Int.add_mul_ediv_right _ _ (by omega), Int.ediv_eq_zero_of_lt (by omega) (by omega)]
      omega
  have h2 : (if sl_ a w > 0 then ((span_Begin.f (IntKind.u64.wrap (sl_ a w - 1)) (max w 1)).bind fun t132 => (sandglasslaw02_SpanSlots.j0 1 (max w 1) (sl_ a w) (sat (sl_ a w * max w 1)) (decide (t132 ≥ a)))) else (sandglasslaw02_SpanSlots.j0 1 (max w 1) (sl_ a w) (sat (sl_ a w * max w 1)) false)) = some true := by
    by_cases hs : sl_ a w > 0
    · have u1 : U (sl_ a w - 1) := ⟨by omega, by have := us.2; omega⟩
      rw [if_pos hs, wrap_U u1, span_Begin_f u1 um]
      simp only [Option.bind_some]
      rw [decide_eq_false]
      · exact h1
      · unfold bg_
        rw [emm]
        have := sat_le ((sl_ a w - 1) * max w 1)
        rw [Int.sub_mul, Int.one_mul] at this
        rw [Int.sub_mul, Int.one_mul]
        omega
    · rw [if_neg hs]; exact h1
  by_cases hN : sat (sl_ a w * max w 1) < 18446744073709551615
  · obtain ⟨e, hl⟩ := sat_lt (show sat (sl_ a w * max w 1) ≠ 18446744073709551615 by omega)
    rw [if_pos hN, if_neg]
    · exact h2
    · have u2 : U (sat (sl_ a w * max w 1) - a) := by rw [e]; exact ⟨by omega, by have := ha.1; omega⟩
      rw [wrap_U u2, e]
      omega
  · rw [if_neg hN]; exact h2
end Go.Proofs.Ytihnjbpjikekpab.Pure
