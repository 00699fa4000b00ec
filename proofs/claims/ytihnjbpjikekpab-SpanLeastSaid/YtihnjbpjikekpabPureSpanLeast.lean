/- For every input sandglasslaw02.SpanLeast answers true; its arguments are left as they were. No condition. -/
import Derived.Test.YtihnjbpjikekpabPLawsx1
import Derived.Test.YtihnjbpjikekpabSpanFacts
namespace Go.Proofs.Ytihnjbpjikekpab.Pure
open Go.RowKit Go.Proofs.Ytihnjbpjikekpab.PLaws Go.Proofs.YtihnjbpjikekpabW.PrintWords Go.Proofs.YtihnjbpjikekpabW.PrintLast Go.Proofs.Ytihnjbpjikekpab.Ext

theorem awake_SpanLeast : sandglasslaw02_awake.f = some true := by decide +kernel
theorem SpanLeast : sandglasslaw02_SpanLeast.Pure := by
  intro n r hn hr
  have hn := U_wf hn
  have hr := U_wf hr
  unfold sandglasslaw02_SpanLeast.f
  by_cases h0 : r = 0
  · rw [if_pos h0, span_Time_f hn (by decide), span_Bytes_f hn (by decide), awake_SpanLeast]
    simp only [Option.bind_some, tm, by_, if_true]
  · rw [if_neg h0, span_Time_f hn hr, awake_SpanLeast]
    simp only [Option.bind_some]
    by_cases ht : tm n r = 18446744073709551615
    · rw [if_pos ht, if_pos (time_never hn hr h0 ht)]
    · obtain ⟨w1, w2⟩ := time_worth hn hr h0 ht
      have ut := U_tm hn.1 hr
      rw [if_neg ht, span_Bytes_f ut hr]
      simp only [Option.bind_some]
      rw [if_pos w1]
      by_cases hz : tm n r = 0
      · rw [if_pos hz]
      · have u1 : U (tm n r - 1) := ⟨by have := ut.1; omega, by have := ut.2; omega⟩
        rw [if_neg hz, wrap_U u1, span_Bytes_f u1 hr]
        simp only [Option.bind_some]
        rw [if_pos (w2 hz)]
end Go.Proofs.Ytihnjbpjikekpab.Pure
