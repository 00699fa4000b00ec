/- For every input sandglasslaw02.SpanTells answers true; its arguments are left as they were. No condition. -/
import Derived.Test.YtihnjbpjikekpabPLawsx1
import Derived.Test.YtihnjbpjikekpabSpanFacts
namespace Go.Proofs.Ytihnjbpjikekpab.Pure
open Go.RowKit Go.Proofs.Ytihnjbpjikekpab.PLaws Go.Proofs.YtihnjbpjikekpabW.PrintWords Go.Proofs.YtihnjbpjikekpabW.PrintLast Go.Proofs.Ytihnjbpjikekpab.Ext

theorem awake_SpanTells : sandglasslaw02_awake.f = some true := by decide +kernel
theorem SpanTells : sandglasslaw02_SpanTells.Pure := by
  intro a b ha hb
  have ha := U_wf ha
  have hb := U_wf hb
  unfold sandglasslaw02_SpanTells.f
  rw [span_Time_f ha hb, sandglassref02_Time_f ha hb, span_Bytes_f ha hb, sandglassref02_Bytes_f ha hb, span_Lesser_f ha hb, sandglassref02_Lesser_f ha hb, span_Slot_f ha hb, sandglassref02_Slot_f ha hb, span_Begin_f ha hb, sandglassref02_Begin_f ha hb, awake_SpanTells]
  simp only [Option.bind_some, if_true]
end Go.Proofs.Ytihnjbpjikekpab.Pure
