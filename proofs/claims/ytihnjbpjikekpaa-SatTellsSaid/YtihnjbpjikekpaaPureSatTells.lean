/- For every input sandglasslaw01.SatTells answers true; its arguments are left as they were. No condition. -/
import Derived.Test.YtihnjbpjikekpaaPTelx1
import Derived.Test.YtihnjbpjikekpaaSatFacts
namespace Go.Proofs.Ytihnjbpjikekpaa.Pure
open Go.RowKit Go.Proofs.Ytihnjbpjikekpaa.PTel Go.Proofs.YtihnjbpjikekpaaW.PrintWords Go.Proofs.YtihnjbpjikekpaaW.PrintLast Go.Proofs.Ytihnjbpjikekpaa.Ext

theorem tells_awake : sandglasslaw01_awake.f = some true := by decide +kernel
theorem SatTells : sandglasslaw01_SatTells.Pure := by
  intro a b c ha hb hc
  have ha := U_wf ha
  have hb := U_wf hb
  have hc := U_wf hc
  unfold sandglasslaw01_SatTells.f sandglassref01_Add.f sandglassref01_Sub.f sandglassref01_Mul.f sandglassref01_Down.f sandglassref01_Up.f sandglassref01_Clamp.f
  rw [add_f ha hb, sub_f ha hb, mul_f ha hb, clamp_f, tells_awake]
  by_cases h0 : c = 0
  · subst h0
    rw [down_zero_f ha hb, up_zero_f ha hb]
    simp only [Option.bind_some, if_true]
  · rw [down_f ha hb hc h0, up_f ha hb hc h0]
    simp only [Option.bind_some, if_true]
end Go.Proofs.Ytihnjbpjikekpaa.Pure
