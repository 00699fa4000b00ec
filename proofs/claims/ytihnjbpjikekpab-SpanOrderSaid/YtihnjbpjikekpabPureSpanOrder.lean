/- For every input sandglasslaw02.SpanOrder answers true; its arguments are left as they were. No condition. -/
import Derived.Test.YtihnjbpjikekpabPLaw2x1
import Derived.Test.YtihnjbpjikekpabSpanFacts
namespace Go.Proofs.Ytihnjbpjikekpab.Pure
open Go.RowKit Go.Proofs.Ytihnjbpjikekpab.PLaw2 Go.Proofs.YtihnjbpjikekpabW.PrintWords Go.Proofs.YtihnjbpjikekpabW.PrintLast Go.Proofs.Ytihnjbpjikekpab.Ext

theorem awake_SpanOrder : sandglasslaw02_awake.f = some true := by decide +kernel
theorem SpanOrder : sandglasslaw02_SpanOrder.Pure := by
  intro a b w m ha hb hw hm
  have ha := U_wf ha
  have hb := U_wf hb
  have hw := U_wf hw
  have hm := U_wf hm
  have e1 : mn a b = min a b := by unfold mn; split <;> omega
  have e2 : mx a b = max a b := by unfold mx; split <;> omega
  have e3 : mx w 1 = max w 1 := by unfold mx; split <;> omega
  have u1 : U (min a b) := by obtain ⟨x1, x2⟩ := ha; obtain ⟨y1, y2⟩ := hb; constructor <;> omega
  have u2 : U (max a b) := by obtain ⟨x1, x2⟩ := ha; obtain ⟨y1, y2⟩ := hb; constructor <;> omega
  have u3 := U_max hw
  have u4 : U (sat (max w 1 + m)) := U_sat (by have := u3.1; have := hm.1; omega)
  have hle : max w 1 ≤ max (sat (max w 1 + m)) 1 := by
    have := le_sat (n := max w 1) (x := max w 1 + m) (by have := hm.1; omega) u3.2
    omega
  unfold sandglasslaw02_SpanOrder.f
  rw [e1, e2, e3, span_Slot_f u1 hw, span_Slot_f u2 hw, awake_SpanOrder]
  simp only [Option.bind_some]
  rw [if_pos (sl_mono (by omega)), add_f u3 hm]
  simp only [Option.bind_some]
  rw [span_Slot_f ha u4, span_Slot_f ha hw]
  simp only [Option.bind_some]
  rw [if_pos (sl_anti ha.1 hle), span_Begin_f u1 hw, span_Begin_f u2 hw]
  simp only [Option.bind_some]
  rw [if_pos (bg_mono (by omega)), span_Begin_f ha hw]
  simp only [Option.bind_some]
  rw [span_Begin_f ha u4]
  simp only [Option.bind_some]
  rw [if_pos (bg_wide ha.1 hle)]
end Go.Proofs.Ytihnjbpjikekpab.Pure
