/- For every input sandglasslaw02.SpanFaster answers true; its arguments are left as they were. No condition. -/
import Derived.Test.YtihnjbpjikekpabPLaw2x1
import Derived.Test.YtihnjbpjikekpabSpanFacts
namespace Go.Proofs.Ytihnjbpjikekpab.Pure
open Go.RowKit Go.Proofs.Ytihnjbpjikekpab.PLaw2 Go.Proofs.YtihnjbpjikekpabW.PrintWords Go.Proofs.YtihnjbpjikekpabW.PrintLast Go.Proofs.Ytihnjbpjikekpab.Ext

theorem awake_SpanFaster : sandglasslaw02_awake.f = some true := by decide +kernel
theorem SpanFaster : sandglasslaw02_SpanFaster.Pure := by
  intro n m a b hn hm ha hb
  have hn := U_wf hn
  have hm := U_wf hm
  have ha := U_wf ha
  have hb := U_wf hb
  have un : U (sat (n + m)) := U_sat (by have := hn.1; have := hm.1; omega)
  have ln : n ≤ sat (n + m) := le_sat (by have := hm.1; omega) hn.2
  have uf : U (sat (a + b)) := U_sat (by have := ha.1; have := hb.1; omega)
  have lf : a ≤ sat (a + b) := le_sat (by have := hb.1; omega) ha.2
  refine ⟨2, ?_⟩
  have h1 : sandglasslaw02_SpanFaster.j1 1 n a b false = some true := by
    simp only [sandglasslaw02_SpanFaster.j1]
    have ul := U_le ha hb
    rw [if_neg (by decide), span_Lesser_f ha hb, span_Lesser_f hb ha, awake_SpanFaster]
    simp only [Option.bind_some]
    rw [if_pos (le_comm a b), span_Time_f hn ul, span_Time_f hn ha, span_Time_f hn hb]
    simp only [Option.bind_some]
    rw [span_Bytes_f hn ul, span_Bytes_f hn ha, span_Bytes_f hn hb]
    simp only [Option.bind_some]
    have t0 : tm n 0 = 0 := rfl
    have b0 : by_ n 0 = 18446744073709551615 := rfl
    have ta := tm_nonneg hn.1 ha
    have tb := tm_nonneg hn.1 hb
    have ya := by_top n a
    have yb := by_top n b
    have both : tm n (le_ a b) = mx (tm n a) (tm n b) ∧ by_ n (le_ a b) = mn (by_ n a) (by_ n b) := by
      unfold mx mn le_
      by_cases h0 : a = 0
      · rw [if_pos h0]; subst h0; rw [t0, b0]; constructor <;> split <;> omega
      · rw [if_neg h0]
        by_cases h0' : b = 0
        · rw [if_pos h0']; subst h0'; rw [t0, b0]; constructor <;> split <;> omega
        · rw [if_neg h0']
          have pa : 0 < a := by have := ha.1; omega
          have pb : 0 < b := by have := hb.1; omega
          rcases Int.le_total a b with h | h
          · have := tm_anti hn.1 pa h
            have := by_rate hn.1 pa h
            rw [show min a b = a by omega]
            constructor <;> split <;> omega
          · have := tm_anti hn.1 pb h
            have := by_rate hn.1 pb h
            rw [show min a b = b by omega]
            constructor <;> split <;> omega
    rw [if_pos both.1, if_pos both.2]
  unfold sandglasslaw02_SpanFaster.f
  rw [add_f hn hm]
  simp only [Option.bind_some]
  rw [span_Time_f un ha, span_Time_f hn ha]
  simp only [Option.bind_some]
  rw [if_neg (Int.not_lt.2 (tm_mono ha ln)), span_Bytes_f un ha, span_Bytes_f hn ha]
  simp only [Option.bind_some]
  rw [decide_eq_false (Int.not_lt.2 (by_mono ha ln))]
  simp only [sandglasslaw02_SpanFaster.j0]
  rw [if_neg (by decide), add_f ha hb]
  simp only [Option.bind_some]
  by_cases hp : a > 0
  · rw [if_pos hp, span_Time_f hn uf, span_Time_f hn ha]
    simp only [Option.bind_some]
    rw [if_neg (Int.not_lt.2 (tm_anti hn.1 hp lf)), span_Bytes_f hn uf, span_Bytes_f hn ha]
    simp only [Option.bind_some]
    rw [decide_eq_false (Int.not_lt.2 (by_rate hn.1 hp lf))]
    exact h1
  · rw [if_neg hp]; exact h1
end Go.Proofs.Ytihnjbpjikekpab.Pure
