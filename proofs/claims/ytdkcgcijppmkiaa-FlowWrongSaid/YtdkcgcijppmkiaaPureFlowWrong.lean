/- For every input sandglasslaw12.FlowWrong answers true; its arguments are left as they were. No condition. -/
import Derived.Test.YtdkcgcijppmkiaaPFlowx7
import Derived.Test.YtdkcgcijppmkiaaFlowFacts
namespace Go.Proofs.Ytdkcgcijppmkiaa.Pure
open Go.RowKit Go.Proofs.Ytdkcgcijppmkiaa.PFlow Go.Proofs.YtdkcgcijppmkiaaW.PrintWords Go.Proofs.YtdkcgcijppmkiaaW.PrintLast Go.Proofs.YtdkcgcijppmkiaaW.PrintMore Go.Proofs.Ytdkcgcijppmkiaa.Ext

theorem wrong_j (k : Nat) {q fi so co at_ : Int} (re mo lo : Int) (hq : 1 ≤ q ∧ q ≤ 1048576) (hf : 1 ≤ fi ∧ fi ≤ 1048576) (ha : U at_) :
    sandglasslaw12_FlowWrong.j0 (k + 2) so co at_ false q fi re mo lo so co 0 fi 0 0 0 = some true := by
  rw [sandglasslaw12_FlowWrong.j0]
  rw [if_neg (by decide)]
  unfold flow_Fill.f flow_Ready.f
  simp only [Option.bind_some]
  rw [if_pos (by simp), if_pos (by
    have w1 : wrap64 (fi + q) = fi + q := w64 _ (by omega)
    have w2 : wrap64 (fi + q - q) = fi := by rw [w64 _ (by omega)]; omega
    rw [w1, w2]
    simp), mx_eq, if_pos (by have := ha.1; omega), awake_f]
  rfl
theorem FlowWrong : sandglasslaw12_FlowWrong.Pure := by
  intro q fi re mo lo so co n at_ hq hfi hre hmo hlo hso hco hn hat
  have hat := U_wf hat
  have hmo := U_wf hmo
  refine ⟨3, ?_⟩
  unfold sandglasslaw12_FlowWrong.f
  rw [right_f]
  simp only [Option.bind_some, decide_eq_true_eq]
  by_cases hR : Rt q fi mo lo
  · rw [if_pos hR]
    obtain ⟨r1, r2, r3, r4, r5, r6⟩ := hR
    unfold flow_Born.f
    simp only [Option.bind_some]
    have hj := wrong_j 1 (so := so) (co := co) re mo lo ⟨r1, r2⟩ ⟨r3, r4⟩ hat
    by_cases hb : 1 ≤ n ∧ n ≤ 65536
    · rw [charge_f 2 (show U 0 by decide) hmo hat hb (by omega) (by omega)]
      simp only [Option.bind_some]
      rw [if_pos (by omega), if_neg (by simp [hb.2]), if_pos trivial]
      exact hj
    · rw [charge_no 3 (by omega)]
      simp only [Option.bind_some]
      by_cases h1 : n ≥ 1
      · rw [if_pos h1, if_neg (by simp; omega), if_neg (by decide), if_pos trivial]
        simp only [beq_self_eq_true, Bool.not_true, Bool.or_false]
        exact hj
      · rw [if_neg h1, if_neg (by decide), if_neg (by decide), if_pos trivial]
        simp only [beq_self_eq_true, Bool.not_true, Bool.or_false]
        exact hj
  · rw [if_neg hR, awake_f]
    rfl
end Go.Proofs.Ytdkcgcijppmkiaa.Pure
