/- Plain facts of layer 12: what the flow's functions answer, in one formula each. -/
import Derived.Test.YtdkcgcijppmkiaaPFlowx4
import Derived.Test.YtdkcgcijppmkiaaPFlowx5
import Derived.Test.YtdkcgcijppmkiaaSatFacts
import Derived.Test.YtdkcgcijppmkiaaExtSpan
namespace Go.Proofs.Ytdkcgcijppmkiaa.PFlow
open Go.RowKit Go.Proofs.YtdkcgcijppmkiaaW.PrintWords Go.Proofs.YtdkcgcijppmkiaaW.PrintLast Go.Proofs.YtdkcgcijppmkiaaW.PrintMore Go.Proofs.Ytdkcgcijppmkiaa.Ext

theorem w64 (n : Int) (h : -9223372036854775808 ≤ n ∧ n ≤ 9223372036854775807) : wrap64 n = n := by unfold wrap64; omega
theorem mx_eq (a b : Int) : mx a b = max a b := by unfold mx; split <;> omega
theorem mn_eq (a b : Int) : mn a b = min a b := by unfold mn; split <;> omega
/-- When the next packet may leave, once a debt is paid from an instant on. -/
def pN (r d nx at_ : Int) : Int := if 0 < r ∧ 0 < d then max nx (sat (at_ + tm d r)) else nx
theorem U_pN {r d nx at_ : Int} (hr : U r) (hd : U d) (hn : U nx) (ha : U at_) : U (pN r d nx at_) := by
  unfold pN
  split
  · have h1 := U_tm hd.1 hr
    have h2 : U (sat (at_ + tm d r)) := U_sat (by have := ha.1; have := h1.1; omega)
    obtain ⟨x1, x2⟩ := hn
    obtain ⟨y1, y2⟩ := h2
    constructor <;> omega
  · exact hn
theorem rate_f {a2 p3 : Int} (h2 : U a2) (h3 : U p3) (a0 a1 a3 a4 a5 a6 p0 p1 p2 p4 : Int) :
    flow_Rate.f a0 a1 a2 a3 a4 a5 a6 p0 p1 p2 p3 p4 = some (le_ a2 p3) := by
  unfold flow_Rate.f
  rw [span_Lesser_f h2 h3]
  simp only [Option.bind_some]
theorem pays_f (k : Nat) {a2 a4 a5 p3 x : Int} (h2 : U a2) (h3 : U p3) (h5 : U a5) (hx : U x) (a0 a1 a3 a6 p0 p1 p2 p4 : Int) :
    flow_step_pays.f (k + 1) a0 a1 a2 a3 a4 a5 a6 p0 p1 p2 p3 p4 x = some (a0, a1, a2, a3, pN (le_ a2 p3) a5 a4 x, 0, a6, p0, p1, p2, p3, p4) := by
  unfold flow_step_pays.f
  rw [rate_f h2 h3]
  simp only [Option.bind_some]
  have hl := U_le h2 h3
  have ht := U_tm h5.1 hl
  unfold pN
  by_cases c1 : le_ a2 p3 > 0
  · rw [if_pos c1]
    by_cases c2 : a5 > 0
    · rw [decide_eq_true c2, if_pos ⟨c1, c2⟩]
      rw [flow_step_pays.j0]
      rw [if_pos rfl, span_Time_f h5 hl]
      simp only [Option.bind_some]
      rw [add_f hx ht]
      simp only [Option.bind_some, mx_eq]
    · rw [decide_eq_false c2, if_neg (fun h => c2 h.2)]
      rw [flow_step_pays.j0]
      rw [if_neg (by decide)]
  · rw [if_neg c1, if_neg (fun h => c1 h.1)]
    rw [flow_step_pays.j0]
    rw [if_neg (by decide)]
/-- Does a packet use up the credit? -/
def uses (r lo c n : Int) : Prop := r < lo ∨ c - n ≤ 0
instance (r lo c n : Int) : Decidable (uses r lo c n) := inferInstanceAs (Decidable (_ ∨ _))
/-- What a charge leaves: credit, when the next one may leave, debt. -/
def chC (r lo c n : Int) : Int := if r = 0 then c - n else if r < lo then min (c - n) 0 else c - n
def chN (r lo c d n nx at_ : Int) : Int := if r = 0 then nx else if uses r lo c n then pN r (d + n) nx at_ else nx
def chD (r lo c d n : Int) : Int := if r = 0 then d else if uses r lo c n then 0 else d + n
theorem U_small {n : Int} (h0 : 0 ≤ n) (h1 : n ≤ 1000000000) : U n := ⟨h0, by omega⟩
theorem charge_f (k : Nat) {a2 a3 a4 a5 n x p3 : Int} (h2 : U a2) (h3 : U p3) (hx : U x) (hn : 1 ≤ n ∧ n ≤ 65536)
    (hc : -1000000000 ≤ a3 ∧ a3 ≤ 1000000000) (hd : 0 ≤ a5 ∧ a5 ≤ 1000000000) (a0 a1 a6 p0 p1 p2 p4 : Int) :
    flow_Charge.f (k + 1) a0 a1 a2 a3 a4 a5 a6 n x p0 p1 p2 p3 p4
      = some (a0, a1, a2, chC (le_ a2 p3) p4 a3 n, chN (le_ a2 p3) p4 a3 a5 n a4 x, chD (le_ a2 p3) p4 a3 a5 n, a6, 0) := by
  have w1 : IntKind.u64.wrap n = n := wrap_U (U_small (by omega) (by omega))
  have w2 : wrap64 n = n := w64 n (by omega)
  have w3 : wrap64 (a3 - n) = a3 - n := w64 _ (by omega)
  have ud : U (a5 + n) := ⟨by omega, by omega⟩
  have w4 : IntKind.u64.wrap (a5 + n) = a5 + n := wrap_U ud
  unfold flow_Charge.f
  rw [if_neg (by omega), if_neg (by omega), w1]
  unfold flow_step_charged.f
  rw [w2, w3, w4, rate_f h2 h3]
  simp only [Option.bind_some]
  unfold chC chN chD
  by_cases c0 : le_ a2 p3 = 0
  · simp only [if_pos c0, Option.bind_some]
  · simp only [if_neg c0]
    by_cases c1 : le_ a2 p3 < p4
    · rw [if_pos c1, pays_f k h2 h3 ud hx]
      simp only [Option.bind_some, if_pos c1, if_pos (show uses (le_ a2 p3) p4 a3 n from Or.inl c1), mn_eq]
    · rw [if_neg c1]
      by_cases c2 : a3 - n ≤ 0
      · rw [if_pos c2, pays_f k h2 h3 ud hx]
        simp only [Option.bind_some, if_neg c1, if_pos (show uses (le_ a2 p3) p4 a3 n from Or.inr c2)]
      · rw [if_neg c2]
        simp only [Option.bind_some, if_neg c1, if_neg (show ¬ uses (le_ a2 p3) p4 a3 n from fun h => h.elim c1 c2)]
theorem charge_no (k : Nat) {n : Int} (hn : n < 1 ∨ 65536 < n) (a0 a1 a2 a3 a4 a5 a6 x p0 p1 p2 p3 p4 : Int) :
    flow_Charge.f k a0 a1 a2 a3 a4 a5 a6 n x p0 p1 p2 p3 p4 = some (a0, a1, a2, a3, a4, a5, a6, 2) := by
  unfold flow_Charge.f
  by_cases c : n < 1
  · rw [if_pos c]
  · rw [if_neg c, if_pos (by omega)]
theorem U_chN {r lo c d n nx at_ : Int} (hr : U r) (hd : U (d + n)) (hn : U nx) (ha : U at_) : U (chN r lo c d n nx at_) := by
  unfold chN
  split
  · exact hn
  · split
    · exact U_pN hr hd hn ha
    · exact hn
/-- A pace that may be: its numbers' bounds. -/
def Rt (q fi mo lo : Int) : Prop := 1 ≤ q ∧ q ≤ 1048576 ∧ 1 ≤ fi ∧ fi ≤ 1048576 ∧ mo ≤ 1099511627776 ∧ lo ≤ 1099511627776
instance (q fi mo lo : Int) : Decidable (Rt q fi mo lo) := inferInstanceAs (Decidable (_ ∧ _))
theorem right_f (q fi re mo lo : Int) : flow_Right.f q fi re mo lo = some (decide (Rt q fi mo lo)) := by
  unfold flow_Right.f Rt
  rw [mx_eq]
  repeat' split
  all_goals (congr 1; first | (apply decide_eq_decide.2; omega) | (symm; apply decide_eq_false; omega))
theorem awake_f (k : Nat) : sandglasslaw12_awake.f (k + 1) = some true := by
  induction k with
  | zero => decide +kernel
  | succ k ih => exact sandglasslaw12_awake.mono (k + 1) _ ih
end Go.Proofs.Ytdkcgcijppmkiaa.PFlow
