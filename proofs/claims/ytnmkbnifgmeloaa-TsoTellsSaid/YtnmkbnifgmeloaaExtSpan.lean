/- The contracts of layer 2 (span) and of its references: how long bytes take, what a time is worth, the lesser rate, slots: by formulas. -/
import Derived.Test.YtnmkbnifgmeloaaSatFacts
import Derived.Test.YtnmkbnifgmeloaaPSpanx1
namespace Go.Proofs.Ytnmkbnifgmeloaa.Ext
open Go.RowKit Go.Proofs.YtnmkbnifgmeloaaW.PrintWords Go.Proofs.YtnmkbnifgmeloaaW.PrintMore Go.Proofs.Ytnmkbnifgmeloaa.Sat

/-- How long bytes take; what a time is worth; the lesser rate; an instant's slot; where a slot begins. -/
def tm (n r : Int) : Int := if r = 0 then 0 else sat ((n * 1000000000 + (r - 1)) / r)
def by_ (t r : Int) : Int := if r = 0 then 18446744073709551615 else sat (t * r / 1000000000)
def le_ (a b : Int) : Int := if a = 0 then b else if b = 0 then a else min a b
def sl_ (a w : Int) : Int := (a + (max w 1 - 1)) / max w 1
def bg_ (s w : Int) : Int := sat (s * max w 1)
theorem U_max {w : Int} (h : U w) : U (max w 1) := by obtain ⟨h1, h2⟩ := h; constructor <;> omega
theorem max_pos (w : Int) : 0 < max w 1 := by omega
theorem slot_le {a w : Int} (ha : 0 ≤ a) : sl_ a w ≤ a := by
  unfold sl_
  have hm := max_pos w
  generalize max w 1 = m at *
  refine up_least hm ?_
  have := Int.mul_le_mul_of_nonneg_left (show 1 ≤ m by omega) ha
  omega
theorem slot_sat {a w : Int} (ha : U a) : sat ((a * 1 + (max w 1 - 1)) / max w 1) = sl_ a w := by
  rw [Int.mul_one]
  exact sat_U ⟨up_nonneg (max_pos w) ha.1, Int.le_trans (slot_le ha.1) ha.2⟩
theorem U_tm {n r : Int} (hn : 0 ≤ n) (hr : U r) : U (tm n r) := by
  unfold tm
  split
  · decide
  · exact U_sat (up_nonneg (by have := hr.1; omega) (Int.mul_nonneg hn (by decide)))
theorem U_by {t r : Int} (ht : 0 ≤ t) (hr : U r) : U (by_ t r) := by
  unfold by_
  split
  · decide
  · exact U_sat (Int.ediv_nonneg (Int.mul_nonneg ht hr.1) (by decide))
theorem U_le {a b : Int} (ha : U a) (hb : U b) : U (le_ a b) := by
  obtain ⟨h1, h2⟩ := ha
  obtain ⟨h3, h4⟩ := hb
  unfold le_
  split
  · exact ⟨h3, h4⟩
  · split
    · exact ⟨h1, h2⟩
    · constructor <;> omega
theorem U_sl {a w : Int} (ha : U a) : U (sl_ a w) := ⟨up_nonneg (max_pos w) ha.1, Int.le_trans (slot_le ha.1) ha.2⟩
theorem U_bg {s w : Int} (hs : U s) : U (bg_ s w) := U_sat (Int.mul_nonneg hs.1 (by omega))
theorem U_g : U 1000000000 := by decide
theorem U_one : U 1 := by decide
theorem span_Time_eq {a b : Int} (ha : U a) (hb : U b) : PSpan.span_Time.f a b = some (tm a b) := by
  unfold PSpan.span_Time.f tm
  by_cases h0 : b = 0
  · rw [if_pos h0, if_pos h0]
  · rw [if_neg h0, if_neg h0, up_f ha U_g hb h0]; rfl
def span_Time.f (a0 : Int) (a1 : Int) : Option (Int) := if U a0 ∧ U a1 then some (tm a0 a1) else none
theorem span_Time_f {a b : Int} (ha : U a) (hb : U b) : span_Time.f a b = some (tm a b) := if_pos ⟨ha, hb⟩
theorem span_Time.calls (a0 : Int) (a1 : Int) (r : Int) (w : World) (h : span_Time.f a0 a1 = some r) :
    Calls Try.prog 21 #[.int .u64 a0, .int .u64 a1] w fun e w' => e = .returned (.int .u64 r) ∧ Drawn0 w w' := by
  unfold span_Time.f at h
  by_cases hu : U a0 ∧ U a1
  · rw [if_pos hu] at h
    exact PSpan.span_Time.calls a0 a1 r w ((span_Time_eq hu.1 hu.2).trans h)
  · rw [if_neg hu] at h; cases h
theorem span_Bytes_eq {a b : Int} (ha : U a) (hb : U b) : PSpan.span_Bytes.f a b = some (by_ a b) := by
  unfold PSpan.span_Bytes.f by_
  by_cases h0 : b = 0
  · rw [if_pos h0, if_pos h0]
  · rw [if_neg h0, if_neg h0, down_f ha hb U_g (by decide)]; rfl
def span_Bytes.f (a0 : Int) (a1 : Int) : Option (Int) := if U a0 ∧ U a1 then some (by_ a0 a1) else none
theorem span_Bytes_f {a b : Int} (ha : U a) (hb : U b) : span_Bytes.f a b = some (by_ a b) := if_pos ⟨ha, hb⟩
theorem span_Bytes.calls (a0 : Int) (a1 : Int) (r : Int) (w : World) (h : span_Bytes.f a0 a1 = some r) :
    Calls Try.prog 22 #[.int .u64 a0, .int .u64 a1] w fun e w' => e = .returned (.int .u64 r) ∧ Drawn0 w w' := by
  unfold span_Bytes.f at h
  by_cases hu : U a0 ∧ U a1
  · rw [if_pos hu] at h
    exact PSpan.span_Bytes.calls a0 a1 r w ((span_Bytes_eq hu.1 hu.2).trans h)
  · rw [if_neg hu] at h; cases h
theorem sandglassref02_Bytes_eq {a b : Int} (ha : U a) (hb : U b) : PSpan.sandglassref02_Bytes.f a b = some (by_ a b) := by
  unfold PSpan.sandglassref02_Bytes.f by_
  by_cases h0 : b = 0
  · rw [if_pos h0, if_pos h0]
  · rw [if_neg h0, if_neg h0]; unfold sandglassref01_Down.f; rw [down_f ha hb U_g (by decide)]; rfl
def sandglassref02_Bytes.f (a0 : Int) (a1 : Int) : Option (Int) := if U a0 ∧ U a1 then some (by_ a0 a1) else none
theorem sandglassref02_Bytes_f {a b : Int} (ha : U a) (hb : U b) : sandglassref02_Bytes.f a b = some (by_ a b) := if_pos ⟨ha, hb⟩
theorem sandglassref02_Bytes.calls (a0 : Int) (a1 : Int) (r : Int) (w : World) (h : sandglassref02_Bytes.f a0 a1 = some r) :
    Calls Try.prog 27 #[.int .u64 a0, .int .u64 a1] w fun e w' => e = .returned (.int .u64 r) ∧ Drawn0 w w' := by
  unfold sandglassref02_Bytes.f at h
  by_cases hu : U a0 ∧ U a1
  · rw [if_pos hu] at h
    exact PSpan.sandglassref02_Bytes.calls a0 a1 r w ((sandglassref02_Bytes_eq hu.1 hu.2).trans h)
  · rw [if_neg hu] at h; cases h
end Go.Proofs.Ytnmkbnifgmeloaa.Ext
