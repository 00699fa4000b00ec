/- This text of a proof shows: a row parted by a pivot. -/
import Derived.Test.YtjahkgfihdngkaaSo
set_option linter.unusedVariables false
set_option linter.unusedSimpArgs false
set_option linter.constructorNameAsVariable false
namespace Go.Proofs.Ytjahkgfihdngkaa.Ev.So
/-- Behind a, below i all are less than what stands at a; behind j, below b all are greater. -/
structure Pt (lt : E → E → Prop) (g : Row) (a b i j : Nat) : Prop where
  lo : ∀ k, a < k → k < i → lt (g k) (g a)
  up : ∀ k, j < k → k < b → lt (g a) (g k)
def PtF (lt : E → E → Prop) (g : Row) (a b m : Nat) : Prop := (∀ k, a ≤ k → k < m → lt (g k) (g m)) ∧ ∀ k, m < k → k < b → lt (g m) (g k)
variable {lt : E → E → Prop} {g : Row} {a b i j : Nat}
theorem Pt.start (h : b ≤ j + 1) : Pt lt g a b (a + 1) j := ⟨fun k h1 h2 => by omega, fun k h1 h2 => by omega⟩
theorem Pt.inc (h : Pt lt g a b i j) (hl : lt (g i) (g a)) : Pt lt g a b (i + 1) j := ⟨fun k h1 h2 => by
  by_cases e : k = i
  · subst e; exact hl
  · exact h.lo k h1 (by omega), h.up⟩
theorem Pt.dec (h : Pt lt g a b i (j + 1)) (hl : lt (g a) (g (j + 1))) : Pt lt g a b i j := ⟨h.lo, fun k h1 h2 => by
  by_cases e : k = j + 1
  · subst e; exact hl
  · exact h.up k (by omega) h2⟩
theorem Pt.swap (h : Pt lt g a b i (j + 1)) (hi : a < i) (hij : i < j + 1) (h1 : lt (g a) (g i)) (h2 : lt (g (j + 1)) (g a)) : Pt lt (swp g i (j + 1)) a b (i + 1) j := by
  have va : swp g i (j + 1) a = g a := swp_o (by omega) (by omega)
  refine ⟨fun k k1 k2 => ?_, fun k k1 k2 => ?_⟩
  · rw [va]
    by_cases e : k = i
    · subst e; rw [swp_l]; exact h2
    · rw [swp_o e (by omega)]; exact h.lo k k1 (by omega)
  · rw [va]
    by_cases e : k = j + 1
    · subst e; rw [swp_r]; exact h1
    · rw [swp_o (by omega) e]; exact h.up k (by omega) k2
theorem Pt.fin (h : Pt lt g a b i j) (hi : j < i) (ha : a ≤ j) : PtF lt (swp g j a) a b j := by
  have vj : swp g j a j = g a := swp_l _ _ _
  refine ⟨fun k k1 k2 => ?_, fun k k1 k2 => ?_⟩
  · rw [vj]
    by_cases e : k = a
    · subst e; rw [swp_r]; exact h.lo j (by omega) hi
    · rw [swp_o (by omega) e]; exact h.lo k (by omega) (by omega)
  · rw [vj, swp_o (by omega) (by omega)]; exact h.up k k1 k2
end Go.Proofs.Ytjahkgfihdngkaa.Ev.So
