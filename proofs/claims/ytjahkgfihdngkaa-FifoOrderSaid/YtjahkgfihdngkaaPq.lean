/- This text of a proof shows: a row sorted by parting it again and again. -/
import Derived.Test.YtjahkgfihdngkaaPt
set_option linter.unusedVariables false
set_option linter.unusedSimpArgs false
set_option linter.constructorNameAsVariable false
namespace Go.Proofs.Ytjahkgfihdngkaa.Ev.So
/-- All pairs but those within [c, d) stand in order. -/
def Fin (lt : E → E → Prop) (g : Row) (a b c d : Nat) : Prop := ∀ i j, a ≤ i → i < j → j < b → (i < c ∨ d ≤ j) → lt (g i) (g j)
variable {lt : E → E → Prop} {g h : Row} {a b c d m : Nat}
theorem Fin.start : Fin lt g a b a b := fun i j h1 h2 h3 h4 => by omega
theorem Fin.sws (t : Fin lt g a b c d) (p : Sws c d g h) (hc : a ≤ c) (hd : d ≤ b) : Fin lt h a b c d := by
  intro i j h1 h2 h3 h4
  by_cases i1 : i < c
  · rw [p.out (k := i) (.inl i1)]
    by_cases j1 : j < c ∨ d ≤ j
    · rw [p.out j1]; exact t i j h1 h2 h3 h4
    · exact p.all (P := fun x => lt (g i) x) (fun k k1 k2 => t i k h1 (by omega) (by omega) (.inl i1)) j (by omega) (by omega)
  · have hj : d ≤ j := by omega
    rw [p.out (k := j) (.inr hj)]
    by_cases i2 : d ≤ i
    · rw [p.out (.inr i2)]; exact t i j h1 h2 h3 h4
    · exact p.all (P := fun x => lt x (g j)) (fun k k1 k2 => t k j (by omega) (by omega) h3 (.inr hj)) i (by omega) (by omega)
theorem Fin.done (t : Fin lt g a b c d) (s : Srt lt g c d) : Srt lt g a b := fun i j h1 h2 h3 => by
  by_cases e : i < c ∨ d ≤ j
  · exact t i j h1 h2 h3 e
  · exact s i j (by omega) h2 (by omega)
theorem Fin.left (o : Ord lt) (t : Fin lt g a b c d) (p : PtF lt g c d m) (s : Srt lt g c m) : Fin lt g a b (m + 1) d := fun i j h1 h2 h3 h4 => by
  by_cases e : i < c ∨ d ≤ j
  · exact t i j h1 h2 h3 e
  · have him : i ≤ m := by omega
    by_cases j1 : j < m
    · exact s i j (by omega) h2 j1
    · by_cases j2 : j = m
      · subst j2; exact p.1 i (by omega) h2
      · have hj := p.2 j (by omega) (by omega)
        by_cases i1 : i = m
        · subst i1; exact hj
        · exact o.trans (p.1 i (by omega) (by omega)) hj
theorem Fin.right (o : Ord lt) (t : Fin lt g a b c d) (p : PtF lt g c d m) (s : Srt lt g (m + 1) d) : Fin lt g a b c m := fun i j h1 h2 h3 h4 => by
  by_cases e : i < c ∨ d ≤ j
  · exact t i j h1 h2 h3 e
  · have hjm : m ≤ j := by omega
    by_cases i1 : m < i
    · exact s i j (by omega) h2 (by omega)
    · by_cases i2 : i = m
      · subst i2; exact p.2 j h2 (by omega)
      · have hi := p.1 i (by omega) (by omega)
        by_cases j1 : j = m
        · subst j1; exact hi
        · exact o.trans hi (p.2 j (by omega) (by omega))
theorem PtF.sws_l (p : PtF lt g c d m) (q : Sws c m g h) : PtF lt h c d m := by
  have e : h m = g m := q.out (.inr (Nat.le_refl _))
  refine ⟨fun k k1 k2 => ?_, fun k k1 k2 => ?_⟩
  · rw [e]; exact q.all (P := fun x => lt x (g m)) p.1 k k1 k2
  · rw [e, q.out (k := k) (.inr (by omega))]; exact p.2 k k1 k2
theorem PtF.sws_r (p : PtF lt g c d m) (q : Sws (m + 1) d g h) : PtF lt h c d m := by
  have e : h m = g m := q.out (.inl (by omega))
  refine ⟨fun k k1 k2 => ?_, fun k k1 k2 => ?_⟩
  · rw [e, q.out (k := k) (.inl (by omega))]; exact p.1 k k1 k2
  · rw [e]; exact q.all (P := fun x => lt (g m) x) (fun k k1 k2 => p.2 k (by omega) k2) k k1 k2
theorem PtF.lo_r (p : PtF lt g c d m) : Lo lt g (m + 1) d := fun _ i h1 h2 => p.2 i (by omega) h2
theorem Lo.front (l : Lo lt g c d) (hm : m ≤ d) : Lo lt g c m := fun h i h1 h2 => l h i h1 (by omega)
end Go.Proofs.Ytjahkgfihdngkaa.Ev.So
