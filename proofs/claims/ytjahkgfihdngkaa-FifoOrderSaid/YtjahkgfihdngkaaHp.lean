/- This text of a proof shows: a heap in a row: what a step down keeps, and that the first is the greatest. -/
import Derived.Test.YtjahkgfihdngkaaSo
set_option linter.unusedVariables false
set_option linter.unusedSimpArgs false
set_option linter.constructorNameAsVariable false
namespace Go.Proofs.Ytjahkgfihdngkaa.Ev.So
section
variable (lt : E → E → Prop)
/-- All parents but x are greater than their children. -/
def Hp (g : Row) (s lo hi x : Nat) : Prop := ∀ i c, lo ≤ i → i ≠ x → (c = 2 * i + 1 ∨ c = 2 * i + 2) → c < hi → lt (g (s + c)) (g (s + i))
def HpUp (g : Row) (s lo hi x : Nat) : Prop := ∀ i c, lo ≤ i → (x = 2 * i + 1 ∨ x = 2 * i + 2) → (c = 2 * x + 1 ∨ c = 2 * x + 2) → c < hi → lt (g (s + c)) (g (s + i))
def HpA (g : Row) (s lo hi : Nat) : Prop := ∀ i c, lo ≤ i → (c = 2 * i + 1 ∨ c = 2 * i + 2) → c < hi → lt (g (s + c)) (g (s + i))
end
variable {lt : E → E → Prop} {g : Row} {s lo hi x c : Nat}
theorem Hp.start (h : HpA lt g s (lo + 1) hi) : Hp lt g s lo hi lo := fun i c h1 h2 h3 h4 => h i c (by omega) h3 h4
theorem HpUp.start : HpUp lt g s lo hi lo := fun i c h1 h2 _ _ => by omega
theorem HpA.start (h : hi ≤ 2 * lo + 1) : HpA lt g s lo hi := fun i c h1 h2 h3 => by omega
theorem Hp.done (h : Hp lt g s lo hi x) (hc : ∀ c, (c = 2 * x + 1 ∨ c = 2 * x + 2) → c < hi → lt (g (s + c)) (g (s + x))) : HpA lt g s lo hi := fun i c h1 h2 h3 => by
  by_cases e : i = x
  · subst e; exact hc c h2 h3
  · exact h i c h1 e h2 h3
theorem Hp.step (h : Hp lt g s lo hi x) (u : HpUp lt g s lo hi x) (hc : c = 2 * x + 1 ∨ c = 2 * x + 2) (hch : c < hi)
    (hm : ∀ d, (d = 2 * x + 1 ∨ d = 2 * x + 2) → d < hi → d ≠ c → lt (g (s + d)) (g (s + c))) (hx : lt (g (s + x)) (g (s + c))) :
    Hp lt (swp g (s + x) (s + c)) s lo hi c := by
  intro i d h1 h2 h3 h4
  by_cases e : i = x
  · subst e
    rw [swp_l]
    by_cases ed : d = c
    · subst ed; rw [swp_r]; exact hx
    · rw [swp_o (by omega) (by omega)]; exact hm d h3 h4 ed
  · rw [swp_o (k := s + i) (by omega) (by omega)]
    by_cases ed : d = x
    · subst ed
      rw [swp_l]
      exact u i c h1 h3 hc hch
    · rw [swp_o (by omega) (by omega)]; exact h i d h1 e h3 h4
theorem Hp.step_up (h : Hp lt g s lo hi x) (hl : lo ≤ x) (hc : c = 2 * x + 1 ∨ c = 2 * x + 2) : HpUp lt (swp g (s + x) (s + c)) s lo hi c := by
  intro i d h1 h2 h3 h4
  have e : i = x := by omega
  subst e
  rw [swp_l, swp_o (by omega) (by omega)]
  exact h c d (by omega) (by omega) h3 h4
theorem HpA.top (o : Ord lt) (h : HpA lt g s 0 hi) : ∀ m j, j ≤ m → 0 < j → j < hi → lt (g (s + j)) (g s) := by
  intro m
  induction m with
  | zero => intro j h1 h2; omega
  | succ m ih =>
    intro j h1 h2 h3
    have hp := h ((j - 1) / 2) j (Nat.zero_le _) (by omega) h3
    by_cases e : (j - 1) / 2 = 0
    · rw [e] at hp; exact hp
    · exact o.trans hp (ih _ (by omega) (by omega) (by omega))
theorem HpA.swap (h : HpA lt g s 0 (hi + 1)) : Hp lt (swp g s (s + hi)) s 0 hi 0 := fun i c _ h2 h3 h4 => by
  rw [swp_o (by omega) (by omega), swp_o (by omega) (by omega)]
  exact h i c (Nat.zero_le _) h3 (by omega)
/-- The greatest of the front stands behind it. -/
def Tail (lt : E → E → Prop) (g : Row) (s m b : Nat) : Prop := Srt lt g (s + m) b ∧ ∀ i j, s ≤ i → i < s + m → s + m ≤ j → j < b → lt (g i) (g j)
theorem Tail.swap (o : Ord lt) {m b : Nat} (h : HpA lt g s 0 (m + 1)) (t : Tail lt g s (m + 1) b) : Tail lt (swp g s (s + m)) s m b := by
  have top := h.top o
  have vm : swp g s (s + m) (s + m) = g s := swp_r _ _ _
  have src : ∀ i, s ≤ i → i < s + m → ∃ j, 0 < j ∧ j < m + 1 ∧ swp g s (s + m) i = g (s + j) := by
    intro i h1 h2
    by_cases e : i = s
    · subst e
      exact ⟨m, by omega, by omega, swp_l _ _ _⟩
    · refine ⟨i - s, by omega, by omega, ?_⟩
      rw [swp_o e (by omega)]
      congr 1; omega
  have vo : ∀ j, s + m < j → swp g s (s + m) j = g j := fun j hj => swp_o (by omega) (by omega)
  constructor
  · intro i j h1 h2 h3
    by_cases e : i = s + m
    · subst e
      rw [vm, vo j h2]
      exact t.2 s j (Nat.le_refl _) (by omega) (by omega) h3
    · rw [vo i (by omega), vo j (by omega)]
      exact t.1 i j (by omega) h2 h3
  · intro i j h1 h2 h3 h4
    obtain ⟨k, k1, k2, e⟩ := src i h1 h2
    rw [e]
    by_cases ej : j = s + m
    · subst ej; rw [vm]; exact top k k (Nat.le_refl _) k1 k2
    · rw [vo j (by omega)]; exact t.2 (s + k) j (by omega) (by omega) (by omega) h4
theorem Tail.sws {m b : Nat} {f : Row} (t : Tail lt f s m b) (p : Sws s (s + m) f g) : Tail lt g s m b := by
  refine ⟨t.1.sws_out p (.inl (Nat.le_refl _)), fun i j h1 h2 h3 h4 => ?_⟩
  rw [p.out (k := j) (.inr h3)]
  exact p.all (P := fun x => lt x (f j)) (fun k k1 k2 => t.2 k j k1 k2 h3 h4) i h1 h2
end Go.Proofs.Ytjahkgfihdngkaa.Ev.So
