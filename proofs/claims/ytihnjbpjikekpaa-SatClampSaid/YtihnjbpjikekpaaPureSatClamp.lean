/- For every input sandglasslaw01.SatClamp answers true; its arguments are left as they were. No condition. -/
import Derived.Test.YtihnjbpjikekpaaPSatx4
import Derived.Test.YtihnjbpjikekpaaSatFacts
namespace Go.Proofs.Ytihnjbpjikekpaa.Pure
open Go.RowKit Go.Proofs.Ytihnjbpjikekpaa.PSat Go.Proofs.YtihnjbpjikekpaaW.PrintWords Go.Proofs.YtihnjbpjikekpaaW.PrintLast Go.Proofs.Ytihnjbpjikekpaa.Ext

theorem awake_true : sandglasslaw01_awake.f = some true := by decide +kernel
theorem SatClamp : sandglasslaw01_SatClamp.Pure := by
  intro a0 a1 a2 _ _ _
  refine ⟨1, ?_⟩
  unfold sandglasslaw01_SatClamp.f
  rw [clamp_f]
  simp only [Option.bind_some]
  obtain ⟨t, ht⟩ : ∃ t, t = max a1 (min a0 a2) := ⟨_, rfl⟩
  rw [← ht]
  have h0 : sandglasslaw01_SatClamp.j0 1 a0 a1 a2 t false = some true := by
    simp only [sandglasslaw01_SatClamp.j0]
    rw [if_neg (by decide), clamp_f]
    simp only [Option.bind_some]
    rw [if_pos (by omega), awake_true]
    simp only [Option.bind_some]
    by_cases e0 : t = a0
    · rw [if_pos e0]
    · rw [if_neg e0]
      by_cases e1 : t = a1
      · rw [if_pos e1]
      · rw [if_neg e1, if_pos (by omega)]
  rw [if_neg (by omega)]
  have h1 : a1 > a2 → (t != a1) = false := by intro h; rw [show t = a1 by omega]; simp
  repeat' first
    | exact h0
    | (rw [h1 (by assumption)]; exact h0)
    | (exfalso; omega)
    | split
end Go.Proofs.Ytihnjbpjikekpaa.Pure
