/- This text of a proof shows: the law 'WheelNone' and the chapter's own examples answer true, as runs of the code. No condition but the library's table, as it is laid. -/
import Derived.Test.YtmdilnelogechaaDoorR09
import Derived.Test.YtmdilnelogechaaDoorZ09
import Derived.Test.YtmdilnelogechaaDoorEvE
import Derived.Test.YtmdilnelogechaaDoorSatFacts
set_option linter.unusedVariables false
set_option linter.unusedSimpArgs false
set_option linter.constructorNameAsVariable false
namespace Go.Proofs.YtmdilnelogechaaDoor.IR
open Go Go.Proofs.YtmdilnelogechaaDoor.Ev Go.Proofs.YtmdilnelogechaaDoor.Ext Go.Proofs.YtmdilnelogechaaDoorW.PrintWords
theorem drawn_heap {w w' : World} (h : Drawn0 w w') : ∃ n, w' = { w with drawn := n } := by
  obtain ⟨n, rfl⟩ := h.out
  exact ⟨_, rfl⟩
def ft : FT := ftOf [(8, e8, k8), (10, e10, k10), (11, e11, k11), (12, e12, k12), (13, e13, k13), (14, e14, k14), (15, e15, k15), (16, e16, k16), (17, e17, k17), (18, e18, k18), (19, e19, k19), (20, e20, k20), (26, e26, k26), (27, e27, k27), (29, e29, k29), (30, e30, k30), (31, e31, k31), (32, e32, k32), (33, e33, k33), (34, e34, k34), (35, e35, k35), (36, e36, k36), (38, e38, k38), (39, e39, k39), (42, e42, k42), (46, e46, k46), (47, e47, k47), (48, e48, k48), (49, e49, k49), (50, e50, k50), (51, e51, k51), (52, e52, k52), (55, e55, k55), (60, e60, k60), (61, e61, k61), (62, e62, k62), (70, e70, k70), (71, e71, k71), (73, e73, k73)]
theorem ft_ok : FtOk Tryd.prog ft := ftOf_ok (by
  intro x hx
  simp only [List.mem_cons, List.not_mem_nil, or_false] at hx
  rcases hx with rfl | rfl | rfl | rfl | rfl | rfl | rfl | rfl | rfl | rfl | rfl | rfl | rfl | rfl | rfl | rfl | rfl | rfl | rfl | rfl | rfl | rfl | rfl | rfl | rfl | rfl | rfl | rfl | rfl | rfl | rfl | rfl | rfl | rfl | rfl | rfl | rfl | rfl | rfl
  · exact ⟨_, _, Tryd.func8, c8⟩
  · exact ⟨_, _, Tryd.func10, c10⟩
  · exact ⟨_, _, Tryd.func11, c11⟩
  · exact ⟨_, _, Tryd.func12, c12⟩
  · exact ⟨_, _, Tryd.func13, c13⟩
  · exact ⟨_, _, Tryd.func14, c14⟩
  · exact ⟨_, _, Tryd.func15, c15⟩
  · exact ⟨_, _, Tryd.func16, c16⟩
  · exact ⟨_, _, Tryd.func17, c17⟩
  · exact ⟨_, _, Tryd.func18, c18⟩
  · exact ⟨_, _, Tryd.func19, c19⟩
  · exact ⟨_, _, Tryd.func20, c20⟩
  · exact ⟨_, _, Tryd.func26, c26⟩
  · exact ⟨_, _, Tryd.func27, c27⟩
  · exact ⟨_, _, Tryd.func29, c29⟩
  · exact ⟨_, _, Tryd.func30, c30⟩
  · exact ⟨_, _, Tryd.func31, c31⟩
  · exact ⟨_, _, Tryd.func32, c32⟩
  · exact ⟨_, _, Tryd.func33, c33⟩
  · exact ⟨_, _, Tryd.func34, c34⟩
  · exact ⟨_, _, Tryd.func35, c35⟩
  · exact ⟨_, _, Tryd.func36, c36⟩
  · exact ⟨_, _, Tryd.func38, c38⟩
  · exact ⟨_, _, Tryd.func39, c39⟩
  · exact ⟨_, _, Tryd.func42, c42⟩
  · exact ⟨_, _, Tryd.func46, c46⟩
  · exact ⟨_, _, Tryd.func47, c47⟩
  · exact ⟨_, _, Tryd.func48, c48⟩
  · exact ⟨_, _, Tryd.func49, c49⟩
  · exact ⟨_, _, Tryd.func50, c50⟩
  · exact ⟨_, _, Tryd.func51, c51⟩
  · exact ⟨_, _, Tryd.func52, c52⟩
  · exact ⟨_, _, Tryd.func55, c55⟩
  · exact ⟨_, _, Tryd.func60, c60⟩
  · exact ⟨_, _, Tryd.func61, c61⟩
  · exact ⟨_, _, Tryd.func62, c62⟩
  · exact ⟨_, _, Tryd.func70, c70⟩
  · exact ⟨_, _, Tryd.func71, c71⟩
  · exact ⟨_, _, Tryd.func73, c73⟩)
def ext (f : FuncId) (vs : List Val) : Option Val :=
  match vs with
  | [.i .u64 x] => if f = 74 ∧ 0 ≤ x ∧ x ≤ 18446744073709551615 then some (.i .i64 (Lib.ctz 64 x.toNat)) else none
  | [.i .u64 a, .i .u64 b] => if f = 41 then (if U a ∧ U b then some (.i .u64 (sat (a * b))) else none) else if f = 40 then (if U a ∧ U b then some (.i .u64 (sat (a + b))) else none) else none
  | [.i .u64 a, .i .u64 b, .i .u64 c] => if f = 37 ∧ U a ∧ U b ∧ U c then some (.i .u64 (if c = 0 then 18446744073709551615 else sat ((a * b + (c - 1)) / c))) else none
  | _ => none
theorem ext_ok : ExtOk Tryd.prog ext := by
  intro f vs v h H
  unfold ext at h
  split at h
  · rename_i x
    split at h
    · rename_i hx
      obtain ⟨rfl, h0, h1⟩ := hx
      cases h
      exact tz_c x h0 h1 H
    · cases h
  · rename_i a b
    split at h
    · rename_i hf
      subst hf
      split at h
      · rename_i hu
        cases h
        exact sound_ints (fun args w => by rfl) (l := [(.u64, a), (.u64, b)]) (fun σ => .i _ _) (fun w => (sat_Mul.calls a b (sat (a * b)) w (by unfold sat_Mul.f; rw [if_pos hu])).mono fun e w' h => ⟨h.1, drawn_heap h.2⟩) H
      · cases h
    · split at h
      · rename_i hf
        subst hf
        split at h
        · rename_i hu
          cases h
          exact sound_ints (fun args w => by rfl) (l := [(.u64, a), (.u64, b)]) (fun σ => .i _ _) (fun w => (sat_Add.calls a b (sat (a + b)) w (by unfold sat_Add.f; rw [if_pos hu])).mono fun e w' h => ⟨h.1, drawn_heap h.2⟩) H
        · cases h
      · cases h
  · rename_i a b c
    split at h
    · rename_i hu
      obtain ⟨rfl, hu⟩ := hu
      cases h
      exact sound_ints (fun args w => by rfl) (l := [(.u64, a), (.u64, b), (.u64, c)]) (fun σ => .i _ _) (fun w => (sat_Up.calls a b c _ w (by unfold sat_Up.f; rw [if_pos hu])).mono fun e w' h => ⟨h.1, drawn_heap h.2⟩) H
    · cases h
  · cases h
theorem awake_run : (call ft ext 400 40 15 [] []).map (·.1) = some (.b true) := by kernel_rfl
theorem none_run (v t : Int) : (call ft ext 400 40 8 [.i .u64 v, .i .u64 t] []).map (·.1) = some (.b true) := by kernel_rfl
theorem awake_sound (H : Heap) : SoundCall Tryd.prog 15 [] H (fun v' H' => v' = .b true ∧ H' = H) := sound_run ft_ok ext_ok rfl rfl awake_run H
theorem WheelNone_sound (a0 : Int) (a1 : Int) (_w0 : (Lit.int .u64 a0).wf = true) (_w1 : (Lit.int .u64 a1).wf = true) :
    SoundM Tryd.prog 0 8 [.i .u64 a0, .i .u64 a1] [] (fun v _ => v = .b true) :=
  (sound_run ft_ok ext_ok rfl rfl (none_run a0 a1) []).mono fun _ _ h => h.1
end Go.Proofs.YtmdilnelogechaaDoor.IR
