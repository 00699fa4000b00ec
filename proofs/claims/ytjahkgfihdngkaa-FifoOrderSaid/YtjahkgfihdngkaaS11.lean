/- This text of a proof shows: the law 'FifoNone' answers true, as a run of the code. No condition. -/
import Derived.Test.YtjahkgfihdngkaaR11
set_option linter.unusedVariables false
set_option linter.unusedSimpArgs false
set_option linter.constructorNameAsVariable false
namespace Go.Proofs.Ytjahkgfihdngkaa.IR
open Go Go.Proofs.Ytjahkgfihdngkaa.Ev
def ft : FT := ftOf [(8, e8, k8), (9, e9, k9), (11, e11, k11), (12, e12, k12), (14, e14, k14), (16, e16, k16), (18, e18, k18), (19, e19, k19), (20, e20, k20), (25, e25, k25), (26, e26, k26), (27, e27, k27), (28, e28, k28), (29, e29, k29), (31, e31, k31), (32, e32, k32), (33, e33, k33), (34, e34, k34), (35, e35, k35), (36, e36, k36), (37, e37, k37), (38, e38, k38), (39, e39, k39), (40, e40, k40), (41, e41, k41), (42, e42, k42), (43, e43, k43), (44, e44, k44), (45, e45, k45), (46, e46, k46), (47, e47, k47), (48, e48, k48), (49, e49, k49), (50, e50, k50), (51, e51, k51), (52, e52, k52), (53, e53, k53), (54, e54, k54), (62, e62, k62), (63, e63, k63)]
theorem ft_ok : FtOk Try.prog ft := ftOf_ok (by
  intro x hx
  simp only [List.mem_cons, List.not_mem_nil, or_false] at hx
  rcases hx with rfl | rfl | rfl | rfl | rfl | rfl | rfl | rfl | rfl | rfl | rfl | rfl | rfl | rfl | rfl | rfl | rfl | rfl | rfl | rfl | rfl | rfl | rfl | rfl | rfl | rfl | rfl | rfl | rfl | rfl | rfl | rfl | rfl | rfl | rfl | rfl | rfl | rfl | rfl | rfl
  · exact ⟨_, _, Try.func8, c8⟩
  · exact ⟨_, _, Try.func9, c9⟩
  · exact ⟨_, _, Try.func11, c11⟩
  · exact ⟨_, _, Try.func12, c12⟩
  · exact ⟨_, _, Try.func14, c14⟩
  · exact ⟨_, _, Try.func16, c16⟩
  · exact ⟨_, _, Try.func18, c18⟩
  · exact ⟨_, _, Try.func19, c19⟩
  · exact ⟨_, _, Try.func20, c20⟩
  · exact ⟨_, _, Try.func25, c25⟩
  · exact ⟨_, _, Try.func26, c26⟩
  · exact ⟨_, _, Try.func27, c27⟩
  · exact ⟨_, _, Try.func28, c28⟩
  · exact ⟨_, _, Try.func29, c29⟩
  · exact ⟨_, _, Try.func31, c31⟩
  · exact ⟨_, _, Try.func32, c32⟩
  · exact ⟨_, _, Try.func33, c33⟩
  · exact ⟨_, _, Try.func34, c34⟩
  · exact ⟨_, _, Try.func35, c35⟩
  · exact ⟨_, _, Try.func36, c36⟩
  · exact ⟨_, _, Try.func37, c37⟩
  · exact ⟨_, _, Try.func38, c38⟩
  · exact ⟨_, _, Try.func39, c39⟩
  · exact ⟨_, _, Try.func40, c40⟩
  · exact ⟨_, _, Try.func41, c41⟩
  · exact ⟨_, _, Try.func42, c42⟩
  · exact ⟨_, _, Try.func43, c43⟩
  · exact ⟨_, _, Try.func44, c44⟩
  · exact ⟨_, _, Try.func45, c45⟩
  · exact ⟨_, _, Try.func46, c46⟩
  · exact ⟨_, _, Try.func47, c47⟩
  · exact ⟨_, _, Try.func48, c48⟩
  · exact ⟨_, _, Try.func49, c49⟩
  · exact ⟨_, _, Try.func50, c50⟩
  · exact ⟨_, _, Try.func51, c51⟩
  · exact ⟨_, _, Try.func52, c52⟩
  · exact ⟨_, _, Try.func53, c53⟩
  · exact ⟨_, _, Try.func54, c54⟩
  · exact ⟨_, _, Try.func62, c62⟩
  · exact ⟨_, _, Try.func63, c63⟩)
def ext (_f : FuncId) (_vs : List Val) : Option Val := none
theorem ext_ok : ExtOk Try.prog ext := by intro f vs v h; cases h
theorem awake_run : (call ft ext 400 40 11 [] []).map (·.1) = some (.b true) := by kernel_rfl
theorem none_run (h t s : Int) : (call ft ext 400 40 8 [.i .u64 h, .agg [.i .u64 t, .i .u64 s]] []).map (·.1) = some (.b true) := by kernel_rfl
theorem awake_sound (H : Heap) : SoundCall Try.prog 11 [] H (fun v' H' => v' = .b true ∧ H' = H) := sound_run ft_ok ext_ok rfl rfl awake_run H
theorem FifoNone_sound (a0 : Int) (a1_0 : Int) (a1_1 : Int)
    (_w0 : (Lit.int .u64 a0).wf = true) (_w1_0 : (Lit.int .u64 a1_0).wf = true) (_w1_1 : (Lit.int .u64 a1_1).wf = true) :
    SoundM Try.prog 0 8 [.i .u64 a0, .agg [.i .u64 a1_0, .i .u64 a1_1]] [] (fun v _ => v = .b true) :=
  (sound_run ft_ok ext_ok rfl rfl (none_run a0 a1_0 a1_1) []).mono fun _ _ h => h.1
end Go.Proofs.Ytjahkgfihdngkaa.IR
