/- This text of a proof shows: the law 'BitmapNone' and the chapter's own examples answer true, as runs of the code. No condition but the library's table, as it is laid. -/
import Derived.Test.YtphlceiachdneaaDoorR08
import Derived.Test.YtphlceiachdneaaDoorZ08
import Derived.Test.YtphlceiachdneaaDoorEvE
set_option linter.unusedVariables false
set_option linter.unusedSimpArgs false
set_option linter.constructorNameAsVariable false
namespace Go.Proofs.YtphlceiachdneaaDoor.IR
open Go Go.Proofs.YtphlceiachdneaaDoor.Ev
def ft : FT := ftOf [(8, e8, k8), (10, e10, k10), (11, e11, k11), (12, e12, k12), (13, e13, k13), (14, e14, k14), (15, e15, k15), (18, e18, k18), (19, e19, k19), (25, e25, k25), (26, e26, k26), (27, e27, k27)]
theorem ft_ok : FtOk Tryd.prog ft := ftOf_ok (by
  intro x hx
  simp only [List.mem_cons, List.not_mem_nil, or_false] at hx
  rcases hx with rfl | rfl | rfl | rfl | rfl | rfl | rfl | rfl | rfl | rfl | rfl | rfl
  · exact ⟨_, _, Tryd.func8, c8⟩
  · exact ⟨_, _, Tryd.func10, c10⟩
  · exact ⟨_, _, Tryd.func11, c11⟩
  · exact ⟨_, _, Tryd.func12, c12⟩
  · exact ⟨_, _, Tryd.func13, c13⟩
  · exact ⟨_, _, Tryd.func14, c14⟩
  · exact ⟨_, _, Tryd.func15, c15⟩
  · exact ⟨_, _, Tryd.func18, c18⟩
  · exact ⟨_, _, Tryd.func19, c19⟩
  · exact ⟨_, _, Tryd.func25, c25⟩
  · exact ⟨_, _, Tryd.func26, c26⟩
  · exact ⟨_, _, Tryd.func27, c27⟩)
def ext (f : FuncId) (vs : List Val) : Option Val :=
  match vs with
  | [.i .u64 x] => if f = 28 ∧ 0 ≤ x ∧ x ≤ 18446744073709551615 then some (.i .i64 (Lib.ctz 64 x.toNat)) else none
  | _ => none
theorem ext_ok : ExtOk Tryd.prog ext := by
  intro f vs v h H
  unfold ext at h
  split at h
  · rename_i x
    split at h
    · rename_i hx
      obtain ⟨rfl, h0, h1⟩ := hx
      cases h
      exact tz_c x h0 h1 H
    · cases h
  · cases h
theorem awake_run : (call ft ext 400 40 11 [] []).map (·.1) = some (.b true) := by kernel_rfl
theorem none_runP (n : Nat) : (call ft ext 400 40 8 [.i .i64 (Int.ofNat n)] []).map (·.1) = some (.b true) := by kernel_rfl
theorem none_run0 : (call ft ext 400 40 8 [.i .i64 (Int.negSucc 0)] []).map (·.1) = some (.b true) := by kernel_rfl
theorem none_runN (n : Nat) : (call ft ext 400 40 8 [.i .i64 (Int.negSucc (n + 1))] []).map (·.1) = some (.b true) := by kernel_rfl
theorem none_run : ∀ i : Int, (call ft ext 400 40 8 [.i .i64 i] []).map (·.1) = some (.b true)
  | .ofNat n => none_runP n
  | .negSucc 0 => none_run0
  | .negSucc (n + 1) => none_runN n
theorem awake_sound (H : Heap) : SoundCall Tryd.prog 11 [] H (fun v' H' => v' = .b true ∧ H' = H) := sound_run ft_ok ext_ok rfl rfl awake_run H
theorem BitmapNone_sound (a0 : Int) (_w0 : (Lit.int .i64 a0).wf = true) :
    SoundM Tryd.prog 0 8 [.i .i64 a0] [] (fun v _ => v = .b true) :=
  (sound_run ft_ok ext_ok rfl rfl (none_run a0) []).mono fun _ _ h => h.1
end Go.Proofs.YtphlceiachdneaaDoor.IR
