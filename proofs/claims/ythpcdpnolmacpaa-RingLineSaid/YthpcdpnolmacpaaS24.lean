/- This text of a proof shows: the law 'RingNone' and the chapter's own examples answer true, as runs of the code. No condition. -/
import Derived.Test.YthpcdpnolmacpaaR24
import Derived.Test.YthpcdpnolmacpaaExtSpan
set_option linter.unusedVariables false
set_option linter.unusedSimpArgs false
set_option linter.constructorNameAsVariable false
namespace Go.Proofs.Ythpcdpnolmacpaa.IR
open Go Go.Proofs.Ythpcdpnolmacpaa.Ev Go.Proofs.Ythpcdpnolmacpaa.Ext Go.Proofs.YthpcdpnolmacpaaW.PrintWords
theorem drawn_heap {w w' : World} (h : Drawn0 w w') : ∃ n, w' = { w with drawn := n } := by
  obtain ⟨n, rfl⟩ := h.out
  exact ⟨_, rfl⟩
def ft : FT := ftOf [(8, e8, k8), (9, e9, k9), (10, e10, k10), (13, e13, k13), (14, e14, k14), (15, e15, k15), (16, e16, k16), (17, e17, k17), (18, e18, k18), (19, e19, k19), (24, e24, k24), (27, e27, k27), (28, e28, k28), (31, e31, k31), (32, e32, k32)]
theorem ft_ok : FtOk Try.prog ft := ftOf_ok (by
  intro x hx
  simp only [List.mem_cons, List.not_mem_nil, or_false] at hx
  rcases hx with rfl | rfl | rfl | rfl | rfl | rfl | rfl | rfl | rfl | rfl | rfl | rfl | rfl | rfl | rfl
  · exact ⟨_, _, Try.func8, c8⟩
  · exact ⟨_, _, Try.func9, c9⟩
  · exact ⟨_, _, Try.func10, c10⟩
  · exact ⟨_, _, Try.func13, c13⟩
  · exact ⟨_, _, Try.func14, c14⟩
  · exact ⟨_, _, Try.func15, c15⟩
  · exact ⟨_, _, Try.func16, c16⟩
  · exact ⟨_, _, Try.func17, c17⟩
  · exact ⟨_, _, Try.func18, c18⟩
  · exact ⟨_, _, Try.func19, c19⟩
  · exact ⟨_, _, Try.func24, c24⟩
  · exact ⟨_, _, Try.func27, c27⟩
  · exact ⟨_, _, Try.func28, c28⟩
  · exact ⟨_, _, Try.func31, c31⟩
  · exact ⟨_, _, Try.func32, c32⟩)
def ext (f : FuncId) (vs : List Val) : Option Val :=
  match vs with
  | [.i .u64 a, .i .u64 b] => if U a ∧ U b then (if f = 11 then some (.i .u64 (sat (a + b))) else if f = 12 then some (.i .u64 (tm a b)) else none) else none
  | _ => none
theorem ext_ok : ExtOk Try.prog ext := by
  intro f vs v h H
  unfold ext at h
  split at h
  · rename_i a b
    split at h
    · rename_i hu
      split at h
      · rename_i hf
        cases h
        subst hf
        exact sound_ints (fun args w => by rfl) (l := [(.u64, a), (.u64, b)]) (fun σ => .i _ _) (fun w => (sat_Add.calls a b (sat (a + b)) w (by unfold sat_Add.f; rw [if_pos hu])).mono fun e w' h => ⟨h.1, drawn_heap h.2⟩) H
      · split at h
        · rename_i hf
          cases h
          subst hf
          exact sound_ints (fun args w => by rfl) (l := [(.u64, a), (.u64, b)]) (fun σ => .i _ _) (fun w => (span_Time.calls a b (tm a b) w (by unfold span_Time.f; rw [if_pos hu])).mono fun e w' h => ⟨h.1, drawn_heap h.2⟩) H
        · cases h
    · cases h
  · cases h
theorem awake_run : (call ft ext 200 20 16 [] []).map (·.1) = some (.b true) := by kernel_rfl
theorem none_run (h n now : Int) : (call ft ext 200 20 8 [.i .u64 h, .i .i64 n, .i .u64 now] []).map (·.1) = some (.b true) := by kernel_rfl
theorem awake_sound (H : Heap) : SoundCall Try.prog 16 [] H (fun v' H' => v' = .b true ∧ H' = H) := sound_run ft_ok ext_ok rfl rfl awake_run H
theorem RingNone_sound (a0 : Int) (a1 : Int) (a2 : Int)
    (_w0 : (Lit.int .u64 a0).wf = true) (_w1 : (Lit.int .i64 a1).wf = true) (_w2 : (Lit.int .u64 a2).wf = true) :
    SoundM Try.prog 0 8 [.i .u64 a0, .i .i64 a1, .i .u64 a2] [] (fun v _ => v = .b true) :=
  (sound_run ft_ok ext_ok rfl rfl (none_run a0 a1 a2) []).mono fun _ _ h => h.1
end Go.Proofs.Ythpcdpnolmacpaa.IR
