/- This text of a proof shows: the chapter's own examples answer true, as a run of the code; and what is known of the layers below. No condition. -/
import Derived.Test.YtdkcgcijppmkiaaR12
import Derived.Test.YtdkcgcijppmkiaaEvF
import Derived.Test.YtdkcgcijppmkiaaExtSpan
set_option linter.unusedVariables false
set_option linter.unusedSimpArgs false
set_option linter.constructorNameAsVariable false
namespace Go.Proofs.Ytdkcgcijppmkiaa.IR
open Go Go.Proofs.Ytdkcgcijppmkiaa.Ev Go.Proofs.Ytdkcgcijppmkiaa.Ext Go.Proofs.YtdkcgcijppmkiaaW.PrintWords
theorem drawn_heap {w w' : World} (h : Drawn0 w w') : ∃ n, w' = { w with drawn := n } := by
  obtain ⟨n, rfl⟩ := h.out
  exact ⟨_, rfl⟩
def ft : FT := ftOf [(8, e8, k8), (9, e9, k9), (10, e10, k10), (11, e11, k11), (12, e12, k12), (13, e13, k13), (14, e14, k14), (17, e17, k17), (18, e18, k18), (19, e19, k19), (20, e20, k20), (21, e21, k21), (22, e22, k22), (23, e23, k23), (24, e24, k24), (25, e25, k25), (26, e26, k26), (27, e27, k27), (30, e30, k30), (33, e33, k33), (34, e34, k34), (38, e38, k38), (39, e39, k39)]
theorem ft_ok : FtOk Try.prog ft := ftOf_ok (by
  intro x hx
  simp only [List.mem_cons, List.not_mem_nil, or_false] at hx
  rcases hx with rfl | rfl | rfl | rfl | rfl | rfl | rfl | rfl | rfl | rfl | rfl | rfl | rfl | rfl | rfl | rfl | rfl | rfl | rfl | rfl | rfl | rfl | rfl
  · exact ⟨_, _, Try.func8, c8⟩
  · exact ⟨_, _, Try.func9, c9⟩
  · exact ⟨_, _, Try.func10, c10⟩
  · exact ⟨_, _, Try.func11, c11⟩
  · exact ⟨_, _, Try.func12, c12⟩
  · exact ⟨_, _, Try.func13, c13⟩
  · exact ⟨_, _, Try.func14, c14⟩
  · exact ⟨_, _, Try.func17, c17⟩
  · exact ⟨_, _, Try.func18, c18⟩
  · exact ⟨_, _, Try.func19, c19⟩
  · exact ⟨_, _, Try.func20, c20⟩
  · exact ⟨_, _, Try.func21, c21⟩
  · exact ⟨_, _, Try.func22, c22⟩
  · exact ⟨_, _, Try.func23, c23⟩
  · exact ⟨_, _, Try.func24, c24⟩
  · exact ⟨_, _, Try.func25, c25⟩
  · exact ⟨_, _, Try.func26, c26⟩
  · exact ⟨_, _, Try.func27, c27⟩
  · exact ⟨_, _, Try.func30, c30⟩
  · exact ⟨_, _, Try.func33, c33⟩
  · exact ⟨_, _, Try.func34, c34⟩
  · exact ⟨_, _, Try.func38, c38⟩
  · exact ⟨_, _, Try.func39, c39⟩)
def ext (f : FuncId) (vs : List Val) : Option Val :=
  match vs with
  | [.i .u64 a, .i .u64 b] => if U a ∧ U b then (if f = 15 then some (.i .u64 (sat (a + b))) else (if f = 16 then some (.i .u64 (tm a b)) else (if f = 28 then some (.i .u64 (by_ a b)) else (if f = 29 then some (.i .u64 (le_ a b)) else (if f = 35 then some (.i .u64 (sat (a + b))) else (if f = 36 then some (.i .u64 (le_ a b)) else (if f = 42 then some (.i .u64 (tm a b)) else (none)))))))) else none
  | _ => none
theorem ext_ok : ExtOk Try.prog ext := by
  intro f vs v h H
  unfold ext at h
  split at h
  · rename_i a b
    split at h
    · rename_i hu
      split at h
      · rename_i hf
        cases h
        subst hf
        exact sound_ints (fun args w => by rfl) (l := [(.u64, a), (.u64, b)]) (fun σ => .i _ _) (fun w => (sat_Add.calls a b (sat (a + b)) w (by unfold sat_Add.f; rw [if_pos hu])).mono fun e w' h => ⟨h.1, drawn_heap h.2⟩) H
      · split at h
        · rename_i hf
          cases h
          subst hf
          exact sound_ints (fun args w => by rfl) (l := [(.u64, a), (.u64, b)]) (fun σ => .i _ _) (fun w => (span_Time.calls a b (tm a b) w (by unfold span_Time.f; rw [if_pos hu])).mono fun e w' h => ⟨h.1, drawn_heap h.2⟩) H
        · split at h
          · rename_i hf
            cases h
            subst hf
            exact sound_ints (fun args w => by rfl) (l := [(.u64, a), (.u64, b)]) (fun σ => .i _ _) (fun w => (span_Bytes.calls a b (by_ a b) w (by unfold span_Bytes.f; rw [if_pos hu])).mono fun e w' h => ⟨h.1, drawn_heap h.2⟩) H
          · split at h
            · rename_i hf
              cases h
              subst hf
              exact sound_ints (fun args w => by rfl) (l := [(.u64, a), (.u64, b)]) (fun σ => .i _ _) (fun w => (span_Lesser.calls a b (le_ a b) w (by unfold span_Lesser.f; rw [if_pos hu])).mono fun e w' h => ⟨h.1, drawn_heap h.2⟩) H
            · split at h
              · rename_i hf
                cases h
                subst hf
                exact sound_ints (fun args w => by rfl) (l := [(.u64, a), (.u64, b)]) (fun σ => .i _ _) (fun w => (sandglassref01_Add.calls a b (sat (a + b)) w (by unfold sandglassref01_Add.f sat_Add.f; rw [if_pos hu])).mono fun e w' h => ⟨h.1, drawn_heap h.2⟩) H
              · split at h
                · rename_i hf
                  cases h
                  subst hf
                  exact sound_ints (fun args w => by rfl) (l := [(.u64, a), (.u64, b)]) (fun σ => .i _ _) (fun w => (sandglassref02_Lesser.calls a b (le_ a b) w (by unfold sandglassref02_Lesser.f; rw [if_pos hu])).mono fun e w' h => ⟨h.1, drawn_heap h.2⟩) H
                · split at h
                  · rename_i hf
                    cases h
                    subst hf
                    exact sound_ints (fun args w => by rfl) (l := [(.u64, a), (.u64, b)]) (fun σ => .i _ _) (fun w => (sandglassref02_Time.calls a b (tm a b) w (by unfold sandglassref02_Time.f; rw [if_pos hu])).mono fun e w' h => ⟨h.1, drawn_heap h.2⟩) H
                  · cases h
    · cases h
  · cases h
theorem add_c (a b : Int) (ha : U a) (hb : U b) (H : Heap) : SoundCall Try.prog 15 [.i .u64 a, .i .u64 b] H (fun v H' => v = .i .u64 (sat (a + b)) ∧ H' = H) :=
  ext_ok 15 _ _ (by simp [ext, ha, hb]) H
theorem time_c (a b : Int) (ha : U a) (hb : U b) (H : Heap) : SoundCall Try.prog 16 [.i .u64 a, .i .u64 b] H (fun v H' => v = .i .u64 (tm a b) ∧ H' = H) :=
  ext_ok 16 _ _ (by simp [ext, ha, hb]) H
theorem bytes_c (a b : Int) (ha : U a) (hb : U b) (H : Heap) : SoundCall Try.prog 28 [.i .u64 a, .i .u64 b] H (fun v H' => v = .i .u64 (by_ a b) ∧ H' = H) :=
  ext_ok 28 _ _ (by simp [ext, ha, hb]) H
theorem lesser_c (a b : Int) (ha : U a) (hb : U b) (H : Heap) : SoundCall Try.prog 29 [.i .u64 a, .i .u64 b] H (fun v H' => v = .i .u64 (le_ a b) ∧ H' = H) :=
  ext_ok 29 _ _ (by simp [ext, ha, hb]) H
theorem radd_c (a b : Int) (ha : U a) (hb : U b) (H : Heap) : SoundCall Try.prog 35 [.i .u64 a, .i .u64 b] H (fun v H' => v = .i .u64 (sat (a + b)) ∧ H' = H) :=
  ext_ok 35 _ _ (by simp [ext, ha, hb]) H
theorem rlesser_c (a b : Int) (ha : U a) (hb : U b) (H : Heap) : SoundCall Try.prog 36 [.i .u64 a, .i .u64 b] H (fun v H' => v = .i .u64 (le_ a b) ∧ H' = H) :=
  ext_ok 36 _ _ (by simp [ext, ha, hb]) H
theorem rtime_c (a b : Int) (ha : U a) (hb : U b) (H : Heap) : SoundCall Try.prog 42 [.i .u64 a, .i .u64 b] H (fun v H' => v = .i .u64 (tm a b) ∧ H' = H) :=
  ext_ok 42 _ _ (by simp [ext, ha, hb]) H
theorem awake_run : (call ft ext 200 20 9 [] []).map (·.1) = some (.b true) := by kernel_rfl
theorem awake_sound (H : Heap) : SoundCall Try.prog 9 [] H (fun v' H' => v' = .b true ∧ H' = H) := sound_run ft_ok ext_ok rfl rfl awake_run H
end Go.Proofs.Ytdkcgcijppmkiaa.IR
