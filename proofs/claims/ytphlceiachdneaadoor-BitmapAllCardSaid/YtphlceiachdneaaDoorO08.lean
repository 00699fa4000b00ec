/- This text of a proof shows: small facts of the laws about a bitmap. -/
import Derived.Test.YtphlceiachdneaaDoorD08
set_option linter.unusedVariables false
set_option linter.unusedSimpArgs false
set_option linter.constructorNameAsVariable false
namespace Go.Proofs.YtphlceiachdneaaDoor.IR
open Go Go.Proofs.YtphlceiachdneaaDoor.Ev
theorem flat1 (l : List Int) : (l.flatMap fun x => [Val.i .u16 x]) = l.map (.i .u16) := by
  induction l with
  | nil => rfl
  | cons x l ih => simp only [List.flatMap_cons, ih]; rfl
theorem U16_wf {x : Int} (h : (Lit.int .u16 x).wf = true) : 0 ≤ x ∧ x ≤ 65535 := by
  have := h
  simp [Lit.wf, IntKind.min, IntKind.max, IntKind.signed, IntKind.bits] at this
  omega
theorem one_at (k : Int) : one k = .i .i64 1 := rfl
def cnV (cnt : Int → Int) : Int → Val := fun x => .i .i64 (cnt x)
theorem cn_ren (ι : Nat → Nat) (ks : List Int) (cnt : Int → Int) : (MV .i64 ks (cnV cnt)).map (fun x => (x.1, x.2.1.ren ι, x.2.2.ren ι)) = MV .i64 ks (cnV cnt) := MV_ren .i64 (cnV cnt) (fun _ => rfl) ks 0
theorem cn_wf (m : Nat) (ks : List Int) (cnt : Int → Int) : ((MV .i64 ks (cnV cnt)).all fun x => x.2.1.wf m && x.2.2.wf m) = true := MV_wf .i64 (cnV cnt) (fun _ => rfl) ks 0
theorem cnV_at (cnt : Int → Int) (k : Int) : cnV cnt k = .i .i64 (cnt k) := rfl
theorem iV_lenNo' (k : Nat) (d : List Int) : (iV k d).lenNo = 2 := by unfold iV; split <;> rfl
theorem iV_lenOf' (k : Nat) (d : List Int) (H : Heap) : lenOf (iV k d) H = some (.i .i64 d.length) := by unfold iV; split; (· rename_i h; rw [h]; rfl); rfl
end Go.Proofs.YtphlceiachdneaaDoor.IR
