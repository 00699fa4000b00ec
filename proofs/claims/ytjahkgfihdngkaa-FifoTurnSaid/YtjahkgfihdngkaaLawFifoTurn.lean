/- One text of a proof that the law 'FifoTurn' answers true for every input: the row, out of the abstract run. No condition. -/
import Derived.Test.YtjahkgfihdngkaaRows
import Derived.Test.YtjahkgfihdngkaaGd
import Derived.Test.YtjahkgfihdngkaaEvE
import Derived.WalkKit
import Derived.ProofKit
import Derived.OpenShut
import Derived.ShutString
import Derived.ChangeOld
import Derived.Below
import Derived.SizedLaws
import Derived.Deep.Slices
import Derived.Deep.Fields
import Derived.ChangeSame
namespace Go.Proofs.Ytjahkgfihdngkaa.fifoTurn
open Go.ChangeShapes Go.WideShapes Go.ChangeAt Go.RowKit Go.Deep Go.Proofs.Ytjahkgfihdngkaa.Ev
open Go.ChangeMaps (open_string shut_string)
set_option linter.unusedVariables false
set_option maxRecDepth 100000
theorem own : ownKnob Try.prog.godebug = none := by kernel_rfl
theorem laidOut : laidOutB Try.prog = true := by kernel_rfl
theorem cellsOf_59 : Try.prog.cellsOf 59 = 1 := by kernel_rfl
theorem cells_59 {H : Type} {enc : TypeId × Value → H} {W : World} {base : Nat} {spare : Nat → Bool} {held : Bool} {fuel : Nat} {cs : List Value} {y : DataW H × List MemPlace}
    (h : DataW.trod enc Try.prog W base spare held fuel 59 cs = some y) : ∃ (x0 : Int), cs = [.int .u16 x0] ∧ (Lit.int .u16 x0).wf = true := by
  obtain ⟨x0, q0, _, w0⟩ := DataW.trod_int Try.underlying59 h
  exact ⟨x0, q0, w0⟩
theorem cellsOf_5 : Try.prog.cellsOf 5 = 1 := by kernel_rfl
theorem cells_5 {H : Type} {enc : TypeId × Value → H} {W : World} {base : Nat} {spare : Nat → Bool} {held : Bool} {fuel : Nat} {cs : List Value} {y : DataW H × List MemPlace}
    (h : DataW.trod enc Try.prog W base spare held fuel 5 cs = some y) : ∃ (x0 : Int), cs = [.int .u8 x0] ∧ (Lit.int .u8 x0).wf = true := by
  obtain ⟨x0, q0, _, w0⟩ := DataW.trod_int Try.underlying5 h
  exact ⟨x0, q0, w0⟩
set_option maxRecDepth 100000 in
theorem lifted (os : Os) (started : os.Started) (H : Type) (enc : TypeId × Value → H) :
    ReturnsInHanded {} Try.checked os 5 .any (Rows.fifoTurnSpec.pre6 enc Try.prog Try.f5 Rows.fifoTurnRow.domain false) (Rows.fifoTurnSpec.post enc Try.prog Try.f5 false true false false) := by
  refine returnsInHanded_of_change_sized (C := Try.checked) own started (by kernel_rfl) Try.func5
    (ChangeSpec.witness6 (enc := enc) (C := Try.checked) false ⟨#[], #[.slice none 0 0, .int .u64 0, .slice none 0 0], []⟩ 8 (by kernel_rfl) (by kernel_rfl) (by kernel_rfl) (by kernel_rfl)) ?_
  intro W base args ds gs before hval0 hW hcnd hsz0 _
  have hval : ∀ (j : Nat) t v, Try.f5.params[j]? = some t → args[j]? = some v → Value.okWide Try.prog W .any base t v := hval0
  have hW' := hW
  obtain ⟨p, q, hA0, hV, rfl, hfz, hnd⟩ := hW
  have hA : DataW.TrodAll enc Try.prog W 0 (fun _ => true) true Try.f5.params.toList args.toList ds p := hA0
  rw [Try.params5] at hA hval
  obtain ⟨v0, vs0, d0, ds0, p0, q0, hargs, rfl, rfl, h0, r0⟩ := trodAll_cons hA
  obtain ⟨v1, vs1, d1, ds1, p1, q1, rfl, rfl, rfl, h1, r1⟩ := trodAll_cons r0
  obtain ⟨v2, vs2, d2, ds2, p2, q2, rfl, rfl, rfl, h2, r2⟩ := trodAll_cons r1
  obtain ⟨rfl, rfl, rfl⟩ := trodAll_nil r2
  obtain rfl : args = #[v0, v1, v2] := by cases args; simp_all
  obtain ⟨rfl, rfl⟩ := trodVars_none hV
  have k0 := h0
  have lt0 : ∀ x ∈ p0, x.block < W.heap.size := by obtain ⟨m, hm⟩ := k0; exact DataW.trod_lt m _ _ _ hm
  obtain ⟨l0, sv0, lo0, s0, vr0, ok0, e0, m0⟩ := slice_arg (vals := fun x : Int => [.i .u16 x]) (wf := fun x => (Lit.int .u16 x).wf = true) (fun _ => rfl) Try.underlying56 cellsOf_59 0 (fun n cs y hy => by
    obtain ⟨x0, rfl, y0⟩ := cells_59 hy
    refine ⟨(x0), y0, fun j q hu => ?_⟩
    match j, hu with
    | 0, hu => cases hu; exact ⟨_, rfl, fun σ => .i _ _, rfl⟩
    | j + 1, hu => simp at hu) (hval 0 56 v0 rfl rfl) h0
  have k1 := h1
  have lt1 : ∀ x ∈ p1, x.block < W.heap.size := by obtain ⟨m, hm⟩ := k1; exact DataW.trod_lt m _ _ _ hm
  obtain ⟨a1, rfl, _, _, w1⟩ := open_int Try.underlying33 (hval 1 33 v1 rfl rfl) h1
  have k2 := h2
  have lt2 : ∀ x ∈ p2, x.block < W.heap.size := by obtain ⟨m, hm⟩ := k2; exact DataW.trod_lt m _ _ _ hm
  obtain ⟨l2, sv2, lo2, s2, vr2, ok2, e2, m2⟩ := slice_arg (vals := fun x : Int => [.i .u8 x]) (wf := fun x => (Lit.int .u8 x).wf = true) (fun _ => rfl) Try.underlying57 cellsOf_5 1 (fun n cs y hy => by
    obtain ⟨x0, rfl, y0⟩ := cells_5 hy
    refine ⟨(x0), y0, fun j q hu => ?_⟩
    match j, hu with
    | 0, hu => cases hu; exact ⟨_, rfl, fun σ => .i _ _, rfl⟩
    | j + 1, hu => simp at hu) (hval 2 57 v2 rfl rfl) h2
  have hrel := ArgsOk.rel (W := W) (H := [.ro (l0.flatMap fun x => [.i .u16 x]), .ro (l2.flatMap fun x => [.i .u8 x])]) (ls := [lo0, lo2]) ⟨ok0, ⟨ok2, trivial⟩⟩
  refine (law_calls (fun args w => by rfl) (IR.FifoTurn_sound l0 sv0 a1 l2 sv2 s0 m0 e0 w1 s2 m2 e2) hrel.2 hrel.1 (LRel.list (l := [sv0, .i .u64 a1, sv2]) (c := [_, _, _]) ⟨(vr0 _ rfl), ⟨.i _ _, ⟨(vr2 _ rfl), trivial⟩⟩⟩)).mono fun e W' ⟨he, h1, h2, h3, h4, h5⟩ => ?_
  have bel : Below W.heap.size W W' := ⟨h1, h2, h3, h4, h5⟩
  subst he
  exact ⟨_, rfl, _, _, _, [], _, [], hW', trodAll_mk1 (shut_bool Try.underlying4 _), (trodAll_cons_mk (Below.trod laidOut (by kernel_rfl) (of_decide_eq_true (by kernel_rfl)) k0 bel lt0) (trodAll_cons_mk (Below.trod laidOut (by kernel_rfl) (of_decide_eq_true (by kernel_rfl)) k1 bel lt1) (trodAll_cons_mk (Below.trod laidOut (by kernel_rfl) (of_decide_eq_true (by kernel_rfl)) k2 bel lt2) trodAll_mk0))), rfl, bel.frame _, fun h => by cases h⟩
theorem over : Rows.fifoTurnRow.holds Try.pinned (OpenSpec.ofChange Rows.fifoTurnSpec) :=
  OpenClaim.holds_of_wide 5 Try.f5 rfl rfl rfl rfl rfl rfl rfl ⟨rfl, rfl, rfl, rfl, rfl⟩ rfl rfl rfl rfl rfl (by kernel_rfl) Try.func5 (by kernel_rfl)
    (of_decide_eq_true (by kernel_rfl)) (by unfold Func.isWrapper; first | (rw [if_pos (by decide +kernel)]; kernel_rfl) | (rw [if_neg (by decide +kernel)]; exact ⟨rfl, rfl⟩))
    (fun os started H enc _ => lifted os started H enc)
theorem proved : Rows.FifoTurnSaid := over
#print axioms proved
end Go.Proofs.Ytjahkgfihdngkaa.fifoTurn
namespace Go.Proofs.Ytjahkgfihdngkaa
/-- The row, under a short name, for the claim. -/
theorem fifoTurn_holds : Rows.FifoTurnSaid := fifoTurn.proved
end Go.Proofs.Ytjahkgfihdngkaa
