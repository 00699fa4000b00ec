/- One text of a proof that the law 'FifoOrder' answers true for every input: the row, out of the abstract run. No condition. -/
import Derived.Test.YtjahkgfihdngkaaRows
import Derived.Test.YtjahkgfihdngkaaSu
import Derived.Test.YtjahkgfihdngkaaEvE
import Derived.WalkKit
import Derived.ProofKit
import Derived.OpenShut
import Derived.ShutString
import Derived.ChangeOld
import Derived.Below
import Derived.SizedLaws
import Derived.Deep.Slices
import Derived.Deep.Fields
import Derived.ChangeSame
namespace Go.Proofs.Ytjahkgfihdngkaa.fifoOrder
open Go.ChangeShapes Go.WideShapes Go.ChangeAt Go.RowKit Go.Deep Go.Proofs.Ytjahkgfihdngkaa.Ev
open Go.ChangeMaps (open_string shut_string)
set_option linter.unusedVariables false
set_option maxRecDepth 100000
theorem own : ownKnob Try.prog.godebug = none := by kernel_rfl
theorem laidOut : laidOutB Try.prog = true := by kernel_rfl
theorem cellsOf_37 : Try.prog.cellsOf 37 = 4 := by kernel_rfl
theorem cellsOf_5 : Try.prog.cellsOf 5 = 1 := by kernel_rfl
theorem cells_5 {H : Type} {enc : TypeId × Value → H} {W : World} {base : Nat} {spare : Nat → Bool} {held : Bool} {fuel : Nat} {cs : List Value} {y : DataW H × List MemPlace}
    (h : DataW.trod enc Try.prog W base spare held fuel 5 cs = some y) : ∃ (x0 : Int), cs = [.int .u8 x0] ∧ (Lit.int .u8 x0).wf = true := by
  obtain ⟨x0, q0, _, w0⟩ := DataW.trod_int Try.underlying5 h
  exact ⟨x0, q0, w0⟩
theorem cellsOf_33 : Try.prog.cellsOf 33 = 1 := by kernel_rfl
theorem cells_33 {H : Type} {enc : TypeId × Value → H} {W : World} {base : Nat} {spare : Nat → Bool} {held : Bool} {fuel : Nat} {cs : List Value} {y : DataW H × List MemPlace}
    (h : DataW.trod enc Try.prog W base spare held fuel 33 cs = some y) : ∃ (x0 : Int), cs = [.int .u64 x0] ∧ (Lit.int .u64 x0).wf = true := by
  obtain ⟨x0, q0, _, w0⟩ := DataW.trod_int Try.underlying33 h
  exact ⟨x0, q0, w0⟩
theorem cellsOf_35 : Try.prog.cellsOf 35 = 2 := by kernel_rfl
theorem cells_35 {H : Type} {enc : TypeId × Value → H} {W : World} {base : Nat} {spare : Nat → Bool} {held : Bool} {fuel : Nat} {cs : List Value} {y : DataW H × List MemPlace}
    (h : DataW.trod enc Try.prog W base spare held fuel 35 cs = some y) : ∃ (x0 : Int) (x1 : Int), cs = [.int .u64 x0, .int .u64 x1] ∧ (Lit.int .u64 x0).wf = true ∧ (Lit.int .u64 x1).wf = true := by
  obtain ⟨xs, n, _, _, hl, hlen, hg⟩ := DataW.trod_struct Try.underlying35 h
  have hl' : cs.length = 2 := hl.trans cellsOf_35
  match cs, hl' with
  | [c0, c1], _ =>
    obtain ⟨y0, e0⟩ : ∃ y, xs[0]? = some y := ⟨_, List.getElem?_eq_getElem (by rw [hlen]; decide)⟩
    have g0 : DataW.trod enc Try.prog W base spare held n 33 [c0] = xs[0]? := by simpa [cellsOf_33] using hg 0 _ rfl
    obtain ⟨x0, q0, w0⟩ := cells_33 (g0.trans e0)
    simp only [List.cons.injEq, and_true] at q0
    obtain rfl := q0
    obtain ⟨y1, e1⟩ : ∃ y, xs[1]? = some y := ⟨_, List.getElem?_eq_getElem (by rw [hlen]; decide)⟩
    have g1 : DataW.trod enc Try.prog W base spare held n 33 [c1] = xs[1]? := by simpa [cellsOf_33] using hg 1 _ rfl
    obtain ⟨x1, q1, w1⟩ := cells_33 (g1.trans e1)
    simp only [List.cons.injEq, and_true] at q1
    obtain rfl := q1
    exact ⟨x0, x1, rfl, w0, w1⟩
theorem cells_37 {H : Type} {enc : TypeId × Value → H} {W : World} {base : Nat} {spare : Nat → Bool} {held : Bool} {fuel : Nat} {cs : List Value} {y : DataW H × List MemPlace}
    (h : DataW.trod enc Try.prog W base spare held fuel 37 cs = some y) : ∃ (x0 : Int) (x1 : Int) (x2 : Int) (x3 : Int), cs = [.int .u8 x0, .int .u64 x1, .int .u64 x2, .int .u64 x3] ∧ (Lit.int .u8 x0).wf = true ∧ (Lit.int .u64 x1).wf = true ∧ (Lit.int .u64 x2).wf = true ∧ (Lit.int .u64 x3).wf = true := by
  obtain ⟨xs, n, _, _, hl, hlen, hg⟩ := DataW.trod_struct Try.underlying37 h
  have hl' : cs.length = 4 := hl.trans cellsOf_37
  match cs, hl' with
  | [c0, c1, c2, c3], _ =>
    obtain ⟨y0, e0⟩ : ∃ y, xs[0]? = some y := ⟨_, List.getElem?_eq_getElem (by rw [hlen]; decide)⟩
    have g0 : DataW.trod enc Try.prog W base spare held n 5 [c0] = xs[0]? := by simpa [cellsOf_5, cellsOf_33, cellsOf_35] using hg 0 _ rfl
    obtain ⟨x0, q0, w0⟩ := cells_5 (g0.trans e0)
    simp only [List.cons.injEq, and_true] at q0
    obtain rfl := q0
    obtain ⟨y1, e1⟩ : ∃ y, xs[1]? = some y := ⟨_, List.getElem?_eq_getElem (by rw [hlen]; decide)⟩
    have g1 : DataW.trod enc Try.prog W base spare held n 33 [c1] = xs[1]? := by simpa [cellsOf_5, cellsOf_33, cellsOf_35] using hg 1 _ rfl
    obtain ⟨x1, q1, w1⟩ := cells_33 (g1.trans e1)
    simp only [List.cons.injEq, and_true] at q1
    obtain rfl := q1
    obtain ⟨y2, e2⟩ : ∃ y, xs[2]? = some y := ⟨_, List.getElem?_eq_getElem (by rw [hlen]; decide)⟩
    have g2 : DataW.trod enc Try.prog W base spare held n 35 [c2, c3] = xs[2]? := by simpa [cellsOf_5, cellsOf_33, cellsOf_35] using hg 2 _ rfl
    obtain ⟨x2, x3, q2, w2, w3⟩ := cells_35 (g2.trans e2)
    simp only [List.cons.injEq, and_true] at q2
    obtain ⟨rfl, rfl⟩ := q2
    exact ⟨x0, x1, x2, x3, rfl, w0, w1, w2, w3⟩
set_option maxRecDepth 100000 in
theorem lifted (os : Os) (started : os.Started) (H : Type) (enc : TypeId × Value → H) :
    ReturnsInHanded {} Try.checked os 4 .any (Rows.fifoOrderSpec.pre6 enc Try.prog Try.f4 Rows.fifoOrderRow.domain false) (Rows.fifoOrderSpec.post enc Try.prog Try.f4 false true false false) := by
  refine returnsInHanded_of_change_sized (C := Try.checked) own started (by kernel_rfl) Try.func4
    (ChangeSpec.witness6 (enc := enc) (C := Try.checked) false ⟨#[], #[.slice none 0 0, .slice none 0 0], []⟩ 8 (by kernel_rfl) (by kernel_rfl) (by kernel_rfl) (by kernel_rfl)) ?_
  intro W base args ds gs before hval0 hW hcnd hsz0 _
  have hval : ∀ (j : Nat) t v, Try.f4.params[j]? = some t → args[j]? = some v → Value.okWide Try.prog W .any base t v := hval0
  have hW' := hW
  obtain ⟨p, q, hA0, hV, rfl, hfz, hnd⟩ := hW
  have hA : DataW.TrodAll enc Try.prog W 0 (fun _ => true) true Try.f4.params.toList args.toList ds p := hA0
  rw [Try.params4] at hA hval
  obtain ⟨v0, vs0, d0, ds0, p0, q0, hargs, rfl, rfl, h0, r0⟩ := trodAll_cons hA
  obtain ⟨v1, vs1, d1, ds1, p1, q1, rfl, rfl, rfl, h1, r1⟩ := trodAll_cons r0
  obtain ⟨rfl, rfl, rfl⟩ := trodAll_nil r1
  obtain rfl : args = #[v0, v1] := by cases args; simp_all
  obtain ⟨rfl, rfl⟩ := trodVars_none hV
  have k0 := h0
  have lt0 : ∀ x ∈ p0, x.block < W.heap.size := by obtain ⟨m, hm⟩ := k0; exact DataW.trod_lt m _ _ _ hm
  obtain ⟨l0, sv0, lo0, s0, vr0, ok0, e0, m0⟩ := slice_arg (vals := fun x : Int × Int × Int × Int => [.i .u8 x.1, .i .u64 x.2.1, .i .u64 x.2.2.1, .i .u64 x.2.2.2]) (wf := fun x => (Lit.int .u8 x.1).wf = true ∧ (Lit.int .u64 x.2.1).wf = true ∧ (Lit.int .u64 x.2.2.1).wf = true ∧ (Lit.int .u64 x.2.2.2).wf = true) (fun _ => rfl) Try.underlying22 cellsOf_37 0 (fun n cs y hy => by
    obtain ⟨x0, x1, x2, x3, rfl, y0, y1, y2, y3⟩ := cells_37 hy
    refine ⟨(x0, x1, x2, x3), ⟨y0, y1, y2, y3⟩, fun j q hu => ?_⟩
    match j, hu with
    | 0, hu => cases hu; exact ⟨_, rfl, fun σ => .i _ _, rfl⟩
    | 1, hu => cases hu; exact ⟨_, rfl, fun σ => .i _ _, rfl⟩
    | 2, hu => cases hu; exact ⟨_, rfl, fun σ => .i _ _, rfl⟩
    | 3, hu => cases hu; exact ⟨_, rfl, fun σ => .i _ _, rfl⟩
    | j + 4, hu => simp at hu) (hval 0 22 v0 rfl rfl) h0
  have k1 := h1
  have lt1 : ∀ x ∈ p1, x.block < W.heap.size := by obtain ⟨m, hm⟩ := k1; exact DataW.trod_lt m _ _ _ hm
  obtain ⟨l1, sv1, lo1, s1, vr1, ok1, e1, m1⟩ := slice_arg (vals := fun x : Int × Int × Int × Int => [.i .u8 x.1, .i .u64 x.2.1, .i .u64 x.2.2.1, .i .u64 x.2.2.2]) (wf := fun x => (Lit.int .u8 x.1).wf = true ∧ (Lit.int .u64 x.2.1).wf = true ∧ (Lit.int .u64 x.2.2.1).wf = true ∧ (Lit.int .u64 x.2.2.2).wf = true) (fun _ => rfl) Try.underlying22 cellsOf_37 1 (fun n cs y hy => by
    obtain ⟨x0, x1, x2, x3, rfl, y0, y1, y2, y3⟩ := cells_37 hy
    refine ⟨(x0, x1, x2, x3), ⟨y0, y1, y2, y3⟩, fun j q hu => ?_⟩
    match j, hu with
    | 0, hu => cases hu; exact ⟨_, rfl, fun σ => .i _ _, rfl⟩
    | 1, hu => cases hu; exact ⟨_, rfl, fun σ => .i _ _, rfl⟩
    | 2, hu => cases hu; exact ⟨_, rfl, fun σ => .i _ _, rfl⟩
    | 3, hu => cases hu; exact ⟨_, rfl, fun σ => .i _ _, rfl⟩
    | j + 4, hu => simp at hu) (hval 1 22 v1 rfl rfl) h1
  have hrel := ArgsOk.rel (W := W) (H := [.ro (l0.flatMap fun x => [.i .u8 x.1, .i .u64 x.2.1, .i .u64 x.2.2.1, .i .u64 x.2.2.2]), .ro (l1.flatMap fun x => [.i .u8 x.1, .i .u64 x.2.1, .i .u64 x.2.2.1, .i .u64 x.2.2.2])]) (ls := [lo0, lo1]) ⟨ok0, ⟨ok1, trivial⟩⟩
  refine (law_calls (fun args w => by rfl) (IR.FifoOrder_sound l0 sv0 l1 sv1 s0 m0 e0 s1 m1 e1) hrel.2 hrel.1 (LRel.list (l := [sv0, sv1]) (c := [_, _]) ⟨(vr0 _ rfl), ⟨(vr1 _ rfl), trivial⟩⟩)).mono fun e W' ⟨he, h1, h2, h3, h4, h5⟩ => ?_
  have bel : Below W.heap.size W W' := ⟨h1, h2, h3, h4, h5⟩
  subst he
  exact ⟨_, rfl, _, _, _, [], _, [], hW', trodAll_mk1 (shut_bool Try.underlying4 _), (trodAll_cons_mk (Below.trod laidOut (by kernel_rfl) (of_decide_eq_true (by kernel_rfl)) k0 bel lt0) (trodAll_cons_mk (Below.trod laidOut (by kernel_rfl) (of_decide_eq_true (by kernel_rfl)) k1 bel lt1) trodAll_mk0)), rfl, bel.frame _, fun h => by cases h⟩
theorem over : Rows.fifoOrderRow.holds Try.pinned (OpenSpec.ofChange Rows.fifoOrderSpec) :=
  OpenClaim.holds_of_wide 4 Try.f4 rfl rfl rfl rfl rfl rfl rfl ⟨rfl, rfl, rfl, rfl, rfl⟩ rfl rfl rfl rfl rfl (by kernel_rfl) Try.func4 (by kernel_rfl)
    (of_decide_eq_true (by kernel_rfl)) (by unfold Func.isWrapper; first | (rw [if_pos (by decide +kernel)]; kernel_rfl) | (rw [if_neg (by decide +kernel)]; exact ⟨rfl, rfl⟩))
    (fun os started H enc _ => lifted os started H enc)
theorem proved : Rows.FifoOrderSaid := over
#print axioms proved
end Go.Proofs.Ytjahkgfihdngkaa.fifoOrder
namespace Go.Proofs.Ytjahkgfihdngkaa
/-- The row, under a short name, for the claim. -/
theorem fifoOrder_holds : Rows.FifoOrderSaid := fifoOrder.proved
end Go.Proofs.Ytjahkgfihdngkaa
