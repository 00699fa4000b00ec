/- One text of a proof that the law 'TsoTells' answers true for every input: the row, out of the abstract run. No condition. -/
import Derived.Test.YtnmkbnifgmeloaaRows
import Derived.Test.YtnmkbnifgmeloaaY23
import Derived.Test.YtnmkbnifgmeloaaEvE
import Derived.WalkKit
import Derived.ProofKit
import Derived.OpenShut
import Derived.ShutString
import Derived.ChangeOld
import Derived.Below
import Derived.SizedLaws
import Derived.Deep.Slices
import Derived.Deep.Fields
import Derived.ChangeSame
namespace Go.Proofs.Ytnmkbnifgmeloaa.tsoTells
open Go.ChangeShapes Go.WideShapes Go.ChangeAt Go.RowKit Go.Deep Go.Proofs.Ytnmkbnifgmeloaa.Ev
open Go.ChangeMaps (open_string shut_string)
set_option linter.unusedVariables false
set_option maxRecDepth 100000
theorem own : ownKnob Try.prog.godebug = none := by kernel_rfl
theorem laidOut : laidOutB Try.prog = true := by kernel_rfl
theorem cellsOf_24 : Try.prog.cellsOf 24 = 5 := by kernel_rfl
theorem cellsOf_22 : Try.prog.cellsOf 22 = 1 := by kernel_rfl
theorem cells_22 {H : Type} {enc : TypeId × Value → H} {W : World} {base : Nat} {spare : Nat → Bool} {held : Bool} {fuel : Nat} {cs : List Value} {y : DataW H × List MemPlace}
    (h : DataW.trod enc Try.prog W base spare held fuel 22 cs = some y) : ∃ (x0 : Int), cs = [.int .u64 x0] ∧ (Lit.int .u64 x0).wf = true := by
  obtain ⟨x0, q0, _, w0⟩ := DataW.trod_int Try.underlying22 h
  exact ⟨x0, q0, w0⟩
theorem cellsOf_3 : Try.prog.cellsOf 3 = 1 := by kernel_rfl
theorem cells_3 {H : Type} {enc : TypeId × Value → H} {W : World} {base : Nat} {spare : Nat → Bool} {held : Bool} {fuel : Nat} {cs : List Value} {y : DataW H × List MemPlace}
    (h : DataW.trod enc Try.prog W base spare held fuel 3 cs = some y) : ∃ (x0 : Int), cs = [.int .i64 x0] ∧ (Lit.int .i64 x0).wf = true := by
  obtain ⟨x0, q0, _, w0⟩ := DataW.trod_int Try.underlying3 h
  exact ⟨x0, q0, w0⟩
theorem cellsOf_5 : Try.prog.cellsOf 5 = 1 := by kernel_rfl
theorem cells_5 {H : Type} {enc : TypeId × Value → H} {W : World} {base : Nat} {spare : Nat → Bool} {held : Bool} {fuel : Nat} {cs : List Value} {y : DataW H × List MemPlace}
    (h : DataW.trod enc Try.prog W base spare held fuel 5 cs = some y) : ∃ (x0 : Int), cs = [.int .u8 x0] ∧ (Lit.int .u8 x0).wf = true := by
  obtain ⟨x0, q0, _, w0⟩ := DataW.trod_int Try.underlying5 h
  exact ⟨x0, q0, w0⟩
theorem cells_24 {H : Type} {enc : TypeId × Value → H} {W : World} {base : Nat} {spare : Nat → Bool} {held : Bool} {fuel : Nat} {cs : List Value} {y : DataW H × List MemPlace}
    (h : DataW.trod enc Try.prog W base spare held fuel 24 cs = some y) : ∃ (x0 : Int) (x1 : Int) (x2 : Int) (x3 : Int) (x4 : Int), cs = [.int .u64 x0, .int .u64 x1, .int .i64 x2, .int .u8 x3, .int .u64 x4] ∧ (Lit.int .u64 x0).wf = true ∧ (Lit.int .u64 x1).wf = true ∧ (Lit.int .i64 x2).wf = true ∧ (Lit.int .u8 x3).wf = true ∧ (Lit.int .u64 x4).wf = true := by
  obtain ⟨xs, n, _, _, hl, hlen, hg⟩ := DataW.trod_struct Try.underlying24 h
  have hl' : cs.length = 5 := hl.trans cellsOf_24
  match cs, hl' with
  | [c0, c1, c2, c3, c4], _ =>
    obtain ⟨y0, e0⟩ : ∃ y, xs[0]? = some y := ⟨_, List.getElem?_eq_getElem (by rw [hlen]; decide)⟩
    have g0 : DataW.trod enc Try.prog W base spare held n 22 [c0] = xs[0]? := by simpa [cellsOf_3, cellsOf_5, cellsOf_22] using hg 0 _ rfl
    obtain ⟨x0, q0, w0⟩ := cells_22 (g0.trans e0)
    simp only [List.cons.injEq, and_true] at q0
    obtain rfl := q0
    obtain ⟨y1, e1⟩ : ∃ y, xs[1]? = some y := ⟨_, List.getElem?_eq_getElem (by rw [hlen]; decide)⟩
    have g1 : DataW.trod enc Try.prog W base spare held n 22 [c1] = xs[1]? := by simpa [cellsOf_3, cellsOf_5, cellsOf_22] using hg 1 _ rfl
    obtain ⟨x1, q1, w1⟩ := cells_22 (g1.trans e1)
    simp only [List.cons.injEq, and_true] at q1
    obtain rfl := q1
    obtain ⟨y2, e2⟩ : ∃ y, xs[2]? = some y := ⟨_, List.getElem?_eq_getElem (by rw [hlen]; decide)⟩
    have g2 : DataW.trod enc Try.prog W base spare held n 3 [c2] = xs[2]? := by simpa [cellsOf_3, cellsOf_5, cellsOf_22] using hg 2 _ rfl
    obtain ⟨x2, q2, w2⟩ := cells_3 (g2.trans e2)
    simp only [List.cons.injEq, and_true] at q2
    obtain rfl := q2
    obtain ⟨y3, e3⟩ : ∃ y, xs[3]? = some y := ⟨_, List.getElem?_eq_getElem (by rw [hlen]; decide)⟩
    have g3 : DataW.trod enc Try.prog W base spare held n 5 [c3] = xs[3]? := by simpa [cellsOf_3, cellsOf_5, cellsOf_22] using hg 3 _ rfl
    obtain ⟨x3, q3, w3⟩ := cells_5 (g3.trans e3)
    simp only [List.cons.injEq, and_true] at q3
    obtain rfl := q3
    obtain ⟨y4, e4⟩ : ∃ y, xs[4]? = some y := ⟨_, List.getElem?_eq_getElem (by rw [hlen]; decide)⟩
    have g4 : DataW.trod enc Try.prog W base spare held n 22 [c4] = xs[4]? := by simpa [cellsOf_3, cellsOf_5, cellsOf_22] using hg 4 _ rfl
    obtain ⟨x4, q4, w4⟩ := cells_22 (g4.trans e4)
    simp only [List.cons.injEq, and_true] at q4
    obtain rfl := q4
    exact ⟨x0, x1, x2, x3, x4, rfl, w0, w1, w2, w3, w4⟩
theorem val_24 {H : Type} {enc : TypeId × Value → H} {W : World} {r : Reach} {b0 base : Nat} {spare : Nat → Bool} {held : Bool} {v : Value} {d : DataW H} {p : List MemPlace}
    (hv : Value.okWide Try.prog W r b0 24 v) (h : DataW.Trod enc Try.prog W base spare held 24 v d p) : ∃ (x0 : Int) (x1 : Int) (x2 : Int) (x3 : Int) (x4 : Int), v = .agg #[.int .u64 x0, .int .u64 x1, .int .i64 x2, .int .u8 x3, .int .u64 x4] ∧ (Lit.int .u64 x0).wf = true ∧ (Lit.int .u64 x1).wf = true ∧ (Lit.int .i64 x2).wf = true ∧ (Lit.int .u8 x3).wf = true ∧ (Lit.int .u64 x4).wf = true := by
  obtain ⟨cs, rfl, _⟩ := okWide_struct Try.underlying24 hv
  obtain ⟨fuel, hf⟩ := h
  obtain ⟨x0, x1, x2, x3, x4, e, w0, w1, w2, w3, w4⟩ := cells_24 hf
  refine ⟨x0, x1, x2, x3, x4, ?_, w0, w1, w2, w3, w4⟩
  have e' : cs.toList = [.int .u64 x0, .int .u64 x1, .int .i64 x2, .int .u8 x3, .int .u64 x4] := by simpa [Value.cells] using e
  rw [← Array.toArray_toList (xs := cs), e']
set_option maxRecDepth 100000 in
theorem lifted (os : Os) (started : os.Started) (H : Type) (enc : TypeId × Value → H) :
    ReturnsInHanded {} Try.checked os 3 .any (Rows.tsoTellsSpec.pre6 enc Try.prog Try.f3 Rows.tsoTellsRow.domain false) (Rows.tsoTellsSpec.post enc Try.prog Try.f3 false true false false) := by
  refine returnsInHanded_of_change_sized (C := Try.checked) own started (by kernel_rfl) Try.func3
    (ChangeSpec.witness6 (enc := enc) (C := Try.checked) false ⟨#[], #[.agg #[.int .u64 0, .int .u64 0, .int .i64 0, .int .u8 0, .int .u64 0], .int .u64 0, .int .i64 0, .int .i64 0, .int .i64 0, .slice none 0 0], []⟩ 8 (by kernel_rfl) (by kernel_rfl) (by kernel_rfl) (by kernel_rfl)) ?_
  intro W base args ds gs before hval0 hW hcnd hsz0 _
  have hval : ∀ (j : Nat) t v, Try.f3.params[j]? = some t → args[j]? = some v → Value.okWide Try.prog W .any base t v := hval0
  have hW' := hW
  obtain ⟨p, q, hA0, hV, rfl, hfz, hnd⟩ := hW
  have hA : DataW.TrodAll enc Try.prog W 0 (fun _ => true) true Try.f3.params.toList args.toList ds p := hA0
  rw [Try.params3] at hA hval
  obtain ⟨v0, vs0, d0, ds0, p0, q0, hargs, rfl, rfl, h0, r0⟩ := trodAll_cons hA
  obtain ⟨v1, vs1, d1, ds1, p1, q1, rfl, rfl, rfl, h1, r1⟩ := trodAll_cons r0
  obtain ⟨v2, vs2, d2, ds2, p2, q2, rfl, rfl, rfl, h2, r2⟩ := trodAll_cons r1
  obtain ⟨v3, vs3, d3, ds3, p3, q3, rfl, rfl, rfl, h3, r3⟩ := trodAll_cons r2
  obtain ⟨v4, vs4, d4, ds4, p4, q4, rfl, rfl, rfl, h4, r4⟩ := trodAll_cons r3
  obtain ⟨v5, vs5, d5, ds5, p5, q5, rfl, rfl, rfl, h5, r5⟩ := trodAll_cons r4
  obtain ⟨rfl, rfl, rfl⟩ := trodAll_nil r5
  obtain rfl : args = #[v0, v1, v2, v3, v4, v5] := by cases args; simp_all
  obtain ⟨rfl, rfl⟩ := trodVars_none hV
  have k0 := h0
  have lt0 : ∀ x ∈ p0, x.block < W.heap.size := by obtain ⟨m, hm⟩ := k0; exact DataW.trod_lt m _ _ _ hm
  obtain ⟨a0_0, a0_1, a0_2, a0_3, a0_4, rfl, w0_0, w0_1, w0_2, w0_3, w0_4⟩ := val_24 (hval 0 24 v0 rfl rfl) h0
  have k1 := h1
  have lt1 : ∀ x ∈ p1, x.block < W.heap.size := by obtain ⟨m, hm⟩ := k1; exact DataW.trod_lt m _ _ _ hm
  obtain ⟨a1, rfl, _, _, w1⟩ := open_int Try.underlying22 (hval 1 22 v1 rfl rfl) h1
  have k2 := h2
  have lt2 : ∀ x ∈ p2, x.block < W.heap.size := by obtain ⟨m, hm⟩ := k2; exact DataW.trod_lt m _ _ _ hm
  obtain ⟨a2, rfl, _, _, w2⟩ := open_int Try.underlying3 (hval 2 3 v2 rfl rfl) h2
  have k3 := h3
  have lt3 : ∀ x ∈ p3, x.block < W.heap.size := by obtain ⟨m, hm⟩ := k3; exact DataW.trod_lt m _ _ _ hm
  obtain ⟨a3, rfl, _, _, w3⟩ := open_int Try.underlying3 (hval 3 3 v3 rfl rfl) h3
  have k4 := h4
  have lt4 : ∀ x ∈ p4, x.block < W.heap.size := by obtain ⟨m, hm⟩ := k4; exact DataW.trod_lt m _ _ _ hm
  obtain ⟨a4, rfl, _, _, w4⟩ := open_int Try.underlying3 (hval 4 3 v4 rfl rfl) h4
  have k5 := h5
  have lt5 : ∀ x ∈ p5, x.block < W.heap.size := by obtain ⟨m, hm⟩ := k5; exact DataW.trod_lt m _ _ _ hm
  obtain ⟨l5, sv5, lo5, s5, vr5, ok5, e5, m5⟩ := slice_arg (vals := fun x : Int × Int × Int × Int × Int => [.i .u64 x.1, .i .u64 x.2.1, .i .i64 x.2.2.1, .i .u8 x.2.2.2.1, .i .u64 x.2.2.2.2]) (wf := fun x => (Lit.int .u64 x.1).wf = true ∧ (Lit.int .u64 x.2.1).wf = true ∧ (Lit.int .i64 x.2.2.1).wf = true ∧ (Lit.int .u8 x.2.2.2.1).wf = true ∧ (Lit.int .u64 x.2.2.2.2).wf = true) (fun _ => rfl) Try.underlying25 cellsOf_24 0 (fun n cs y hy => by
    obtain ⟨x0, x1, x2, x3, x4, rfl, y0, y1, y2, y3, y4⟩ := cells_24 hy
    refine ⟨(x0, x1, x2, x3, x4), ⟨y0, y1, y2, y3, y4⟩, fun j q hu => ?_⟩
    match j, hu with
    | 0, hu => cases hu; exact ⟨_, rfl, fun σ => .i _ _, rfl⟩
    | 1, hu => cases hu; exact ⟨_, rfl, fun σ => .i _ _, rfl⟩
    | 2, hu => cases hu; exact ⟨_, rfl, fun σ => .i _ _, rfl⟩
    | 3, hu => cases hu; exact ⟨_, rfl, fun σ => .i _ _, rfl⟩
    | 4, hu => cases hu; exact ⟨_, rfl, fun σ => .i _ _, rfl⟩
    | j + 5, hu => simp at hu) (hval 5 25 v5 rfl rfl) h5
  have hrel := ArgsOk.rel (W := W) (H := [.ro (l5.flatMap fun x => [.i .u64 x.1, .i .u64 x.2.1, .i .i64 x.2.2.1, .i .u8 x.2.2.2.1, .i .u64 x.2.2.2.2])]) (ls := [lo5]) ⟨ok5, trivial⟩
  refine (law_calls (fun args w => by rfl) (IR.TsoTells_sound a0_0 a0_1 a0_2 a0_3 a0_4 a1 a2 a3 a4 l5 sv5 w0_0 w0_1 w0_2 w0_3 w0_4 w1 w2 w3 w4 s5 m5 e5) hrel.2 hrel.1 (LRel.list (l := [.agg [.i .u64 a0_0, .i .u64 a0_1, .i .i64 a0_2, .i .u8 a0_3, .i .u64 a0_4], .i .u64 a1, .i .i64 a2, .i .i64 a3, .i .i64 a4, sv5]) (c := [_, _, _, _, _, _]) ⟨(aggRel (l := [.i .u64 a0_0, .i .u64 a0_1, .i .i64 a0_2, .i .u8 a0_3, .i .u64 a0_4]) (c := [.int .u64 a0_0, .int .u64 a0_1, .int .i64 a0_2, .int .u8 a0_3, .int .u64 a0_4]) ⟨.i _ _, ⟨.i _ _, ⟨.i _ _, ⟨.i _ _, ⟨.i _ _, trivial⟩⟩⟩⟩⟩), ⟨.i _ _, ⟨.i _ _, ⟨.i _ _, ⟨.i _ _, ⟨(vr5 _ rfl), trivial⟩⟩⟩⟩⟩⟩)).mono fun e W' ⟨he, h1, h2, h3, h4, h5⟩ => ?_
  have bel : Below W.heap.size W W' := ⟨h1, h2, h3, h4, h5⟩
  subst he
  exact ⟨_, rfl, _, _, _, [], _, [], hW', trodAll_mk1 (shut_bool Try.underlying4 _), (trodAll_cons_mk (Below.trod laidOut (by kernel_rfl) (of_decide_eq_true (by kernel_rfl)) k0 bel lt0) (trodAll_cons_mk (Below.trod laidOut (by kernel_rfl) (of_decide_eq_true (by kernel_rfl)) k1 bel lt1) (trodAll_cons_mk (Below.trod laidOut (by kernel_rfl) (of_decide_eq_true (by kernel_rfl)) k2 bel lt2) (trodAll_cons_mk (Below.trod laidOut (by kernel_rfl) (of_decide_eq_true (by kernel_rfl)) k3 bel lt3) (trodAll_cons_mk (Below.trod laidOut (by kernel_rfl) (of_decide_eq_true (by kernel_rfl)) k4 bel lt4) (trodAll_cons_mk (Below.trod laidOut (by kernel_rfl) (of_decide_eq_true (by kernel_rfl)) k5 bel lt5) trodAll_mk0)))))), rfl, bel.frame _, fun h => by cases h⟩
theorem over : Rows.tsoTellsRow.holds Try.pinned (OpenSpec.ofChange Rows.tsoTellsSpec) :=
  OpenClaim.holds_of_wide 3 Try.f3 rfl rfl rfl rfl rfl rfl rfl ⟨rfl, rfl, rfl, rfl, rfl⟩ rfl rfl rfl rfl rfl (by kernel_rfl) Try.func3 (by kernel_rfl)
    (of_decide_eq_true (by kernel_rfl)) (by unfold Func.isWrapper; first | (rw [if_pos (by decide +kernel)]; kernel_rfl) | (rw [if_neg (by decide +kernel)]; exact ⟨rfl, rfl⟩))
    (fun os started H enc _ => lifted os started H enc)
theorem proved : Rows.TsoTellsSaid := over
#print axioms proved
end Go.Proofs.Ytnmkbnifgmeloaa.tsoTells
namespace Go.Proofs.Ytnmkbnifgmeloaa
/-- The row, under a short name, for the claim. -/
theorem tsoTells_holds : Rows.TsoTellsSaid := tsoTells.proved
end Go.Proofs.Ytnmkbnifgmeloaa
