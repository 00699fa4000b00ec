/- One text of a proof that the law 'FlowPaced' answers true for every input: the row, out of the abstract run. No condition. -/
import Derived.Test.YtdkcgcijppmkiaaRows
import Derived.Test.YtdkcgcijppmkiaaJ12
import Derived.Test.YtdkcgcijppmkiaaEvE
import Derived.WalkKit
import Derived.ProofKit
import Derived.OpenShut
import Derived.ShutString
import Derived.ChangeOld
import Derived.Below
import Derived.SizedLaws
import Derived.Deep.Slices
import Derived.Deep.Fields
import Derived.ChangeSame
namespace Go.Proofs.Ytdkcgcijppmkiaa.flowPaced
open Go.ChangeShapes Go.WideShapes Go.ChangeAt Go.RowKit Go.Deep Go.Proofs.Ytdkcgcijppmkiaa.Ev
open Go.ChangeMaps (open_string shut_string)
set_option linter.unusedVariables false
set_option maxRecDepth 100000
theorem own : ownKnob Try.prog.godebug = none := by kernel_rfl
theorem laidOut : laidOutB Try.prog = true := by kernel_rfl
theorem cellsOf_33 : Try.prog.cellsOf 33 = 1 := by kernel_rfl
theorem cells_33 {H : Type} {enc : TypeId × Value → H} {W : World} {base : Nat} {spare : Nat → Bool} {held : Bool} {fuel : Nat} {cs : List Value} {y : DataW H × List MemPlace}
    (h : DataW.trod enc Try.prog W base spare held fuel 33 cs = some y) : ∃ (x0 : Int), cs = [.int .u16 x0] ∧ (Lit.int .u16 x0).wf = true := by
  obtain ⟨x0, q0, _, w0⟩ := DataW.trod_int Try.underlying33 h
  exact ⟨x0, q0, w0⟩
theorem cellsOf_26 : Try.prog.cellsOf 26 = 1 := by kernel_rfl
theorem cells_26 {H : Type} {enc : TypeId × Value → H} {W : World} {base : Nat} {spare : Nat → Bool} {held : Bool} {fuel : Nat} {cs : List Value} {y : DataW H × List MemPlace}
    (h : DataW.trod enc Try.prog W base spare held fuel 26 cs = some y) : ∃ (x0 : Int), cs = [.int .u32 x0] ∧ (Lit.int .u32 x0).wf = true := by
  obtain ⟨x0, q0, _, w0⟩ := DataW.trod_int Try.underlying26 h
  exact ⟨x0, q0, w0⟩
theorem cellsOf_5 : Try.prog.cellsOf 5 = 1 := by kernel_rfl
theorem cells_5 {H : Type} {enc : TypeId × Value → H} {W : World} {base : Nat} {spare : Nat → Bool} {held : Bool} {fuel : Nat} {cs : List Value} {y : DataW H × List MemPlace}
    (h : DataW.trod enc Try.prog W base spare held fuel 5 cs = some y) : ∃ (x0 : Int), cs = [.int .u8 x0] ∧ (Lit.int .u8 x0).wf = true := by
  obtain ⟨x0, q0, _, w0⟩ := DataW.trod_int Try.underlying5 h
  exact ⟨x0, q0, w0⟩
set_option maxRecDepth 100000 in
theorem lifted (os : Os) (started : os.Started) (H : Type) (enc : TypeId × Value → H) :
    ReturnsInHanded {} Try.checked os 7 .any (Rows.flowPacedSpec.pre6 enc Try.prog Try.f7 Rows.flowPacedRow.domain false) (Rows.flowPacedSpec.post enc Try.prog Try.f7 false true false false) := by
  refine returnsInHanded_of_change_sized (C := Try.checked) own started (by kernel_rfl) Try.func7
    (ChangeSpec.witness6 (enc := enc) (C := Try.checked) false ⟨#[], #[.int .u16 0, .int .u16 0, .int .u32 0, .int .u64 0, .int .u64 0, .slice none 0 0, .slice none 0 0, .slice none 0 0], []⟩ 8 (by kernel_rfl) (by kernel_rfl) (by kernel_rfl) (by kernel_rfl)) ?_
  intro W base args ds gs before hval0 hW hcnd hsz0 _
  have hval : ∀ (j : Nat) t v, Try.f7.params[j]? = some t → args[j]? = some v → Value.okWide Try.prog W .any base t v := hval0
  have hW' := hW
  obtain ⟨p, q, hA0, hV, rfl, hfz, hnd⟩ := hW
  have hA : DataW.TrodAll enc Try.prog W 0 (fun _ => true) true Try.f7.params.toList args.toList ds p := hA0
  rw [Try.params7] at hA hval
  obtain ⟨v0, vs0, d0, ds0, p0, q0, hargs, rfl, rfl, h0, r0⟩ := trodAll_cons hA
  obtain ⟨v1, vs1, d1, ds1, p1, q1, rfl, rfl, rfl, h1, r1⟩ := trodAll_cons r0
  obtain ⟨v2, vs2, d2, ds2, p2, q2, rfl, rfl, rfl, h2, r2⟩ := trodAll_cons r1
  obtain ⟨v3, vs3, d3, ds3, p3, q3, rfl, rfl, rfl, h3, r3⟩ := trodAll_cons r2
  obtain ⟨v4, vs4, d4, ds4, p4, q4, rfl, rfl, rfl, h4, r4⟩ := trodAll_cons r3
  obtain ⟨v5, vs5, d5, ds5, p5, q5, rfl, rfl, rfl, h5, r5⟩ := trodAll_cons r4
  obtain ⟨v6, vs6, d6, ds6, p6, q6, rfl, rfl, rfl, h6, r6⟩ := trodAll_cons r5
  obtain ⟨v7, vs7, d7, ds7, p7, q7, rfl, rfl, rfl, h7, r7⟩ := trodAll_cons r6
  obtain ⟨rfl, rfl, rfl⟩ := trodAll_nil r7
  obtain rfl : args = #[v0, v1, v2, v3, v4, v5, v6, v7] := by cases args; simp_all
  obtain ⟨rfl, rfl⟩ := trodVars_none hV
  have k0 := h0
  have lt0 : ∀ x ∈ p0, x.block < W.heap.size := by obtain ⟨m, hm⟩ := k0; exact DataW.trod_lt m _ _ _ hm
  obtain ⟨a0, rfl, _, _, w0⟩ := open_int Try.underlying33 (hval 0 33 v0 rfl rfl) h0
  have k1 := h1
  have lt1 : ∀ x ∈ p1, x.block < W.heap.size := by obtain ⟨m, hm⟩ := k1; exact DataW.trod_lt m _ _ _ hm
  obtain ⟨a1, rfl, _, _, w1⟩ := open_int Try.underlying33 (hval 1 33 v1 rfl rfl) h1
  have k2 := h2
  have lt2 : ∀ x ∈ p2, x.block < W.heap.size := by obtain ⟨m, hm⟩ := k2; exact DataW.trod_lt m _ _ _ hm
  obtain ⟨a2, rfl, _, _, w2⟩ := open_int Try.underlying26 (hval 2 26 v2 rfl rfl) h2
  have k3 := h3
  have lt3 : ∀ x ∈ p3, x.block < W.heap.size := by obtain ⟨m, hm⟩ := k3; exact DataW.trod_lt m _ _ _ hm
  obtain ⟨a3, rfl, _, _, w3⟩ := open_int Try.underlying22 (hval 3 22 v3 rfl rfl) h3
  have k4 := h4
  have lt4 : ∀ x ∈ p4, x.block < W.heap.size := by obtain ⟨m, hm⟩ := k4; exact DataW.trod_lt m _ _ _ hm
  obtain ⟨a4, rfl, _, _, w4⟩ := open_int Try.underlying22 (hval 4 22 v4 rfl rfl) h4
  have k5 := h5
  have lt5 : ∀ x ∈ p5, x.block < W.heap.size := by obtain ⟨m, hm⟩ := k5; exact DataW.trod_lt m _ _ _ hm
  obtain ⟨l5, sv5, lo5, s5, vr5, ok5, e5, m5⟩ := slice_arg (vals := fun x : Int => [.i .u16 x]) (wf := fun x => (Lit.int .u16 x).wf = true) (fun _ => rfl) Try.underlying25 cellsOf_33 0 (fun n cs y hy => by
    obtain ⟨x0, rfl, y0⟩ := cells_33 hy
    refine ⟨(x0), y0, fun j q hu => ?_⟩
    match j, hu with
    | 0, hu => cases hu; exact ⟨_, rfl, fun σ => .i _ _, rfl⟩
    | j + 1, hu => simp at hu) (hval 5 25 v5 rfl rfl) h5
  have k6 := h6
  have lt6 : ∀ x ∈ p6, x.block < W.heap.size := by obtain ⟨m, hm⟩ := k6; exact DataW.trod_lt m _ _ _ hm
  obtain ⟨l6, sv6, lo6, s6, vr6, ok6, e6, m6⟩ := slice_arg (vals := fun x : Int => [.i .u32 x]) (wf := fun x => (Lit.int .u32 x).wf = true) (fun _ => rfl) Try.underlying49 cellsOf_26 1 (fun n cs y hy => by
    obtain ⟨x0, rfl, y0⟩ := cells_26 hy
    refine ⟨(x0), y0, fun j q hu => ?_⟩
    match j, hu with
    | 0, hu => cases hu; exact ⟨_, rfl, fun σ => .i _ _, rfl⟩
    | j + 1, hu => simp at hu) (hval 6 49 v6 rfl rfl) h6
  have k7 := h7
  have lt7 : ∀ x ∈ p7, x.block < W.heap.size := by obtain ⟨m, hm⟩ := k7; exact DataW.trod_lt m _ _ _ hm
  obtain ⟨l7, sv7, lo7, s7, vr7, ok7, e7, m7⟩ := slice_arg (vals := fun x : Int => [.i .u8 x]) (wf := fun x => (Lit.int .u8 x).wf = true) (fun _ => rfl) Try.underlying50 cellsOf_5 2 (fun n cs y hy => by
    obtain ⟨x0, rfl, y0⟩ := cells_5 hy
    refine ⟨(x0), y0, fun j q hu => ?_⟩
    match j, hu with
    | 0, hu => cases hu; exact ⟨_, rfl, fun σ => .i _ _, rfl⟩
    | j + 1, hu => simp at hu) (hval 7 50 v7 rfl rfl) h7
  have hrel := ArgsOk.rel (W := W) (H := [.ro (l5.flatMap fun x => [.i .u16 x]), .ro (l6.flatMap fun x => [.i .u32 x]), .ro (l7.flatMap fun x => [.i .u8 x])]) (ls := [lo5, lo6, lo7]) ⟨ok5, ⟨ok6, ⟨ok7, trivial⟩⟩⟩
  refine (law_calls (fun args w => by rfl) (IR.FlowPaced_sound a0 a1 a2 a3 a4 l5 sv5 l6 sv6 l7 sv7 w0 w1 w2 w3 w4 s5 m5 e5 s6 m6 e6 s7 m7 e7) hrel.2 hrel.1 (LRel.list (l := [.i .u16 a0, .i .u16 a1, .i .u32 a2, .i .u64 a3, .i .u64 a4, sv5, sv6, sv7]) (c := [_, _, _, _, _, _, _, _]) ⟨.i _ _, ⟨.i _ _, ⟨.i _ _, ⟨.i _ _, ⟨.i _ _, ⟨(vr5 _ rfl), ⟨(vr6 _ rfl), ⟨(vr7 _ rfl), trivial⟩⟩⟩⟩⟩⟩⟩⟩)).mono fun e W' ⟨he, h1, h2, h3, h4, h5⟩ => ?_
  have bel : Below W.heap.size W W' := ⟨h1, h2, h3, h4, h5⟩
  subst he
  exact ⟨_, rfl, _, _, _, [], _, [], hW', trodAll_mk1 (shut_bool Try.underlying4 _), (trodAll_cons_mk (Below.trod laidOut (by kernel_rfl) (of_decide_eq_true (by kernel_rfl)) k0 bel lt0) (trodAll_cons_mk (Below.trod laidOut (by kernel_rfl) (of_decide_eq_true (by kernel_rfl)) k1 bel lt1) (trodAll_cons_mk (Below.trod laidOut (by kernel_rfl) (of_decide_eq_true (by kernel_rfl)) k2 bel lt2) (trodAll_cons_mk (Below.trod laidOut (by kernel_rfl) (of_decide_eq_true (by kernel_rfl)) k3 bel lt3) (trodAll_cons_mk (Below.trod laidOut (by kernel_rfl) (of_decide_eq_true (by kernel_rfl)) k4 bel lt4) (trodAll_cons_mk (Below.trod laidOut (by kernel_rfl) (of_decide_eq_true (by kernel_rfl)) k5 bel lt5) (trodAll_cons_mk (Below.trod laidOut (by kernel_rfl) (of_decide_eq_true (by kernel_rfl)) k6 bel lt6) (trodAll_cons_mk (Below.trod laidOut (by kernel_rfl) (of_decide_eq_true (by kernel_rfl)) k7 bel lt7) trodAll_mk0)))))))), rfl, bel.frame _, fun h => by cases h⟩
theorem over : Rows.flowPacedRow.holds Try.pinned (OpenSpec.ofChange Rows.flowPacedSpec) :=
  OpenClaim.holds_of_wide 7 Try.f7 rfl rfl rfl rfl rfl rfl rfl ⟨rfl, rfl, rfl, rfl, rfl⟩ rfl rfl rfl rfl rfl (by kernel_rfl) Try.func7 (by kernel_rfl)
    (of_decide_eq_true (by kernel_rfl)) (by unfold Func.isWrapper; first | (rw [if_pos (by decide +kernel)]; kernel_rfl) | (rw [if_neg (by decide +kernel)]; exact ⟨rfl, rfl⟩))
    (fun os started H enc _ => lifted os started H enc)
theorem proved : Rows.FlowPacedSaid := over
#print axioms proved
end Go.Proofs.Ytdkcgcijppmkiaa.flowPaced
namespace Go.Proofs.Ytdkcgcijppmkiaa
/-- The row, under a short name, for the claim. -/
theorem flowPaced_holds : Rows.FlowPacedSaid := flowPaced.proved
end Go.Proofs.Ytdkcgcijppmkiaa
