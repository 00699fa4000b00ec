/- One text of a proof that the law 'WheelTells' answers true for every input: the row, out of the abstract run. No condition. -/
import Derived.Test.YtmdilnelogechaaDoorRows
import Derived.Test.YtmdilnelogechaaDoorLi
import Derived.Test.YtmdilnelogechaaDoorEvE
import Derived.WalkKit
import Derived.ProofKit
import Derived.OpenShut
import Derived.ShutString
import Derived.ChangeOld
import Derived.Below
import Derived.SizedLaws
import Derived.Deep.Slices
import Derived.Deep.Fields
import Derived.ChangeSame
import Derived.Deep.DeepHandedRow
import Derived.JoinedCond
import Derived.Lib.LaidTab
import Derived.LaidLaws
import Derived.FnData
import Derived.Test.YtmdilnelogechaaDoorCards
import Derived.Test.YtmdilnelogechaaDoorTie
import Derived.SevenTiedAt
namespace Go.Proofs.YtmdilnelogechaaDoor.wheelTells
open Go.ChangeShapes Go.WideShapes Go.ChangeAt Go.RowKit Go.Deep Go.Proofs.YtmdilnelogechaaDoor.Ev
open Go.ChangeMaps (open_string shut_string)
set_option linter.unusedVariables false
set_option maxRecDepth 100000
theorem own : ownKnob Tryd.prog.godebug = none := by kernel_rfl
theorem laidOut : laidOutB Tryd.prog = true := by kernel_rfl
theorem cellsOf_31 : Tryd.prog.cellsOf 31 = 3 := by kernel_rfl
theorem cellsOf_5 : Tryd.prog.cellsOf 5 = 1 := by kernel_rfl
theorem cells_5 {H : Type} {enc : TypeId × Value → H} {W : World} {base : Nat} {spare : Nat → Bool} {held : Bool} {fuel : Nat} {cs : List Value} {y : DataW H × List MemPlace}
    (h : DataW.trod enc Tryd.prog W base spare held fuel 5 cs = some y) : ∃ (x0 : Int), cs = [.int .u8 x0] ∧ (Lit.int .u8 x0).wf = true := by
  obtain ⟨x0, q0, _, w0⟩ := DataW.trod_int Tryd.underlying5 h
  exact ⟨x0, q0, w0⟩
theorem cellsOf_25 : Tryd.prog.cellsOf 25 = 1 := by kernel_rfl
theorem cells_25 {H : Type} {enc : TypeId × Value → H} {W : World} {base : Nat} {spare : Nat → Bool} {held : Bool} {fuel : Nat} {cs : List Value} {y : DataW H × List MemPlace}
    (h : DataW.trod enc Tryd.prog W base spare held fuel 25 cs = some y) : ∃ (x0 : Int), cs = [.int .u64 x0] ∧ (Lit.int .u64 x0).wf = true := by
  obtain ⟨x0, q0, _, w0⟩ := DataW.trod_int Tryd.underlying25 h
  exact ⟨x0, q0, w0⟩
theorem cells_31 {H : Type} {enc : TypeId × Value → H} {W : World} {base : Nat} {spare : Nat → Bool} {held : Bool} {fuel : Nat} {cs : List Value} {y : DataW H × List MemPlace}
    (h : DataW.trod enc Tryd.prog W base spare held fuel 31 cs = some y) : ∃ (x0 : Int) (x1 : Int) (x2 : Int), cs = [.int .u8 x0, .int .u64 x1, .int .u64 x2] ∧ (Lit.int .u8 x0).wf = true ∧ (Lit.int .u64 x1).wf = true ∧ (Lit.int .u64 x2).wf = true := by
  obtain ⟨xs, n, _, _, hl, hlen, hg⟩ := DataW.trod_struct Tryd.underlying31 h
  have hl' : cs.length = 3 := hl.trans cellsOf_31
  match cs, hl' with
  | [c0, c1, c2], _ =>
    obtain ⟨y0, e0⟩ : ∃ y, xs[0]? = some y := ⟨_, List.getElem?_eq_getElem (by rw [hlen]; decide)⟩
    have g0 : DataW.trod enc Tryd.prog W base spare held n 5 [c0] = xs[0]? := by simpa [cellsOf_5, cellsOf_25] using hg 0 _ rfl
    obtain ⟨x0, q0, w0⟩ := cells_5 (g0.trans e0)
    simp only [List.cons.injEq, and_true] at q0
    obtain rfl := q0
    obtain ⟨y1, e1⟩ : ∃ y, xs[1]? = some y := ⟨_, List.getElem?_eq_getElem (by rw [hlen]; decide)⟩
    have g1 : DataW.trod enc Tryd.prog W base spare held n 25 [c1] = xs[1]? := by simpa [cellsOf_5, cellsOf_25] using hg 1 _ rfl
    obtain ⟨x1, q1, w1⟩ := cells_25 (g1.trans e1)
    simp only [List.cons.injEq, and_true] at q1
    obtain rfl := q1
    obtain ⟨y2, e2⟩ : ∃ y, xs[2]? = some y := ⟨_, List.getElem?_eq_getElem (by rw [hlen]; decide)⟩
    have g2 : DataW.trod enc Tryd.prog W base spare held n 25 [c2] = xs[2]? := by simpa [cellsOf_5, cellsOf_25] using hg 2 _ rfl
    obtain ⟨x2, q2, w2⟩ := cells_25 (g2.trans e2)
    simp only [List.cons.injEq, and_true] at q2
    obtain rfl := q2
    exact ⟨x0, x1, x2, rfl, w0, w1, w2⟩
def tab : List Int := [0, 1, 56, 2, 57, 49, 28, 3, 61, 58, 42, 50, 38, 29, 17, 4, 62, 47, 59, 36, 45, 43, 51, 22, 53, 39, 33, 30, 24, 18, 12, 5, 63, 55, 48, 27, 60, 41, 37, 16, 46, 35, 44, 21, 52, 32, 23, 11, 54, 26, 40, 15, 34, 20, 31, 10, 25, 14, 19, 9, 13, 8, 7, 6]
noncomputable def laidWorld (os : Os) : World :=
  let w0 := World.holding Tryd.prog os ⟨#[], #[], []⟩
  { w0 with heap := w0.heap.modify 2 fun
      | .cells _ t frozen => .cells ((tab.map fun z => Value.int .u8 z).toArray) t frozen
      | o => o }
theorem laid_met (os : Os) (args : Array Value) : laidMet Tryd.prog Rows.wheelTellsRow.laid ((laidWorld os).forCall (fun _ _ => 0) ⟨#[], args, []⟩).memory := laidMet_of_run' 8 (by kernel_rfl) (by kernel_rfl)
theorem fix_of {W : World} (h : laidMetH Tryd.prog Rows.wheelTellsRow.laid W) : FixW W := by
  have h1 : laidMet Tryd.prog (("math/bits.deBruijn64tab", Lib.tabData .u8 tab) :: []) W := h
  have ht := Lib.tabIs_of_head (g := 2) (t := 114) (e := 5) (n := 64) (by kernel_rfl) (by kernel_rfl) Tryd.underlying114 Tryd.underlying5 (by kernel_rfl) (by kernel_rfl) h1
  have hc := fun i => World.var?_cell (g := 2) (by kernel_rfl) ht i
  intro x hx
  have e : fixB = [(2, tab.map fun z => Value.int .u8 z)] := rfl
  rw [e, List.mem_singleton] at hx
  subst hx
  refine ⟨?_, fun j v hj => ?_⟩
  · have h0 := hc 0
    rcases Nat.lt_or_ge 2 W.heap.size with hlt | hge
    · exact hlt
    · simp [World.cell?, Array.getElem?_eq_none hge, tab] at h0
  · show W.cell? ⟨2, j, none⟩ = some v
    rw [hc j]; simpa using hj
set_option maxRecDepth 100000 in
theorem lifted (os : Os) (started : os.Started) (H : Type) (enc : TypeId × Value → H) (F : Stop.Interp) :
    ReturnsInHanded {} Tryd.checked os 5 .any ((OpenSpec.ofChange Rows.wheelTellsSpec).preRow enc Tryd.prog Tryd.f5 Rows.wheelTellsRow.domain false Rows.wheelTellsRow.laid) (((OpenSpec.ofChange Rows.wheelTellsSpec).at F).post enc Tryd.prog Tryd.f5 false true false false) := by
  refine returnsInHanded_of_row (C := Tryd.checked) (s := OpenSpec.ofChange Rows.wheelTellsSpec) own started (by kernel_rfl) Tryd.func5
    (witness_row_at (enc := enc) (C := Tryd.checked) false (laidWorld os) #[.int .i64 0, .int .u64 0, .int .i64 0, .slice none 0 0] rfl (by kernel_rfl) (by kernel_rfl) (by kernel_rfl) (OpenSpec.preRow_of_B rfl 8 (by kernel_rfl) (by kernel_rfl) (laid_met os _))) ?_
  intro W base args ds gs before hval0 hW hcnd _ hsz0 hL _ _
  have hval : ∀ (j : Nat) t v, Tryd.f5.params[j]? = some t → args[j]? = some v → Value.okWide Tryd.prog W .any base t v := hval0
  have hW' := hW
  obtain ⟨p, q, hA0, hV, rfl, hfz, hnd⟩ := hW
  have hA : DataW.TrodAll enc Tryd.prog W 0 (fun _ => true) true Tryd.f5.params.toList args.toList ds p := hA0
  rw [Tryd.params5] at hA hval
  obtain ⟨v0, vs0, d0, ds0, p0, q0, hargs, rfl, rfl, h0, r0⟩ := trodAll_cons hA
  obtain ⟨v1, vs1, d1, ds1, p1, q1, rfl, rfl, rfl, h1, r1⟩ := trodAll_cons r0
  obtain ⟨v2, vs2, d2, ds2, p2, q2, rfl, rfl, rfl, h2, r2⟩ := trodAll_cons r1
  obtain ⟨v3, vs3, d3, ds3, p3, q3, rfl, rfl, rfl, h3, r3⟩ := trodAll_cons r2
  obtain ⟨rfl, rfl, rfl⟩ := trodAll_nil r3
  obtain rfl : args = #[v0, v1, v2, v3] := by cases args; simp_all
  obtain ⟨rfl, rfl⟩ := trodVars_none hV
  have k0 := h0
  have lt0 : ∀ x ∈ p0, x.block < W.heap.size := by obtain ⟨m, hm⟩ := k0; exact DataW.trod_lt m _ _ _ hm
  obtain ⟨a0, rfl, _, _, w0⟩ := open_int Tryd.underlying3 (hval 0 3 v0 rfl rfl) h0
  have k1 := h1
  have lt1 : ∀ x ∈ p1, x.block < W.heap.size := by obtain ⟨m, hm⟩ := k1; exact DataW.trod_lt m _ _ _ hm
  obtain ⟨a1, rfl, _, _, w1⟩ := open_int Tryd.underlying25 (hval 1 25 v1 rfl rfl) h1
  have k2 := h2
  have lt2 : ∀ x ∈ p2, x.block < W.heap.size := by obtain ⟨m, hm⟩ := k2; exact DataW.trod_lt m _ _ _ hm
  obtain ⟨a2, rfl, _, _, w2⟩ := open_int Tryd.underlying3 (hval 2 3 v2 rfl rfl) h2
  have k3 := h3
  have lt3 : ∀ x ∈ p3, x.block < W.heap.size := by obtain ⟨m, hm⟩ := k3; exact DataW.trod_lt m _ _ _ hm
  obtain ⟨l3, sv3, lo3, s3, vr3, ok3, e3, m3⟩ := slice_arg (vals := fun x : Int × Int × Int => [.i .u8 x.1, .i .u64 x.2.1, .i .u64 x.2.2]) (wf := fun x => (Lit.int .u8 x.1).wf = true ∧ (Lit.int .u64 x.2.1).wf = true ∧ (Lit.int .u64 x.2.2).wf = true) (fun _ => rfl) Tryd.underlying23 cellsOf_31 0 (fun n cs y hy => by
    obtain ⟨x0, x1, x2, rfl, y0, y1, y2⟩ := cells_31 hy
    refine ⟨(x0, x1, x2), ⟨y0, y1, y2⟩, fun j q hu => ?_⟩
    match j, hu with
    | 0, hu => cases hu; exact ⟨_, rfl, fun σ => .i _ _, rfl⟩
    | 1, hu => cases hu; exact ⟨_, rfl, fun σ => .i _ _, rfl⟩
    | 2, hu => cases hu; exact ⟨_, rfl, fun σ => .i _ _, rfl⟩
    | j + 3, hu => simp at hu) (hval 3 23 v3 rfl rfl) h3
  have hrel := ArgsOk.rel (W := W) (H := [.ro (l3.flatMap fun x => [.i .u8 x.1, .i .u64 x.2.1, .i .u64 x.2.2])]) (ls := [lo3]) ⟨ok3, trivial⟩ (fix_of hL)
  refine (law_calls (fun args w => by rfl) (IR.WheelTells_sound a0 a1 a2 l3 sv3 w0 w1 w2 s3 m3 e3) hrel.2 hrel.1 (LRel.list (l := [.i .i64 a0, .i .u64 a1, .i .i64 a2, sv3]) (c := [_, _, _, _]) ⟨.i _ _, ⟨.i _ _, ⟨.i _ _, ⟨(vr3 _ rfl), trivial⟩⟩⟩⟩)).mono fun e W' ⟨he, h1, h2, h3, h4, h5⟩ => ?_
  have bel : Below W.heap.size W W' := ⟨h1, h2, h3, h4, h5⟩
  subst he
  exact ⟨_, rfl, _, _, _, [], _, [], hW', trodAll_mk1 (shut_bool Tryd.underlying4 _), (trodAll_cons_mk (Below.trod laidOut (by kernel_rfl) (of_decide_eq_true (by kernel_rfl)) k0 bel lt0) (trodAll_cons_mk (Below.trod laidOut (by kernel_rfl) (of_decide_eq_true (by kernel_rfl)) k1 bel lt1) (trodAll_cons_mk (Below.trod laidOut (by kernel_rfl) (of_decide_eq_true (by kernel_rfl)) k2 bel lt2) (trodAll_cons_mk (Below.trod laidOut (by kernel_rfl) (of_decide_eq_true (by kernel_rfl)) k3 bel lt3) trodAll_mk0)))), rfl, bel.frame _, fun h => by cases h⟩
theorem over : Rows.wheelTellsRow.holds Tryd.pinned (OpenSpec.ofChange Rows.wheelTellsSpec) :=
  OpenClaim.holds_of_cond 5 Tryd.f5 rfl rfl rfl rfl rfl rfl rfl ⟨rfl, rfl, rfl, rfl, rfl⟩ rfl rfl rfl rfl rfl (by kernel_rfl) Tryd.func5 (by kernel_rfl)
    (of_decide_eq_true (by kernel_rfl)) (by unfold Func.isWrapper; first | (rw [if_pos (by decide +kernel)]; kernel_rfl) | (rw [if_neg (by decide +kernel)]; exact ⟨rfl, rfl⟩))
    (fun os started H enc _ F0 => by rw [OpenClaim.pre_eq_preRow]; exact lifted os started H enc F0)
theorem proved : Rows.WheelTellsCardSaid :=
  Claim7.holds_tied_plain_at .later [] [.data] true (true, "e24a1ab73c98abba03daf1ab0f579a40fed70e99cddc77932fc20de4d4c9396e") false
    over (fun _ h => by cases h) (by kernel_rfl) (fun _ h => by cases h) wheelTells_row_tie rfl ⟨rfl, rfl⟩ (by kernel_rfl) rfl
    (fun f fn hf hfn => by
      obtain rfl : f = 5 := Option.some.inj ((show Tryd.prog.funcNamed "sandglass/sandglasslaw09.WheelTells" = some 5 by kernel_rfl).symm.trans hf) |>.symm
      obtain rfl : fn = Tryd.f5 := (Option.some.inj (Tryd.func5.symm.trans hfn)).symm
      exact ⟨by kernel_rfl, fun j t ht => by
          rw [Tryd.params5] at ht
          rcases j with _ | j
          · obtain rfl : 3 = t := by simpa using ht
            exact (show Tryd.prog.wantsStandIn 3 = false by kernel_rfl)
          rcases j with _ | j
          · obtain rfl : 25 = t := by simpa using ht
            exact (show Tryd.prog.wantsStandIn 25 = false by kernel_rfl)
          rcases j with _ | j
          · obtain rfl : 3 = t := by simpa using ht
            exact (show Tryd.prog.wantsStandIn 3 = false by kernel_rfl)
          rcases j with _ | j
          · obtain rfl : 23 = t := by simpa using ht
            exact (show Tryd.prog.wantsStandIn 23 = false by kernel_rfl)
          simp at ht⟩)
    (by kernel_rfl)
#print axioms proved
end Go.Proofs.YtmdilnelogechaaDoor.wheelTells
namespace Go.Proofs.YtmdilnelogechaaDoor
/-- The row, under a short name, for the claim. -/
theorem wheelTells_holds : Rows.WheelTellsCardSaid := wheelTells.proved
end Go.Proofs.YtmdilnelogechaaDoor
