/- One text of a proof that a law answers true for every input. No condition. Printed by p2.py (wip/tools of this repo), which drives the print of the kit; Lean checks it. -/
import Derived.Test.YtdkcgcijppmkiaaPFlowx0
import Derived.Test.YtdkcgcijppmkiaaPFlowx1
import Derived.Test.YtdkcgcijppmkiaaPFlowx2
import Derived.Test.YtdkcgcijppmkiaaPFlowx4
import Derived.Test.YtdkcgcijppmkiaaPFlowx5
namespace Go.Proofs.Ytdkcgcijppmkiaa.PFlow
open Go.RowKit Go.Proofs.Ytdkcgcijppmkiaa.Ext Go.Proofs.YtdkcgcijppmkiaaW.PrintWords Go.Proofs.YtdkcgcijppmkiaaW.PrintLast Go.Proofs.YtdkcgcijppmkiaaW.PrintMore
attribute [local go_sem] max2_int min2_int max_two min_two max_three min_three max_four min_four   -- for this text's walks alone
set_option linter.unusedVariables false
set_option linter.unusedSimpArgs false

attribute [local go_sem high] eqA30
/-! ### sandglasslaw12_FlowWrong: function 4 -/
def sandglasslaw12_FlowWrong.j0 : Nat → Int → Int → Int → Bool → Int → Int → Int → Int → Int → Int → Int → Int → Int → Int → Int → Int → Option (Bool)
  | 0, _, _, _, _, _, _, _, _, _, _, _, _, _, _, _, _ => none
  | k + 1, x1, x2, x4, x52, x254000, x254001, x254002, x254003, x254004, x264000, x264001, x264002, x264003, x264004, x264005, x264006 => if x52 = true then (none) else ((flow_Fill.f x264000 x264001 x264002 x264003 x264004 x264005 x264006 x254000 x254001 x254002 x254003 x254004).bind fun bt273 => (if (x264000 == x1 && (x264001 == x2 && (x264002 == 0 && (x264003 == x254001 && (x264004 == 0 && (x264005 == 0 && (x264006 == 0))))))) = true then (if (bt273.1 == x264000 && (bt273.2.1 == x264001 && (bt273.2.2.1 == x264002 && ((wrap64 (bt273.2.2.2.1 - x254000)) == x264003 && (bt273.2.2.2.2.1 == x264004 && (bt273.2.2.2.2.2.1 == x264005 && (bt273.2.2.2.2.2.2 == x264006))))))) = true then ((flow_Ready.f x264000 x264001 x264002 x264003 x264004 x264005 x264006 x4).bind fun t281 => (if t281 = x4 then ((sandglasslaw12_awake.f k).bind fun t282 => (some t282)) else (none))) else (none)) else (none)))
def sandglasslaw12_FlowWrong.f (k : Nat) (a0_0 : Int) (a0_1 : Int) (a0_2 : Int) (a0_3 : Int) (a0_4 : Int) (a1 : Int) (a2 : Int) (a3 : Int) (a4 : Int) : Option (Bool) := (flow_Right.f a0_0 a0_1 a0_2 a0_3 a0_4).bind fun t254 => (if t254 = true then ((flow_Born.f a1 a2 a0_0 a0_1 a0_2 a0_3 a0_4).bind fun bt256 => ((flow_Charge.f k bt256.1 bt256.2.1 bt256.2.2.1 bt256.2.2.2.1 bt256.2.2.2.2.1 bt256.2.2.2.2.2.1 bt256.2.2.2.2.2.2 a3 a4 a0_0 a0_1 a0_2 a0_3 a0_4).bind fun bt264 => (if a3 ≥ 1 then (if ((bt264.2.2.2.2.2.2.2 == 0) != (decide (a3 ≤ 65536))) = true then (sandglasslaw12_FlowWrong.j0 k a1 a2 a4 true a0_0 a0_1 a0_2 a0_3 a0_4 bt256.1 bt256.2.1 bt256.2.2.1 bt256.2.2.2.1 bt256.2.2.2.2.1 bt256.2.2.2.2.2.1 bt256.2.2.2.2.2.2) else (if bt264.2.2.2.2.2.2.2 = 0 then (sandglasslaw12_FlowWrong.j0 k a1 a2 a4 false a0_0 a0_1 a0_2 a0_3 a0_4 bt256.1 bt256.2.1 bt256.2.2.1 bt256.2.2.2.1 bt256.2.2.2.2.1 bt256.2.2.2.2.2.1 bt256.2.2.2.2.2.2) else (if bt264.2.2.2.2.2.2.2 = 2 then (sandglasslaw12_FlowWrong.j0 k a1 a2 a4 (!(bt264.1 == bt256.1) || (!(bt264.2.1 == bt256.2.1) || (!(bt264.2.2.1 == bt256.2.2.1) || (!(bt264.2.2.2.1 == bt256.2.2.2.1) || (!(bt264.2.2.2.2.1 == bt256.2.2.2.2.1) || (!(bt264.2.2.2.2.2.1 == bt256.2.2.2.2.2.1) || (!(bt264.2.2.2.2.2.2.1 == bt256.2.2.2.2.2.2)))))))) a0_0 a0_1 a0_2 a0_3 a0_4 bt256.1 bt256.2.1 bt256.2.2.1 bt256.2.2.2.1 bt256.2.2.2.2.1 bt256.2.2.2.2.2.1 bt256.2.2.2.2.2.2) else (sandglasslaw12_FlowWrong.j0 k a1 a2 a4 true a0_0 a0_1 a0_2 a0_3 a0_4 bt256.1 bt256.2.1 bt256.2.2.1 bt256.2.2.2.1 bt256.2.2.2.2.1 bt256.2.2.2.2.2.1 bt256.2.2.2.2.2.2)))) else (if ((bt264.2.2.2.2.2.2.2 == 0) != false) = true then (sandglasslaw12_FlowWrong.j0 k a1 a2 a4 true a0_0 a0_1 a0_2 a0_3 a0_4 bt256.1 bt256.2.1 bt256.2.2.1 bt256.2.2.2.1 bt256.2.2.2.2.1 bt256.2.2.2.2.2.1 bt256.2.2.2.2.2.2) else (if bt264.2.2.2.2.2.2.2 = 0 then (sandglasslaw12_FlowWrong.j0 k a1 a2 a4 false a0_0 a0_1 a0_2 a0_3 a0_4 bt256.1 bt256.2.1 bt256.2.2.1 bt256.2.2.2.1 bt256.2.2.2.2.1 bt256.2.2.2.2.2.1 bt256.2.2.2.2.2.2) else (if bt264.2.2.2.2.2.2.2 = 2 then (sandglasslaw12_FlowWrong.j0 k a1 a2 a4 (!(bt264.1 == bt256.1) || (!(bt264.2.1 == bt256.2.1) || (!(bt264.2.2.1 == bt256.2.2.1) || (!(bt264.2.2.2.1 == bt256.2.2.2.1) || (!(bt264.2.2.2.2.1 == bt256.2.2.2.2.1) || (!(bt264.2.2.2.2.2.1 == bt256.2.2.2.2.2.1) || (!(bt264.2.2.2.2.2.2.1 == bt256.2.2.2.2.2.2)))))))) a0_0 a0_1 a0_2 a0_3 a0_4 bt256.1 bt256.2.1 bt256.2.2.1 bt256.2.2.2.1 bt256.2.2.2.2.1 bt256.2.2.2.2.2.1 bt256.2.2.2.2.2.2) else (sandglasslaw12_FlowWrong.j0 k a1 a2 a4 true a0_0 a0_1 a0_2 a0_3 a0_4 bt256.1 bt256.2.1 bt256.2.2.1 bt256.2.2.2.1 bt256.2.2.2.2.1 bt256.2.2.2.2.2.1 bt256.2.2.2.2.2.2))))))) else ((sandglasslaw12_awake.f k).bind fun t255 => (some t255)))
theorem sandglasslaw12_FlowWrong.mono_l : ∀ k, (∀ y0 y1 y2 y3 y4 y5 y6 y7 y8 y9 y10 y11 y12 y13 y14 y15, LeO (sandglasslaw12_FlowWrong.j0 k y0 y1 y2 y3 y4 y5 y6 y7 y8 y9 y10 y11 y12 y13 y14 y15) (sandglasslaw12_FlowWrong.j0 (k + 1) y0 y1 y2 y3 y4 y5 y6 y7 y8 y9 y10 y11 y12 y13 y14 y15))
  | 0 => fun _ _ _ _ _ _ _ _ _ _ _ _ _ _ _ _ r h => by simp [sandglasslaw12_FlowWrong.j0] at h
  | k + 1 => by
    have ih0 := sandglasslaw12_FlowWrong.mono_l k
    · intro y0 y1 y2 y3 y4 y5 y6 y7 y8 y9 y10 y11 y12 y13 y14 y15
      unfold sandglasslaw12_FlowWrong.j0
      repeat' first
      | (with_reducible exact ih0 _ _ _ _ _ _ _ _ _ _ _ _ _ _ _ _)
      | (with_reducible exact flow_Charge.mono _ _ _ _ _ _ _ _ _ _ _ _ _ _ _)
      | (with_reducible exact sandglasslaw12_awake.mono _)
      | (with_reducible exact LeO.refl _)
      | (with_reducible exact LeO.none _)
      | (with_reducible refine LeO.ite ?_ ?_)
      | (with_reducible refine LeO.bind ?_ (fun _ => ?_))
      | exact ih0 _ _ _ _ _ _ _ _ _ _ _ _ _ _ _ _
      | exact flow_Charge.mono _ _ _ _ _ _ _ _ _ _ _ _ _ _ _
      | exact sandglasslaw12_awake.mono _
      | exact LeO.none _
      | refine LeO.ite ?_ ?_
      | refine LeO.bind ?_ (fun _ => ?_)
theorem sandglasslaw12_FlowWrong.mono : ∀ a0 a1 a2 a3 a4 a5 a6 a7 a8 k, LeO (sandglasslaw12_FlowWrong.f k a0 a1 a2 a3 a4 a5 a6 a7 a8) (sandglasslaw12_FlowWrong.f (k + 1) a0 a1 a2 a3 a4 a5 a6 a7 a8) := by
  intro a0 a1 a2 a3 a4 a5 a6 a7 a8 k
  have ih0 := sandglasslaw12_FlowWrong.mono_l k
  unfold sandglasslaw12_FlowWrong.f
  repeat' first
      | (with_reducible exact ih0 _ _ _ _ _ _ _ _ _ _ _ _ _ _ _ _)
      | (with_reducible exact flow_Charge.mono _ _ _ _ _ _ _ _ _ _ _ _ _ _ _)
      | (with_reducible exact sandglasslaw12_awake.mono _)
      | (with_reducible exact LeO.refl _)
      | (with_reducible exact LeO.none _)
      | (with_reducible refine LeO.ite ?_ ?_)
      | (with_reducible refine LeO.bind ?_ (fun _ => ?_))
      | exact ih0 _ _ _ _ _ _ _ _ _ _ _ _ _ _ _ _
      | exact flow_Charge.mono _ _ _ _ _ _ _ _ _ _ _ _ _ _ _
      | exact sandglasslaw12_awake.mono _
      | exact LeO.none _
      | refine LeO.ite ?_ ?_
      | refine LeO.bind ?_ (fun _ => ?_)
set_option maxHeartbeats 8000000 in
set_option maxRecDepth 100000 in
theorem sandglasslaw12_FlowWrong.calls (k : Nat) (a0_0 : Int) (a0_1 : Int) (a0_2 : Int) (a0_3 : Int) (a0_4 : Int) (a1 : Int) (a2 : Int) (a3 : Int) (a4 : Int) (r : Bool) (w : World) (h : sandglasslaw12_FlowWrong.f k a0_0 a0_1 a0_2 a0_3 a0_4 a1 a2 a3 a4 = some r) :
    Calls Try.prog 4 #[.agg #[.int .i64 a0_0, .int .i64 a0_1, .int .u64 a0_2, .int .u64 a0_3, .int .u64 a0_4], .int .u64 a1, .int .u64 a2, .int .i64 a3, .int .u64 a4] w fun e w' => e = .returned (.bool r) ∧ Below w.heap.size w w' := by
  have hu24 := Try.underlying24
  have hu30 := Try.underlying30
  have HB := Aside0.mk (Below.refl w.heap.size w)
  have H : ((flow_Right.f a0_0 a0_1 a0_2 a0_3 a0_4).bind fun t254 => (if t254 = true then ((flow_Born.f a1 a2 a0_0 a0_1 a0_2 a0_3 a0_4).bind fun bt256 => ((flow_Charge.f k bt256.1 bt256.2.1 bt256.2.2.1 bt256.2.2.2.1 bt256.2.2.2.2.1 bt256.2.2.2.2.2.1 bt256.2.2.2.2.2.2 a3 a4 a0_0 a0_1 a0_2 a0_3 a0_4).bind fun bt264 => (if a3 ≥ 1 then (if ((bt264.2.2.2.2.2.2.2 == 0) != (decide (a3 ≤ 65536))) = true then (sandglasslaw12_FlowWrong.j0 k a1 a2 a4 true a0_0 a0_1 a0_2 a0_3 a0_4 bt256.1 bt256.2.1 bt256.2.2.1 bt256.2.2.2.1 bt256.2.2.2.2.1 bt256.2.2.2.2.2.1 bt256.2.2.2.2.2.2) else (if bt264.2.2.2.2.2.2.2 = 0 then (sandglasslaw12_FlowWrong.j0 k a1 a2 a4 false a0_0 a0_1 a0_2 a0_3 a0_4 bt256.1 bt256.2.1 bt256.2.2.1 bt256.2.2.2.1 bt256.2.2.2.2.1 bt256.2.2.2.2.2.1 bt256.2.2.2.2.2.2) else (if bt264.2.2.2.2.2.2.2 = 2 then (sandglasslaw12_FlowWrong.j0 k a1 a2 a4 (!(bt264.1 == bt256.1) || (!(bt264.2.1 == bt256.2.1) || (!(bt264.2.2.1 == bt256.2.2.1) || (!(bt264.2.2.2.1 == bt256.2.2.2.1) || (!(bt264.2.2.2.2.1 == bt256.2.2.2.2.1) || (!(bt264.2.2.2.2.2.1 == bt256.2.2.2.2.2.1) || (!(bt264.2.2.2.2.2.2.1 == bt256.2.2.2.2.2.2)))))))) a0_0 a0_1 a0_2 a0_3 a0_4 bt256.1 bt256.2.1 bt256.2.2.1 bt256.2.2.2.1 bt256.2.2.2.2.1 bt256.2.2.2.2.2.1 bt256.2.2.2.2.2.2) else (sandglasslaw12_FlowWrong.j0 k a1 a2 a4 true a0_0 a0_1 a0_2 a0_3 a0_4 bt256.1 bt256.2.1 bt256.2.2.1 bt256.2.2.2.1 bt256.2.2.2.2.1 bt256.2.2.2.2.2.1 bt256.2.2.2.2.2.2)))) else (if ((bt264.2.2.2.2.2.2.2 == 0) != false) = true then (sandglasslaw12_FlowWrong.j0 k a1 a2 a4 true a0_0 a0_1 a0_2 a0_3 a0_4 bt256.1 bt256.2.1 bt256.2.2.1 bt256.2.2.2.1 bt256.2.2.2.2.1 bt256.2.2.2.2.2.1 bt256.2.2.2.2.2.2) else (if bt264.2.2.2.2.2.2.2 = 0 then (sandglasslaw12_FlowWrong.j0 k a1 a2 a4 false a0_0 a0_1 a0_2 a0_3 a0_4 bt256.1 bt256.2.1 bt256.2.2.1 bt256.2.2.2.1 bt256.2.2.2.2.1 bt256.2.2.2.2.2.1 bt256.2.2.2.2.2.2) else (if bt264.2.2.2.2.2.2.2 = 2 then (sandglasslaw12_FlowWrong.j0 k a1 a2 a4 (!(bt264.1 == bt256.1) || (!(bt264.2.1 == bt256.2.1) || (!(bt264.2.2.1 == bt256.2.2.1) || (!(bt264.2.2.2.1 == bt256.2.2.2.1) || (!(bt264.2.2.2.2.1 == bt256.2.2.2.2.1) || (!(bt264.2.2.2.2.2.1 == bt256.2.2.2.2.2.1) || (!(bt264.2.2.2.2.2.2.1 == bt256.2.2.2.2.2.2)))))))) a0_0 a0_1 a0_2 a0_3 a0_4 bt256.1 bt256.2.1 bt256.2.2.1 bt256.2.2.2.1 bt256.2.2.2.2.1 bt256.2.2.2.2.2.1 bt256.2.2.2.2.2.2) else (sandglasslaw12_FlowWrong.j0 k a1 a2 a4 true a0_0 a0_1 a0_2 a0_3 a0_4 bt256.1 bt256.2.1 bt256.2.2.1 bt256.2.2.2.1 bt256.2.2.2.2.1 bt256.2.2.2.2.2.1 bt256.2.2.2.2.2.2))))))) else ((sandglasslaw12_awake.f k).bind fun t255 => (some t255)))) = some r := h
  clear h
  replace H := Option.bind_eq_some_iff.mp H
  obtain ⟨t254, A60, H⟩ := H
  replace H : (if t254 = true then ((flow_Born.f a1 a2 a0_0 a0_1 a0_2 a0_3 a0_4).bind fun bt256 => ((flow_Charge.f k bt256.1 bt256.2.1 bt256.2.2.1 bt256.2.2.2.1 bt256.2.2.2.2.1 bt256.2.2.2.2.2.1 bt256.2.2.2.2.2.2 a3 a4 a0_0 a0_1 a0_2 a0_3 a0_4).bind fun bt264 => (if a3 ≥ 1 then (if ((bt264.2.2.2.2.2.2.2 == 0) != (decide (a3 ≤ 65536))) = true then (sandglasslaw12_FlowWrong.j0 k a1 a2 a4 true a0_0 a0_1 a0_2 a0_3 a0_4 bt256.1 bt256.2.1 bt256.2.2.1 bt256.2.2.2.1 bt256.2.2.2.2.1 bt256.2.2.2.2.2.1 bt256.2.2.2.2.2.2) else (if bt264.2.2.2.2.2.2.2 = 0 then (sandglasslaw12_FlowWrong.j0 k a1 a2 a4 false a0_0 a0_1 a0_2 a0_3 a0_4 bt256.1 bt256.2.1 bt256.2.2.1 bt256.2.2.2.1 bt256.2.2.2.2.1 bt256.2.2.2.2.2.1 bt256.2.2.2.2.2.2) else (if bt264.2.2.2.2.2.2.2 = 2 then (sandglasslaw12_FlowWrong.j0 k a1 a2 a4 (!(bt264.1 == bt256.1) || (!(bt264.2.1 == bt256.2.1) || (!(bt264.2.2.1 == bt256.2.2.1) || (!(bt264.2.2.2.1 == bt256.2.2.2.1) || (!(bt264.2.2.2.2.1 == bt256.2.2.2.2.1) || (!(bt264.2.2.2.2.2.1 == bt256.2.2.2.2.2.1) || (!(bt264.2.2.2.2.2.2.1 == bt256.2.2.2.2.2.2)))))))) a0_0 a0_1 a0_2 a0_3 a0_4 bt256.1 bt256.2.1 bt256.2.2.1 bt256.2.2.2.1 bt256.2.2.2.2.1 bt256.2.2.2.2.2.1 bt256.2.2.2.2.2.2) else (sandglasslaw12_FlowWrong.j0 k a1 a2 a4 true a0_0 a0_1 a0_2 a0_3 a0_4 bt256.1 bt256.2.1 bt256.2.2.1 bt256.2.2.2.1 bt256.2.2.2.2.1 bt256.2.2.2.2.2.1 bt256.2.2.2.2.2.2)))) else (if ((bt264.2.2.2.2.2.2.2 == 0) != false) = true then (sandglasslaw12_FlowWrong.j0 k a1 a2 a4 true a0_0 a0_1 a0_2 a0_3 a0_4 bt256.1 bt256.2.1 bt256.2.2.1 bt256.2.2.2.1 bt256.2.2.2.2.1 bt256.2.2.2.2.2.1 bt256.2.2.2.2.2.2) else (if bt264.2.2.2.2.2.2.2 = 0 then (sandglasslaw12_FlowWrong.j0 k a1 a2 a4 false a0_0 a0_1 a0_2 a0_3 a0_4 bt256.1 bt256.2.1 bt256.2.2.1 bt256.2.2.2.1 bt256.2.2.2.2.1 bt256.2.2.2.2.2.1 bt256.2.2.2.2.2.2) else (if bt264.2.2.2.2.2.2.2 = 2 then (sandglasslaw12_FlowWrong.j0 k a1 a2 a4 (!(bt264.1 == bt256.1) || (!(bt264.2.1 == bt256.2.1) || (!(bt264.2.2.1 == bt256.2.2.1) || (!(bt264.2.2.2.1 == bt256.2.2.2.1) || (!(bt264.2.2.2.2.1 == bt256.2.2.2.2.1) || (!(bt264.2.2.2.2.2.1 == bt256.2.2.2.2.2.1) || (!(bt264.2.2.2.2.2.2.1 == bt256.2.2.2.2.2.2)))))))) a0_0 a0_1 a0_2 a0_3 a0_4 bt256.1 bt256.2.1 bt256.2.2.1 bt256.2.2.2.1 bt256.2.2.2.2.1 bt256.2.2.2.2.2.1 bt256.2.2.2.2.2.2) else (sandglasslaw12_FlowWrong.j0 k a1 a2 a4 true a0_0 a0_1 a0_2 a0_3 a0_4 bt256.1 bt256.2.1 bt256.2.2.1 bt256.2.2.2.1 bt256.2.2.2.2.1 bt256.2.2.2.2.2.1 bt256.2.2.2.2.2.2))))))) else ((sandglasslaw12_awake.f k).bind fun t255 => (some t255))) = some r := H
  have A6 := Aside0.mk A60
  clear A60
  by_cases c7 : t254 = true
  · subst c7
    have H1 : ((flow_Born.f a1 a2 a0_0 a0_1 a0_2 a0_3 a0_4).bind fun bt256 => ((flow_Charge.f k bt256.1 bt256.2.1 bt256.2.2.1 bt256.2.2.2.1 bt256.2.2.2.2.1 bt256.2.2.2.2.2.1 bt256.2.2.2.2.2.2 a3 a4 a0_0 a0_1 a0_2 a0_3 a0_4).bind fun bt264 => (if a3 ≥ 1 then (if ((bt264.2.2.2.2.2.2.2 == 0) != (decide (a3 ≤ 65536))) = true then (sandglasslaw12_FlowWrong.j0 k a1 a2 a4 true a0_0 a0_1 a0_2 a0_3 a0_4 bt256.1 bt256.2.1 bt256.2.2.1 bt256.2.2.2.1 bt256.2.2.2.2.1 bt256.2.2.2.2.2.1 bt256.2.2.2.2.2.2) else (if bt264.2.2.2.2.2.2.2 = 0 then (sandglasslaw12_FlowWrong.j0 k a1 a2 a4 false a0_0 a0_1 a0_2 a0_3 a0_4 bt256.1 bt256.2.1 bt256.2.2.1 bt256.2.2.2.1 bt256.2.2.2.2.1 bt256.2.2.2.2.2.1 bt256.2.2.2.2.2.2) else (if bt264.2.2.2.2.2.2.2 = 2 then (sandglasslaw12_FlowWrong.j0 k a1 a2 a4 (!(bt264.1 == bt256.1) || (!(bt264.2.1 == bt256.2.1) || (!(bt264.2.2.1 == bt256.2.2.1) || (!(bt264.2.2.2.1 == bt256.2.2.2.1) || (!(bt264.2.2.2.2.1 == bt256.2.2.2.2.1) || (!(bt264.2.2.2.2.2.1 == bt256.2.2.2.2.2.1) || (!(bt264.2.2.2.2.2.2.1 == bt256.2.2.2.2.2.2)))))))) a0_0 a0_1 a0_2 a0_3 a0_4 bt256.1 bt256.2.1 bt256.2.2.1 bt256.2.2.2.1 bt256.2.2.2.2.1 bt256.2.2.2.2.2.1 bt256.2.2.2.2.2.2) else (sandglasslaw12_FlowWrong.j0 k a1 a2 a4 true a0_0 a0_1 a0_2 a0_3 a0_4 bt256.1 bt256.2.1 bt256.2.2.1 bt256.2.2.2.1 bt256.2.2.2.2.1 bt256.2.2.2.2.2.1 bt256.2.2.2.2.2.2)))) else (if ((bt264.2.2.2.2.2.2.2 == 0) != false) = true then (sandglasslaw12_FlowWrong.j0 k a1 a2 a4 true a0_0 a0_1 a0_2 a0_3 a0_4 bt256.1 bt256.2.1 bt256.2.2.1 bt256.2.2.2.1 bt256.2.2.2.2.1 bt256.2.2.2.2.2.1 bt256.2.2.2.2.2.2) else (if bt264.2.2.2.2.2.2.2 = 0 then (sandglasslaw12_FlowWrong.j0 k a1 a2 a4 false a0_0 a0_1 a0_2 a0_3 a0_4 bt256.1 bt256.2.1 bt256.2.2.1 bt256.2.2.2.1 bt256.2.2.2.2.1 bt256.2.2.2.2.2.1 bt256.2.2.2.2.2.2) else (if bt264.2.2.2.2.2.2.2 = 2 then (sandglasslaw12_FlowWrong.j0 k a1 a2 a4 (!(bt264.1 == bt256.1) || (!(bt264.2.1 == bt256.2.1) || (!(bt264.2.2.1 == bt256.2.2.1) || (!(bt264.2.2.2.1 == bt256.2.2.2.1) || (!(bt264.2.2.2.2.1 == bt256.2.2.2.2.1) || (!(bt264.2.2.2.2.2.1 == bt256.2.2.2.2.2.1) || (!(bt264.2.2.2.2.2.2.1 == bt256.2.2.2.2.2.2)))))))) a0_0 a0_1 a0_2 a0_3 a0_4 bt256.1 bt256.2.1 bt256.2.2.1 bt256.2.2.2.1 bt256.2.2.2.2.1 bt256.2.2.2.2.2.1 bt256.2.2.2.2.2.2) else (sandglasslaw12_FlowWrong.j0 k a1 a2 a4 true a0_0 a0_1 a0_2 a0_3 a0_4 bt256.1 bt256.2.1 bt256.2.2.1 bt256.2.2.2.1 bt256.2.2.2.2.1 bt256.2.2.2.2.2.1 bt256.2.2.2.2.2.2))))))) = some r := by rw [if_pos rfl] at H; exact H
    clear H
    have H := H1
    clear H1
    replace H := Option.bind_eq_some_iff.mp H
    obtain ⟨⟨t256, t257, t258, t259, t260, t261, t262⟩, A80, H⟩ := H
    replace H : ((flow_Charge.f k t256 t257 t258 t259 t260 t261 t262 a3 a4 a0_0 a0_1 a0_2 a0_3 a0_4).bind fun bt264 => (if a3 ≥ 1 then (if ((bt264.2.2.2.2.2.2.2 == 0) != (decide (a3 ≤ 65536))) = true then (sandglasslaw12_FlowWrong.j0 k a1 a2 a4 true a0_0 a0_1 a0_2 a0_3 a0_4 t256 t257 t258 t259 t260 t261 t262) else (if bt264.2.2.2.2.2.2.2 = 0 then (sandglasslaw12_FlowWrong.j0 k a1 a2 a4 false a0_0 a0_1 a0_2 a0_3 a0_4 t256 t257 t258 t259 t260 t261 t262) else (if bt264.2.2.2.2.2.2.2 = 2 then (sandglasslaw12_FlowWrong.j0 k a1 a2 a4 (!(bt264.1 == t256) || (!(bt264.2.1 == t257) || (!(bt264.2.2.1 == t258) || (!(bt264.2.2.2.1 == t259) || (!(bt264.2.2.2.2.1 == t260) || (!(bt264.2.2.2.2.2.1 == t261) || (!(bt264.2.2.2.2.2.2.1 == t262)))))))) a0_0 a0_1 a0_2 a0_3 a0_4 t256 t257 t258 t259 t260 t261 t262) else (sandglasslaw12_FlowWrong.j0 k a1 a2 a4 true a0_0 a0_1 a0_2 a0_3 a0_4 t256 t257 t258 t259 t260 t261 t262)))) else (if ((bt264.2.2.2.2.2.2.2 == 0) != false) = true then (sandglasslaw12_FlowWrong.j0 k a1 a2 a4 true a0_0 a0_1 a0_2 a0_3 a0_4 t256 t257 t258 t259 t260 t261 t262) else (if bt264.2.2.2.2.2.2.2 = 0 then (sandglasslaw12_FlowWrong.j0 k a1 a2 a4 false a0_0 a0_1 a0_2 a0_3 a0_4 t256 t257 t258 t259 t260 t261 t262) else (if bt264.2.2.2.2.2.2.2 = 2 then (sandglasslaw12_FlowWrong.j0 k a1 a2 a4 (!(bt264.1 == t256) || (!(bt264.2.1 == t257) || (!(bt264.2.2.1 == t258) || (!(bt264.2.2.2.1 == t259) || (!(bt264.2.2.2.2.1 == t260) || (!(bt264.2.2.2.2.2.1 == t261) || (!(bt264.2.2.2.2.2.2.1 == t262)))))))) a0_0 a0_1 a0_2 a0_3 a0_4 t256 t257 t258 t259 t260 t261 t262) else (sandglasslaw12_FlowWrong.j0 k a1 a2 a4 true a0_0 a0_1 a0_2 a0_3 a0_4 t256 t257 t258 t259 t260 t261 t262)))))) = some r := H
    have A8 := Aside0.mk A80
    clear A80
    replace H := Option.bind_eq_some_iff.mp H
    obtain ⟨⟨t264, t265, t266, t267, t268, t269, t270, t271⟩, A90, H⟩ := H
    replace H : (if a3 ≥ 1 then (if ((t271 == 0) != (decide (a3 ≤ 65536))) = true then (sandglasslaw12_FlowWrong.j0 k a1 a2 a4 true a0_0 a0_1 a0_2 a0_3 a0_4 t256 t257 t258 t259 t260 t261 t262) else (if t271 = 0 then (sandglasslaw12_FlowWrong.j0 k a1 a2 a4 false a0_0 a0_1 a0_2 a0_3 a0_4 t256 t257 t258 t259 t260 t261 t262) else (if t271 = 2 then (sandglasslaw12_FlowWrong.j0 k a1 a2 a4 (!(t264 == t256) || (!(t265 == t257) || (!(t266 == t258) || (!(t267 == t259) || (!(t268 == t260) || (!(t269 == t261) || (!(t270 == t262)))))))) a0_0 a0_1 a0_2 a0_3 a0_4 t256 t257 t258 t259 t260 t261 t262) else (sandglasslaw12_FlowWrong.j0 k a1 a2 a4 true a0_0 a0_1 a0_2 a0_3 a0_4 t256 t257 t258 t259 t260 t261 t262)))) else (if ((t271 == 0) != false) = true then (sandglasslaw12_FlowWrong.j0 k a1 a2 a4 true a0_0 a0_1 a0_2 a0_3 a0_4 t256 t257 t258 t259 t260 t261 t262) else (if t271 = 0 then (sandglasslaw12_FlowWrong.j0 k a1 a2 a4 false a0_0 a0_1 a0_2 a0_3 a0_4 t256 t257 t258 t259 t260 t261 t262) else (if t271 = 2 then (sandglasslaw12_FlowWrong.j0 k a1 a2 a4 (!(t264 == t256) || (!(t265 == t257) || (!(t266 == t258) || (!(t267 == t259) || (!(t268 == t260) || (!(t269 == t261) || (!(t270 == t262)))))))) a0_0 a0_1 a0_2 a0_3 a0_4 t256 t257 t258 t259 t260 t261 t262) else (sandglasslaw12_FlowWrong.j0 k a1 a2 a4 true a0_0 a0_1 a0_2 a0_3 a0_4 t256 t257 t258 t259 t260 t261 t262))))) = some r := H
    have A9 := Aside0.mk A90
    clear A90
    have HC10 := Aside0.mk H
    clear H
    go_enter Try.func4, Try.ntmps4
    go_upto_region 5 with (first | ((with_reducible refine gate_dst (N := 5) rfl ?_); refine box_event ?hg (N := 5) ?hd (cs := #[.int .i64 a0_0, .int .i64 a0_1, .int .u64 a0_2, .int .u64 a0_3, .int .u64 a0_4]) (t := 24) ?hr ?_; (case hd => rfl); (case hg => rfl); (case hr => first | (go_simp; done) | (go_simp; rfl)); intro gb253 hg w11 hbox hb; have n0_ := Aside0.mk (below_step (by repeat (first | (with_reducible first | exact HB.out | apply below_alloc | apply pw_below_drewN | apply below_drew1) | exact HB.out)) hb); have n1_ := Aside0.mk (hbox); have n2_ := Aside0.mk ((by rw [hg]; exact (below_size (by repeat (first | (with_reducible first | exact HB.out | apply below_alloc | apply pw_below_drewN | apply below_drew1) | exact HB.out))) : w.heap.size ≤ gb253)); have n3_ := Aside0.mk ((by rw [hg]; exact (below_size (by repeat (first | (with_reducible first | exact HB.out | apply below_alloc | apply pw_below_drewN | apply below_drew1) | exact HB.out))) : w.heap.size ≤ gb253)); clear HB; have HB := n0_; have BK253 := n1_; have GW253 := n2_; have GE253 := n3_; clear n0_ n1_ n2_ n3_; clear hb hbox hg; obtain ⟨hcz12_0, hcz12_1, hcz12_2, hcz12_3, hcz12_4, hfz12_0, hfz12_1, hfz12_2, hfz12_3, hfz12_4⟩ := cells5 BK253.out) | ((with_reducible refine gate_callee (f := 8) rfl ?_); refine goesL_ (some 16) rfl rfl Try.func8 (by kernel_rfl) rfl #[.agg #[.int .i64 a0_0, .int .i64 a0_1, .int .u64 a0_2, .int .u64 a0_3, .int .u64 a0_4]] rfl (by (try simp only [List.map_toArray, List.map_cons, List.map_nil]); first | done | rfl | (simp only [List.length_drop, List.length_take]; rfl)) ?_; (with_reducible refine (flow_Right.calls a0_0 a0_1 a0_2 a0_3 a0_4 true _ A6.out).mono ?_); rintro e w13 ⟨rfl, hb⟩; refine ⟨_, rfl, ?_⟩; have n0_ := Aside0.mk (blk_below (g := gb253) (o := .cells #[.int .i64 a0_0, .int .i64 a0_1, .int .u64 a0_2, .int .u64 a0_3, .int .u64 a0_4] 24 (0, 0)) (by (with_reducible repeat (first | refine blk_drewN ?_ _ | refine blk_drew ?_ | refine blk_alloc ?_ _)); exact BK253.out) hb); have n1_ := Aside0.mk (below_step (by repeat (first | (with_reducible first | exact HB.out | apply below_alloc | apply pw_below_drewN | apply below_drew1 | refine below_set ?_ GE253.out) | exact HB.out)) hb); clear BK253; clear HB; have BK253 := n0_; have HB := n1_; clear n0_ n1_; (try clear hb); (try clear hb2); (try clear hk); (try clear hi); obtain ⟨hcz14_0, hcz14_1, hcz14_2, hcz14_3, hcz14_4, hfz14_0, hfz14_1, hfz14_2, hfz14_3, hfz14_4⟩ := cells5 BK253.out) | ((with_reducible refine gate_callee (f := 10) rfl ?_); refine goesL_ (some 22) rfl rfl Try.func10 (by kernel_rfl) rfl #[.int .u64 a1, .int .u64 a2, .agg #[.int .i64 a0_0, .int .i64 a0_1, .int .u64 a0_2, .int .u64 a0_3, .int .u64 a0_4]] rfl (by (try simp only [List.map_toArray, List.map_cons, List.map_nil]); first | done | rfl | (simp only [List.length_drop, List.length_take]; rfl)) ?_; (with_reducible refine (flow_Born.calls a1 a2 a0_0 a0_1 a0_2 a0_3 a0_4 t256 t257 t258 t259 t260 t261 t262 _ A8.out).mono ?_); rintro e w15 ⟨rfl, hb⟩; refine ⟨_, rfl, ?_⟩; have n0_ := Aside0.mk (blk_below (g := gb253) (o := .cells #[.int .i64 a0_0, .int .i64 a0_1, .int .u64 a0_2, .int .u64 a0_3, .int .u64 a0_4] 24 (0, 0)) (by (with_reducible repeat (first | refine blk_drewN ?_ _ | refine blk_drew ?_ | refine blk_alloc ?_ _)); exact BK253.out) hb); have n1_ := Aside0.mk (below_step (by repeat (first | (with_reducible first | exact HB.out | apply below_alloc | apply pw_below_drewN | apply below_drew1 | refine below_set ?_ GE253.out) | exact HB.out)) hb); clear BK253; clear HB; have BK253 := n0_; have HB := n1_; clear n0_ n1_; (try clear hb); (try clear hb2); (try clear hk); (try clear hi)) | ((with_reducible refine gate_dst (N := 11) rfl ?_); refine box_event ?hg (N := 11) ?hd (cs := #[.int .u64 0, .int .u64 0, .int .u64 0, .int .i64 0, .int .u64 0, .int .u64 0, .int .u64 0]) (t := 30) ?hr ?_; (case hd => rfl); (case hg => rfl); (case hr => first | (go_simp; done) | (go_simp; rfl)); intro gb263 hg w16 hbox hb; have n0_ := Aside0.mk (blk_below (g := gb253) (o := .cells #[.int .i64 a0_0, .int .i64 a0_1, .int .u64 a0_2, .int .u64 a0_3, .int .u64 a0_4] 24 (0, 0)) (by (with_reducible repeat (first | refine blk_drewN ?_ _ | refine blk_drew ?_ | refine blk_alloc ?_ _)); exact BK253.out) hb); have n1_ := Aside0.mk (below_step (by repeat (first | (with_reducible first | exact HB.out | apply below_alloc | apply pw_below_drewN | apply below_drew1 | refine below_set ?_ GE253.out) | exact HB.out)) hb); have n2_ := Aside0.mk (hbox); have n3_ := Aside0.mk ((by rw [hg]; exact (below_size (by repeat (first | (with_reducible first | exact HB.out | apply below_alloc | apply pw_below_drewN | apply below_drew1 | refine below_set ?_ GE253.out) | exact HB.out))) : w.heap.size ≤ gb263)); have n4_ := Aside0.mk ((by rw [hg]; exact (below_size (by repeat (first | (with_reducible first | exact HB.out | apply below_alloc | apply pw_below_drewN | apply below_drew1 | refine below_set ?_ GE253.out) | exact HB.out))) : w.heap.size ≤ gb263)); have n5_ := Aside0.mk ((by rw [hg]; exact Nat.ne_of_lt (blk_lt (g := gb253) (o := .cells #[.int .i64 a0_0, .int .i64 a0_1, .int .u64 a0_2, .int .u64 a0_3, .int .u64 a0_4] 24 (0, 0)) (by (with_reducible repeat (first | refine blk_drewN ?_ _ | refine blk_drew ?_ | refine blk_alloc ?_ _)); exact BK253.out)) : gb253 ≠ gb263)); have n6_ := Aside0.mk ((by rw [hg]; exact Nat.ne_of_gt (blk_lt (g := gb253) (o := .cells #[.int .i64 a0_0, .int .i64 a0_1, .int .u64 a0_2, .int .u64 a0_3, .int .u64 a0_4] 24 (0, 0)) (by (with_reducible repeat (first | refine blk_drewN ?_ _ | refine blk_drew ?_ | refine blk_alloc ?_ _)); exact BK253.out)) : gb263 ≠ gb253)); clear BK253; clear HB; have BK253 := n0_; have HB := n1_; have BK263 := n2_; have GW263 := n3_; have GE263 := n4_; have NB253_263 := n5_; have NB263_253 := n6_; clear n0_ n1_ n2_ n3_ n4_ n5_ n6_; clear hb hbox hg; have hnb17 := NB263_253.out; have hnc17 := NB253_263.out; obtain ⟨hcz18_0, hcz18_1, hcz18_2, hcz18_3, hcz18_4, hcz18_5, hcz18_6, hfz18_0, hfz18_1, hfz18_2, hfz18_3, hfz18_4, hfz18_5, hfz18_6⟩ := cells7 BK263.out) | ((with_reducible refine gate_store (t := 30) (p := 11) rfl ?_); refine store_event (t := 30) (p := 11) (v := ?vo_w19) (w1 := (((((((w16.setCell ⟨gb263, 0, none⟩ (.int .u64 t256)).setCell ⟨gb263, 1, none⟩ (.int .u64 t257)).setCell ⟨gb263, 2, none⟩ (.int .u64 t258)).setCell ⟨gb263, 3, none⟩ (.int .i64 t259)).setCell ⟨gb263, 4, none⟩ (.int .u64 t260)).setCell ⟨gb263, 5, none⟩ (.int .u64 t261)).setCell ⟨gb263, 6, none⟩ (.int .u64 t262))) ?hg ?ho ?hn ?hr ?_; (case ho => rfl); (case hg => rfl); (case hn => rfl); (case hr => first | (go_simp; done) | (go_simp; rfl)); intro w19 hw; have n0_ : Aside0 (w19.heap[gb253]? = some (.cells #[.int .i64 a0_0, .int .i64 a0_1, .int .u64 a0_2, .int .u64 a0_3, .int .u64 a0_4] 24 (0, 0))) := ⟨(by rw [hw]; exact (by (with_reducible repeat (first | refine blk_drewN ?_ _ | refine blk_drew ?_ | refine blk_alloc ?_ _)); refine far7 ?_ NB253_263.out; (with_reducible repeat (first | refine blk_drewN ?_ _ | refine blk_drew ?_ | refine blk_alloc ?_ _)); exact BK253.out))⟩; have n1_ : Aside0 (w19.heap[gb263]? = some (.cells #[.int .u64 t256, .int .u64 t257, .int .u64 t258, .int .i64 t259, .int .u64 t260, .int .u64 t261, .int .u64 t262] 30 (0, 0))) := ⟨(by rw [hw]; exact (by (with_reducible repeat (first | refine blk_drewN ?_ _ | refine blk_drew ?_ | refine blk_alloc ?_ _)); apply puts7; (with_reducible repeat (first | refine blk_drewN ?_ _ | refine blk_drew ?_ | refine blk_alloc ?_ _)); exact BK263.out))⟩; have n2_ : Aside0 (Below w.heap.size w w19) := ⟨(by rw [hw]; exact (by repeat (first | (with_reducible first | exact HB.out | apply below_alloc | apply pw_below_drewN | apply below_drew1 | refine below_set ?_ GE253.out | refine below_set ?_ GE263.out) | exact HB.out)))⟩; clear hw; clear BK253; clear BK263; clear HB; have BK253 := n0_; have BK263 := n1_; have HB := n2_; clear n0_ n1_ n2_; obtain ⟨hcz20_0, hcz20_1, hcz20_2, hcz20_3, hcz20_4, hcz20_5, hcz20_6, hfz20_0, hfz20_1, hfz20_2, hfz20_3, hfz20_4, hfz20_5, hfz20_6⟩ := cells7 BK263.out; obtain ⟨hcz21_0, hcz21_1, hcz21_2, hcz21_3, hcz21_4, hfz21_0, hfz21_1, hfz21_2, hfz21_3, hfz21_4⟩ := cells5 BK253.out) | ((with_reducible refine gate_callee (f := 14) rfl ?_); refine goesL_ (some 28) rfl rfl Try.func14 (by kernel_rfl) rfl #[.agg #[.int .u64 t256, .int .u64 t257, .int .u64 t258, .int .i64 t259, .int .u64 t260, .int .u64 t261, .int .u64 t262], .int .i64 a3, .int .u64 a4, .agg #[.int .i64 a0_0, .int .i64 a0_1, .int .u64 a0_2, .int .u64 a0_3, .int .u64 a0_4]] rfl (by (try simp only [List.map_toArray, List.map_cons, List.map_nil]); first | done | rfl | (simp only [List.length_drop, List.length_take]; rfl)) ?_; (with_reducible refine (flow_Charge.calls k t256 t257 t258 t259 t260 t261 t262 a3 a4 a0_0 a0_1 a0_2 a0_3 a0_4 t264 t265 t266 t267 t268 t269 t270 t271 _ A9.out).mono ?_); rintro e w22 ⟨rfl, hb⟩; refine ⟨_, rfl, ?_⟩; have n0_ := Aside0.mk (blk_below (g := gb253) (o := .cells #[.int .i64 a0_0, .int .i64 a0_1, .int .u64 a0_2, .int .u64 a0_3, .int .u64 a0_4] 24 (0, 0)) (by (with_reducible repeat (first | refine blk_drewN ?_ _ | refine blk_drew ?_ | refine blk_alloc ?_ _)); exact BK253.out) hb); have n1_ := Aside0.mk (blk_below (g := gb263) (o := .cells #[.int .u64 t256, .int .u64 t257, .int .u64 t258, .int .i64 t259, .int .u64 t260, .int .u64 t261, .int .u64 t262] 30 (0, 0)) (by (with_reducible repeat (first | refine blk_drewN ?_ _ | refine blk_drew ?_ | refine blk_alloc ?_ _)); exact BK263.out) hb); have n2_ := Aside0.mk (below_step (by repeat (first | (with_reducible first | exact HB.out | apply below_alloc | apply pw_below_drewN | apply below_drew1 | refine below_set ?_ GE253.out | refine below_set ?_ GE263.out) | exact HB.out)) hb); clear BK253; clear BK263; clear HB; have BK253 := n0_; have BK263 := n1_; have HB := n2_; clear n0_ n1_ n2_; (try clear hb); (try clear hb2); (try clear hk); (try clear hi)) | ((with_reducible refine gate_dst (N := 12) rfl ?_); refine box_event ?hg (N := 12) ?hd (cs := #[.int .u64 0, .int .u64 0, .int .u64 0, .int .i64 0, .int .u64 0, .int .u64 0, .int .u64 0]) (t := 30) ?hr ?_; (case hd => rfl); (case hg => rfl); (case hr => first | (go_simp; done) | (go_simp; rfl)); intro gb272 hg w23 hbox hb; have n0_ := Aside0.mk (blk_below (g := gb253) (o := .cells #[.int .i64 a0_0, .int .i64 a0_1, .int .u64 a0_2, .int .u64 a0_3, .int .u64 a0_4] 24 (0, 0)) (by (with_reducible repeat (first | refine blk_drewN ?_ _ | refine blk_drew ?_ | refine blk_alloc ?_ _)); exact BK253.out) hb); have n1_ := Aside0.mk (blk_below (g := gb263) (o := .cells #[.int .u64 t256, .int .u64 t257, .int .u64 t258, .int .i64 t259, .int .u64 t260, .int .u64 t261, .int .u64 t262] 30 (0, 0)) (by (with_reducible repeat (first | refine blk_drewN ?_ _ | refine blk_drew ?_ | refine blk_alloc ?_ _)); exact BK263.out) hb); have n2_ := Aside0.mk (below_step (by repeat (first | (with_reducible first | exact HB.out | apply below_alloc | apply pw_below_drewN | apply below_drew1 | refine below_set ?_ GE253.out | refine below_set ?_ GE263.out) | exact HB.out)) hb); have n3_ := Aside0.mk (hbox); have n4_ := Aside0.mk ((by rw [hg]; exact (below_size (by repeat (first | (with_reducible first | exact HB.out | apply below_alloc | apply pw_below_drewN | apply below_drew1 | refine below_set ?_ GE253.out | refine below_set ?_ GE263.out) | exact HB.out))) : w.heap.size ≤ gb272)); have n5_ := Aside0.mk ((by rw [hg]; exact (below_size (by repeat (first | (with_reducible first | exact HB.out | apply below_alloc | apply pw_below_drewN | apply below_drew1 | refine below_set ?_ GE253.out | refine below_set ?_ GE263.out) | exact HB.out))) : w.heap.size ≤ gb272)); have n6_ := Aside0.mk ((by rw [hg]; exact Nat.ne_of_lt (blk_lt (g := gb253) (o := .cells #[.int .i64 a0_0, .int .i64 a0_1, .int .u64 a0_2, .int .u64 a0_3, .int .u64 a0_4] 24 (0, 0)) (by (with_reducible repeat (first | refine blk_drewN ?_ _ | refine blk_drew ?_ | refine blk_alloc ?_ _)); exact BK253.out)) : gb253 ≠ gb272)); have n7_ := Aside0.mk ((by rw [hg]; exact Nat.ne_of_gt (blk_lt (g := gb253) (o := .cells #[.int .i64 a0_0, .int .i64 a0_1, .int .u64 a0_2, .int .u64 a0_3, .int .u64 a0_4] 24 (0, 0)) (by (with_reducible repeat (first | refine blk_drewN ?_ _ | refine blk_drew ?_ | refine blk_alloc ?_ _)); exact BK253.out)) : gb272 ≠ gb253)); have n8_ := Aside0.mk ((by rw [hg]; exact Nat.ne_of_lt (blk_lt (g := gb263) (o := .cells #[.int .u64 t256, .int .u64 t257, .int .u64 t258, .int .i64 t259, .int .u64 t260, .int .u64 t261, .int .u64 t262] 30 (0, 0)) (by (with_reducible repeat (first | refine blk_drewN ?_ _ | refine blk_drew ?_ | refine blk_alloc ?_ _)); exact BK263.out)) : gb263 ≠ gb272)); have n9_ := Aside0.mk ((by rw [hg]; exact Nat.ne_of_gt (blk_lt (g := gb263) (o := .cells #[.int .u64 t256, .int .u64 t257, .int .u64 t258, .int .i64 t259, .int .u64 t260, .int .u64 t261, .int .u64 t262] 30 (0, 0)) (by (with_reducible repeat (first | refine blk_drewN ?_ _ | refine blk_drew ?_ | refine blk_alloc ?_ _)); exact BK263.out)) : gb272 ≠ gb263)); clear BK253; clear BK263; clear HB; have BK253 := n0_; have BK263 := n1_; have HB := n2_; have BK272 := n3_; have GW272 := n4_; have GE272 := n5_; have NB253_272 := n6_; have NB272_253 := n7_; have NB263_272 := n8_; have NB272_263 := n9_; clear n0_ n1_ n2_ n3_ n4_ n5_ n6_ n7_ n8_ n9_; clear hb hbox hg; have hnb24 := NB272_253.out; have hnc24 := NB253_272.out; have hnb25 := NB272_263.out; have hnc25 := NB263_272.out; obtain ⟨hcz26_0, hcz26_1, hcz26_2, hcz26_3, hcz26_4, hcz26_5, hcz26_6, hfz26_0, hfz26_1, hfz26_2, hfz26_3, hfz26_4, hfz26_5, hfz26_6⟩ := cells7 BK272.out))
    (try simp only [Act.put, List.setIfInBounds_toArray, List.set_cons_zero, List.set_cons_succ])
    go_cut [52] (fun v52 wc => ∃ (kq : Nat) (x52_9 : Bool), v52 = .bool x52_9 ∧ Aside0 (sandglasslaw12_FlowWrong.j0 kq a1 a2 a4 x52_9 a0_0 a0_1 a0_2 a0_3 a0_4 t256 t257 t258 t259 t260 t261 t262 = some r) ∧ Aside0 (kq ≤ k) ∧ Aside0 (wc.heap[gb253]? = some (.cells #[.int .i64 a0_0, .int .i64 a0_1, .int .u64 a0_2, .int .u64 a0_3, .int .u64 a0_4] 24 (0, 0))) ∧ Aside0 (wc.heap[gb263]? = some (.cells #[.int .u64 t256, .int .u64 t257, .int .u64 t258, .int .i64 t259, .int .u64 t260, .int .u64 t261, .int .u64 t262] 30 (0, 0))) ∧ Aside0 (wc.heap[gb272]? = some (.cells #[.int .u64 t264, .int .u64 t265, .int .u64 t266, .int .i64 t267, .int .u64 t268, .int .u64 t269, .int .u64 t270] 30 (0, 0))) ∧ Aside0 (Below w.heap.size w wc))
    case first =>
      have H := HC10.out
      clear HC10
      by_cases c27 : a3 ≥ 1
      · rw [if_pos c27] at H
        have c27b0 : decide (1 ≤ a3) = true := decide_eq_true c27
        clear c27
        (first | rw [c27b0] | (simp only [i64_w, i32_w]; rw [c27b0]) | skip)
        by_cases c28 : ((t271 == 0) != (decide (a3 ≤ 65536))) = true
        · rw [if_pos c28] at H
          have c28b0 : ((t271 == 0) != (decide (a3 ≤ 65536))) = true := c28
          (try (have c28b1 : decide ((t271 == 0) = (decide (a3 ≤ 65536))) = false := by simpa using c28))
          (try (have c28b2 : ((t271 == 0) == (decide (a3 ≤ 65536))) = false := by simpa using c28))
          (try (have c28b3 : ¬ ((t271 == 0) = (decide (a3 ≤ 65536))) := by simpa using c28))
          clear c28
          have H' := Aside0.mk H
          clear H
          go_wp2
          go_meet
          case rel => exact ⟨_, (true), (by first | rfl | (simp; done) | (simp [*]; done)), H', ⟨by first | omega | exact Nat.le_refl _⟩, ⟨by (with_reducible repeat (first | refine blk_drewN ?_ _ | refine blk_drew ?_ | refine blk_alloc ?_ _)); refine far7 ?_ NB253_272.out; (with_reducible repeat (first | refine blk_drewN ?_ _ | refine blk_drew ?_ | refine blk_alloc ?_ _)); exact BK253.out⟩, ⟨by (with_reducible repeat (first | refine blk_drewN ?_ _ | refine blk_drew ?_ | refine blk_alloc ?_ _)); refine far7 ?_ NB263_272.out; (with_reducible repeat (first | refine blk_drewN ?_ _ | refine blk_drew ?_ | refine blk_alloc ?_ _)); exact BK263.out⟩, ⟨by (with_reducible repeat (first | refine blk_drewN ?_ _ | refine blk_drew ?_ | refine blk_alloc ?_ _)); apply puts7; (with_reducible repeat (first | refine blk_drewN ?_ _ | refine blk_drew ?_ | refine blk_alloc ?_ _)); exact BK272.out⟩, ⟨by repeat (first | (with_reducible first | exact HB.out | apply below_alloc | apply pw_below_drewN | apply below_drew1 | refine below_set ?_ GE253.out | refine below_set ?_ GE263.out | refine below_set ?_ GE272.out) | exact HB.out)⟩⟩
        · rw [if_neg c28] at H
          have c28b0 : ((t271 == 0) != (decide (a3 ≤ 65536))) = false := by simpa using c28
          (try (have c28b1 : decide ((t271 == 0) = (decide (a3 ≤ 65536))) = true := by simpa using c28))
          (try (have c28b2 : ((t271 == 0) == (decide (a3 ≤ 65536))) = true := by simpa using c28))
          clear c28
          by_cases c29 : t271 = 0
          · rw [if_pos c29] at H
            have c29b0 : (t271 == 0) = true := beq_iff_eq.mpr c29
            (try (have c28b0_c29b0t : (decide (a3 ≤ 65536)) = true := by simpa [c29b0] using c28b0))
            (try (have c28b0_c29b0f : (decide (a3 ≤ 65536)) = false := by simpa [c29b0] using c28b0))
            have c29b1 : (t271 != 0) = false := bne_eq_false_iff_eq.mpr c29
            clear c29
            have H' := Aside0.mk H
            clear H
            go_wp2
            go_meet
            case rel => exact ⟨_, (false), (by first | rfl | (simp; done) | (simp [*]; done)), H', ⟨by first | omega | exact Nat.le_refl _⟩, ⟨by (with_reducible repeat (first | refine blk_drewN ?_ _ | refine blk_drew ?_ | refine blk_alloc ?_ _)); refine far7 ?_ NB253_272.out; (with_reducible repeat (first | refine blk_drewN ?_ _ | refine blk_drew ?_ | refine blk_alloc ?_ _)); exact BK253.out⟩, ⟨by (with_reducible repeat (first | refine blk_drewN ?_ _ | refine blk_drew ?_ | refine blk_alloc ?_ _)); refine far7 ?_ NB263_272.out; (with_reducible repeat (first | refine blk_drewN ?_ _ | refine blk_drew ?_ | refine blk_alloc ?_ _)); exact BK263.out⟩, ⟨by (with_reducible repeat (first | refine blk_drewN ?_ _ | refine blk_drew ?_ | refine blk_alloc ?_ _)); apply puts7; (with_reducible repeat (first | refine blk_drewN ?_ _ | refine blk_drew ?_ | refine blk_alloc ?_ _)); exact BK272.out⟩, ⟨by repeat (first | (with_reducible first | exact HB.out | apply below_alloc | apply pw_below_drewN | apply below_drew1 | refine below_set ?_ GE253.out | refine below_set ?_ GE263.out | refine below_set ?_ GE272.out) | exact HB.out)⟩⟩
          · rw [if_neg c29] at H
            have c29b0 : (t271 == 0) = false := beq_eq_false_iff_ne.mpr c29
            (try (have c28b0_c29b0t : (decide (a3 ≤ 65536)) = true := by simpa [c29b0] using c28b0))
            (try (have c28b0_c29b0f : (decide (a3 ≤ 65536)) = false := by simpa [c29b0] using c28b0))
            have c29b1 : (t271 != 0) = true := bne_iff_ne.mpr c29
            by_cases c30 : t271 = 2
            · rw [if_pos c30] at H
              have c30b0 : (t271 == 2) = true := beq_iff_eq.mpr c30
              have c30b1 : (t271 != 2) = false := bne_eq_false_iff_eq.mpr c30
              clear c30
              have H' := Aside0.mk H
              clear H
              have hnb31 := NB272_253.out
              have hnc31 := NB253_272.out
              have hnb32 := NB272_263.out
              have hnc32 := NB263_272.out
              obtain ⟨hcz33_0, hcz33_1, hcz33_2, hcz33_3, hcz33_4, hcz33_5, hcz33_6, hfz33_0, hfz33_1, hfz33_2, hfz33_3, hfz33_4, hfz33_5, hfz33_6⟩ := cells7 BK272.out
              have hnb34 := NB263_253.out
              have hnc34 := NB253_263.out
              obtain ⟨hcz35_0, hcz35_1, hcz35_2, hcz35_3, hcz35_4, hcz35_5, hcz35_6, hfz35_0, hfz35_1, hfz35_2, hfz35_3, hfz35_4, hfz35_5, hfz35_6⟩ := cells7 BK263.out
              go_wp2
              go_meet
              case rel => exact ⟨_, ((!(t264 == t256) || (!(t265 == t257) || (!(t266 == t258) || (!(t267 == t259) || (!(t268 == t260) || (!(t269 == t261) || (!(t270 == t262))))))))), (by first | rfl | (simp; done) | (simp [*]; done)), H', ⟨by first | omega | exact Nat.le_refl _⟩, ⟨by (with_reducible repeat (first | refine blk_drewN ?_ _ | refine blk_drew ?_ | refine blk_alloc ?_ _)); refine far7 ?_ NB253_272.out; (with_reducible repeat (first | refine blk_drewN ?_ _ | refine blk_drew ?_ | refine blk_alloc ?_ _)); exact BK253.out⟩, ⟨by (with_reducible repeat (first | refine blk_drewN ?_ _ | refine blk_drew ?_ | refine blk_alloc ?_ _)); refine far7 ?_ NB263_272.out; (with_reducible repeat (first | refine blk_drewN ?_ _ | refine blk_drew ?_ | refine blk_alloc ?_ _)); exact BK263.out⟩, ⟨by (with_reducible repeat (first | refine blk_drewN ?_ _ | refine blk_drew ?_ | refine blk_alloc ?_ _)); apply puts7; (with_reducible repeat (first | refine blk_drewN ?_ _ | refine blk_drew ?_ | refine blk_alloc ?_ _)); exact BK272.out⟩, ⟨by repeat (first | (with_reducible first | exact HB.out | apply below_alloc | apply pw_below_drewN | apply below_drew1 | refine below_set ?_ GE253.out | refine below_set ?_ GE263.out | refine below_set ?_ GE272.out) | exact HB.out)⟩⟩
            · rw [if_neg c30] at H
              have c30b0 : (t271 == 2) = false := beq_eq_false_iff_ne.mpr c30
              have c30b1 : (t271 != 2) = true := bne_iff_ne.mpr c30
              have H' := Aside0.mk H
              clear H
              go_wp2
              go_meet
              case rel => exact ⟨_, (true), (by first | rfl | (simp; done) | (simp [*]; done)), H', ⟨by first | omega | exact Nat.le_refl _⟩, ⟨by (with_reducible repeat (first | refine blk_drewN ?_ _ | refine blk_drew ?_ | refine blk_alloc ?_ _)); refine far7 ?_ NB253_272.out; (with_reducible repeat (first | refine blk_drewN ?_ _ | refine blk_drew ?_ | refine blk_alloc ?_ _)); exact BK253.out⟩, ⟨by (with_reducible repeat (first | refine blk_drewN ?_ _ | refine blk_drew ?_ | refine blk_alloc ?_ _)); refine far7 ?_ NB263_272.out; (with_reducible repeat (first | refine blk_drewN ?_ _ | refine blk_drew ?_ | refine blk_alloc ?_ _)); exact BK263.out⟩, ⟨by (with_reducible repeat (first | refine blk_drewN ?_ _ | refine blk_drew ?_ | refine blk_alloc ?_ _)); apply puts7; (with_reducible repeat (first | refine blk_drewN ?_ _ | refine blk_drew ?_ | refine blk_alloc ?_ _)); exact BK272.out⟩, ⟨by repeat (first | (with_reducible first | exact HB.out | apply below_alloc | apply pw_below_drewN | apply below_drew1 | refine below_set ?_ GE253.out | refine below_set ?_ GE263.out | refine below_set ?_ GE272.out) | exact HB.out)⟩⟩
      · rw [if_neg c27] at H
        have c27b0 : decide (1 ≤ a3) = false := decide_eq_false c27
        clear c27
        (first | rw [c27b0] | (simp only [i64_w, i32_w]; rw [c27b0]) | skip)
        by_cases c36 : ((t271 == 0) != false) = true
        · rw [if_pos c36] at H
          have c36b0 : ((t271 == 0) != false) = true := c36
          (try (have c36b1 : decide ((t271 == 0) = false) = false := by simpa using c36))
          (try (have c36b2 : ((t271 == 0) == false) = false := by simpa using c36))
          (try (have c36b3 : ¬ ((t271 == 0) = false) := by simpa using c36))
          clear c36
          have H' := Aside0.mk H
          clear H
          go_wp2
          go_meet
          case rel => exact ⟨_, (true), (by first | rfl | (simp; done) | (simp [*]; done)), H', ⟨by first | omega | exact Nat.le_refl _⟩, ⟨by (with_reducible repeat (first | refine blk_drewN ?_ _ | refine blk_drew ?_ | refine blk_alloc ?_ _)); refine far7 ?_ NB253_272.out; (with_reducible repeat (first | refine blk_drewN ?_ _ | refine blk_drew ?_ | refine blk_alloc ?_ _)); exact BK253.out⟩, ⟨by (with_reducible repeat (first | refine blk_drewN ?_ _ | refine blk_drew ?_ | refine blk_alloc ?_ _)); refine far7 ?_ NB263_272.out; (with_reducible repeat (first | refine blk_drewN ?_ _ | refine blk_drew ?_ | refine blk_alloc ?_ _)); exact BK263.out⟩, ⟨by (with_reducible repeat (first | refine blk_drewN ?_ _ | refine blk_drew ?_ | refine blk_alloc ?_ _)); apply puts7; (with_reducible repeat (first | refine blk_drewN ?_ _ | refine blk_drew ?_ | refine blk_alloc ?_ _)); exact BK272.out⟩, ⟨by repeat (first | (with_reducible first | exact HB.out | apply below_alloc | apply pw_below_drewN | apply below_drew1 | refine below_set ?_ GE253.out | refine below_set ?_ GE263.out | refine below_set ?_ GE272.out) | exact HB.out)⟩⟩
        · rw [if_neg c36] at H
          have c36b0 : ((t271 == 0) != false) = false := by simpa using c36
          (try (have c36b1 : decide ((t271 == 0) = false) = true := by simpa using c36))
          (try (have c36b2 : ((t271 == 0) == false) = true := by simpa using c36))
          clear c36
          by_cases c37 : t271 = 0
          · rw [if_pos c37] at H
            have c37b0 : (t271 == 0) = true := beq_iff_eq.mpr c37
            first
            | exact absurd c36b0 (by simp [c37b0])
            | skip
              have c37b1 : (t271 != 0) = false := bne_eq_false_iff_eq.mpr c37
              clear c37
              have H' := Aside0.mk H
              clear H
              go_wp2
              go_meet
              case rel => exact ⟨_, (false), (by first | rfl | (simp; done) | (simp [*]; done)), H', ⟨by first | omega | exact Nat.le_refl _⟩, ⟨by (with_reducible repeat (first | refine blk_drewN ?_ _ | refine blk_drew ?_ | refine blk_alloc ?_ _)); refine far7 ?_ NB253_272.out; (with_reducible repeat (first | refine blk_drewN ?_ _ | refine blk_drew ?_ | refine blk_alloc ?_ _)); exact BK253.out⟩, ⟨by (with_reducible repeat (first | refine blk_drewN ?_ _ | refine blk_drew ?_ | refine blk_alloc ?_ _)); refine far7 ?_ NB263_272.out; (with_reducible repeat (first | refine blk_drewN ?_ _ | refine blk_drew ?_ | refine blk_alloc ?_ _)); exact BK263.out⟩, ⟨by (with_reducible repeat (first | refine blk_drewN ?_ _ | refine blk_drew ?_ | refine blk_alloc ?_ _)); apply puts7; (with_reducible repeat (first | refine blk_drewN ?_ _ | refine blk_drew ?_ | refine blk_alloc ?_ _)); exact BK272.out⟩, ⟨by repeat (first | (with_reducible first | exact HB.out | apply below_alloc | apply pw_below_drewN | apply below_drew1 | refine below_set ?_ GE253.out | refine below_set ?_ GE263.out | refine below_set ?_ GE272.out) | exact HB.out)⟩⟩
          · rw [if_neg c37] at H
            have c37b0 : (t271 == 0) = false := beq_eq_false_iff_ne.mpr c37
            first
            | exact absurd c36b0 (by simp [c37b0])
            | skip
              have c37b1 : (t271 != 0) = true := bne_iff_ne.mpr c37
              by_cases c38 : t271 = 2
            · rw [if_pos c38] at H
              have c38b0 : (t271 == 2) = true := beq_iff_eq.mpr c38
              have c38b1 : (t271 != 2) = false := bne_eq_false_iff_eq.mpr c38
              clear c38
              have H' := Aside0.mk H
              clear H
              have hnb39 := NB272_253.out
              have hnc39 := NB253_272.out
              have hnb40 := NB272_263.out
              have hnc40 := NB263_272.out
              obtain ⟨hcz41_0, hcz41_1, hcz41_2, hcz41_3, hcz41_4, hcz41_5, hcz41_6, hfz41_0, hfz41_1, hfz41_2, hfz41_3, hfz41_4, hfz41_5, hfz41_6⟩ := cells7 BK272.out
              have hnb42 := NB263_253.out
              have hnc42 := NB253_263.out
              obtain ⟨hcz43_0, hcz43_1, hcz43_2, hcz43_3, hcz43_4, hcz43_5, hcz43_6, hfz43_0, hfz43_1, hfz43_2, hfz43_3, hfz43_4, hfz43_5, hfz43_6⟩ := cells7 BK263.out
              go_wp2
              go_meet
              case rel => exact ⟨_, ((!(t264 == t256) || (!(t265 == t257) || (!(t266 == t258) || (!(t267 == t259) || (!(t268 == t260) || (!(t269 == t261) || (!(t270 == t262))))))))), (by first | rfl | (simp; done) | (simp [*]; done)), H', ⟨by first | omega | exact Nat.le_refl _⟩, ⟨by (with_reducible repeat (first | refine blk_drewN ?_ _ | refine blk_drew ?_ | refine blk_alloc ?_ _)); refine far7 ?_ NB253_272.out; (with_reducible repeat (first | refine blk_drewN ?_ _ | refine blk_drew ?_ | refine blk_alloc ?_ _)); exact BK253.out⟩, ⟨by (with_reducible repeat (first | refine blk_drewN ?_ _ | refine blk_drew ?_ | refine blk_alloc ?_ _)); refine far7 ?_ NB263_272.out; (with_reducible repeat (first | refine blk_drewN ?_ _ | refine blk_drew ?_ | refine blk_alloc ?_ _)); exact BK263.out⟩, ⟨by (with_reducible repeat (first | refine blk_drewN ?_ _ | refine blk_drew ?_ | refine blk_alloc ?_ _)); apply puts7; (with_reducible repeat (first | refine blk_drewN ?_ _ | refine blk_drew ?_ | refine blk_alloc ?_ _)); exact BK272.out⟩, ⟨by repeat (first | (with_reducible first | exact HB.out | apply below_alloc | apply pw_below_drewN | apply below_drew1 | refine below_set ?_ GE253.out | refine below_set ?_ GE263.out | refine below_set ?_ GE272.out) | exact HB.out)⟩⟩
            · rw [if_neg c38] at H
              have c38b0 : (t271 == 2) = false := beq_eq_false_iff_ne.mpr c38
              have c38b1 : (t271 != 2) = true := bne_iff_ne.mpr c38
              have H' := Aside0.mk H
              clear H
              go_wp2
              go_meet
              case rel => exact ⟨_, (true), (by first | rfl | (simp; done) | (simp [*]; done)), H', ⟨by first | omega | exact Nat.le_refl _⟩, ⟨by (with_reducible repeat (first | refine blk_drewN ?_ _ | refine blk_drew ?_ | refine blk_alloc ?_ _)); refine far7 ?_ NB253_272.out; (with_reducible repeat (first | refine blk_drewN ?_ _ | refine blk_drew ?_ | refine blk_alloc ?_ _)); exact BK253.out⟩, ⟨by (with_reducible repeat (first | refine blk_drewN ?_ _ | refine blk_drew ?_ | refine blk_alloc ?_ _)); refine far7 ?_ NB263_272.out; (with_reducible repeat (first | refine blk_drewN ?_ _ | refine blk_drew ?_ | refine blk_alloc ?_ _)); exact BK263.out⟩, ⟨by (with_reducible repeat (first | refine blk_drewN ?_ _ | refine blk_drew ?_ | refine blk_alloc ?_ _)); apply puts7; (with_reducible repeat (first | refine blk_drewN ?_ _ | refine blk_drew ?_ | refine blk_alloc ?_ _)); exact BK272.out⟩, ⟨by repeat (first | (with_reducible first | exact HB.out | apply below_alloc | apply pw_below_drewN | apply below_drew1 | refine below_set ?_ GE253.out | refine below_set ?_ GE263.out | refine below_set ?_ GE272.out) | exact HB.out)⟩⟩
    case rest =>
      clear HC10
      try clear c1
      try clear c2
      try clear p2
      try clear c3
      try clear c4
      try clear c7
      try clear c8
      try clear c10
      try clear c14
      try clear c17
      try clear c24
      try clear c25
      try clear c27
      try clear c27b0
      try clear c28
      try clear c28b0
      try clear c28b1
      try clear c28b2
      try clear c29
      try clear c29b0
      try clear c29b1
      try clear c30
      try clear c30b0
      try clear c30b1
      try clear c31
      try clear c32
      try clear c34
      try clear c36
      try clear c36b0
      try clear c36b1
      try clear c36b2
      try clear c37
      try clear c37b0
      try clear c37b1
      try clear c38
      try clear c38b0
      try clear c38b1
      try clear c39
      try clear c40
      try clear c42
      try clear hcz12_0
      try clear hcz12_1
      try clear hcz12_2
      try clear hcz12_3
      try clear hcz12_4
      try clear hcz14_0
      try clear hcz14_1
      try clear hcz14_2
      try clear hcz14_3
      try clear hcz14_4
      try clear hcz18_0
      try clear hcz18_1
      try clear hcz18_2
      try clear hcz18_3
      try clear hcz18_4
      try clear hcz18_5
      try clear hcz18_6
      try clear hcz20_0
      try clear hcz20_1
      try clear hcz20_2
      try clear hcz20_3
      try clear hcz20_4
      try clear hcz20_5
      try clear hcz20_6
      try clear hcz21_0
      try clear hcz21_1
      try clear hcz21_2
      try clear hcz21_3
      try clear hcz21_4
      try clear hcz26_0
      try clear hcz26_1
      try clear hcz26_2
      try clear hcz26_3
      try clear hcz26_4
      try clear hcz26_5
      try clear hcz26_6
      try clear hcz33_0
      try clear hcz33_1
      try clear hcz33_2
      try clear hcz33_3
      try clear hcz33_4
      try clear hcz33_5
      try clear hcz33_6
      try clear hcz35_0
      try clear hcz35_1
      try clear hcz35_2
      try clear hcz35_3
      try clear hcz35_4
      try clear hcz35_5
      try clear hcz35_6
      try clear hcz41_0
      try clear hcz41_1
      try clear hcz41_2
      try clear hcz41_3
      try clear hcz41_4
      try clear hcz41_5
      try clear hcz41_6
      try clear hcz43_0
      try clear hcz43_1
      try clear hcz43_2
      try clear hcz43_3
      try clear hcz43_4
      try clear hcz43_5
      try clear hcz43_6
      try clear hfz12_0
      try clear hfz12_1
      try clear hfz12_2
      try clear hfz12_3
      try clear hfz12_4
      try clear hfz14_0
      try clear hfz14_1
      try clear hfz14_2
      try clear hfz14_3
      try clear hfz14_4
      try clear hfz18_0
      try clear hfz18_1
      try clear hfz18_2
      try clear hfz18_3
      try clear hfz18_4
      try clear hfz18_5
      try clear hfz18_6
      try clear hfz20_0
      try clear hfz20_1
      try clear hfz20_2
      try clear hfz20_3
      try clear hfz20_4
      try clear hfz20_5
      try clear hfz20_6
      try clear hfz21_0
      try clear hfz21_1
      try clear hfz21_2
      try clear hfz21_3
      try clear hfz21_4
      try clear hfz26_0
      try clear hfz26_1
      try clear hfz26_2
      try clear hfz26_3
      try clear hfz26_4
      try clear hfz26_5
      try clear hfz26_6
      try clear hfz33_0
      try clear hfz33_1
      try clear hfz33_2
      try clear hfz33_3
      try clear hfz33_4
      try clear hfz33_5
      try clear hfz33_6
      try clear hfz35_0
      try clear hfz35_1
      try clear hfz35_2
      try clear hfz35_3
      try clear hfz35_4
      try clear hfz35_5
      try clear hfz35_6
      try clear hfz41_0
      try clear hfz41_1
      try clear hfz41_2
      try clear hfz41_3
      try clear hfz41_4
      try clear hfz41_5
      try clear hfz41_6
      try clear hfz43_0
      try clear hfz43_1
      try clear hfz43_2
      try clear hfz43_3
      try clear hfz43_4
      try clear hfz43_5
      try clear hfz43_6
      obtain ⟨kq, x52_9, rfl, HA, HJ9, BK253, BK263, BK272, HB⟩ := hcut
      cases kq with
      | zero => exact absurd HA.out (by simp [sandglasslaw12_FlowWrong.j0])
      | succ kj9 =>
        have H := HA.out
        clear HA
        simp only [sandglasslaw12_FlowWrong.j0] at H
        by_cases c44 : x52_9 = true
        · subst c44
          have H1 : (none) = some r := by rw [if_pos rfl] at H; exact H
          clear H
          have H := H1
          clear H1
          exact absurd H (by simp)
        · replace c44 := Bool.eq_false_iff.mpr c44
          subst c44
          have H1 : ((flow_Fill.f t256 t257 t258 t259 t260 t261 t262 a0_0 a0_1 a0_2 a0_3 a0_4).bind fun bt273 => (if (t256 == a1 && (t257 == a2 && (t258 == 0 && (t259 == a0_1 && (t260 == 0 && (t261 == 0 && (t262 == 0))))))) = true then (if (bt273.1 == t256 && (bt273.2.1 == t257 && (bt273.2.2.1 == t258 && ((wrap64 (bt273.2.2.2.1 - a0_0)) == t259 && (bt273.2.2.2.2.1 == t260 && (bt273.2.2.2.2.2.1 == t261 && (bt273.2.2.2.2.2.2 == t262))))))) = true then ((flow_Ready.f t256 t257 t258 t259 t260 t261 t262 a4).bind fun t281 => (if t281 = a4 then ((sandglasslaw12_awake.f kj9).bind fun t282 => (some t282)) else (none))) else (none)) else (none))) = some r := by rw [if_neg (show ¬ (false = true) by decide)] at H; exact H
          clear H
          have H := H1
          clear H1
          replace H := Option.bind_eq_some_iff.mp H
          obtain ⟨⟨t273, t274, t275, t276, t277, t278, t279⟩, A450, H⟩ := H
          replace H : (if (t256 == a1 && (t257 == a2 && (t258 == 0 && (t259 == a0_1 && (t260 == 0 && (t261 == 0 && (t262 == 0))))))) = true then (if (t273 == t256 && (t274 == t257 && (t275 == t258 && ((wrap64 (t276 - a0_0)) == t259 && (t277 == t260 && (t278 == t261 && (t279 == t262))))))) = true then ((flow_Ready.f t256 t257 t258 t259 t260 t261 t262 a4).bind fun t281 => (if t281 = a4 then ((sandglasslaw12_awake.f kj9).bind fun t282 => (some t282)) else (none))) else (none)) else (none)) = some r := H
          have A45 := Aside0.mk A450
          clear A450
          by_cases c46 : (t256 == a1 && (t257 == a2 && (t258 == 0 && (t259 == a0_1 && (t260 == 0 && (t261 == 0 && (t262 == 0))))))) = true
          · rw [if_pos c46] at H
            have c46b0 : (t256 == a1 && (t257 == a2 && (t258 == 0 && (t259 == a0_1 && (t260 == 0 && (t261 == 0 && (t262 == 0))))))) = true := c46
            (try (have c46b1 : decide (t256 = a1 && (t257 == a2 && (t258 == 0 && (t259 == a0_1 && (t260 == 0 && (t261 == 0 && (t262 == 0))))))) = true := by simpa using c46))
            (try (have c46b2 : (t256 == a1 && (t257 == a2 && (t258 == 0 && (t259 == a0_1 && (t260 == 0 && (t261 == 0 && (t262 == 0))))))) = true := by simpa using c46))
            clear c46
            by_cases c47 : (t273 == t256 && (t274 == t257 && (t275 == t258 && ((wrap64 (t276 - a0_0)) == t259 && (t277 == t260 && (t278 == t261 && (t279 == t262))))))) = true
            · rw [if_pos c47] at H
              have c47b0 : (t273 == t256 && (t274 == t257 && (t275 == t258 && ((wrap64 (t276 - a0_0)) == t259 && (t277 == t260 && (t278 == t261 && (t279 == t262))))))) = true := c47
              (try (have c47b1 : decide (t273 = t256 && (t274 == t257 && (t275 == t258 && ((wrap64 (t276 - a0_0)) == t259 && (t277 == t260 && (t278 == t261 && (t279 == t262))))))) = true := by simpa using c47))
              (try (have c47b2 : (t273 == t256 && (t274 == t257 && (t275 == t258 && ((wrap64 (t276 - a0_0)) == t259 && (t277 == t260 && (t278 == t261 && (t279 == t262))))))) = true := by simpa using c47))
              clear c47
              replace H := Option.bind_eq_some_iff.mp H
              obtain ⟨t281, A480, H⟩ := H
              replace H : (if t281 = a4 then ((sandglasslaw12_awake.f kj9).bind fun t282 => (some t282)) else (none)) = some r := H
              have A48 := Aside0.mk A480
              clear A480
              by_cases c49 : t281 = a4
              · rw [if_pos c49] at H
                have c49b0 : (t281 == a4) = true := beq_iff_eq.mpr c49
                have c49b1 : (t281 != a4) = false := bne_eq_false_iff_eq.mpr c49
                clear c49
                replace H := Option.bind_eq_some_iff.mp H
                obtain ⟨t282, A500, H⟩ := H
                replace H : (some t282) = some r := H
                have A50 := Aside0.mk A500
                clear A500
                obtain rfl := Option.some.inj H
                have hnb51 := NB263_253.out
                have hnc51 := NB253_263.out
                have hnb52 := NB263_272.out
                have hnc52 := NB272_263.out
                obtain ⟨hcz53_0, hcz53_1, hcz53_2, hcz53_3, hcz53_4, hcz53_5, hcz53_6, hfz53_0, hfz53_1, hfz53_2, hfz53_3, hfz53_4, hfz53_5, hfz53_6⟩ := cells7 BK263.out
                have hnb54 := NB253_272.out
                have hnc54 := NB272_253.out
                obtain ⟨hcz55_0, hcz55_1, hcz55_2, hcz55_3, hcz55_4, hfz55_0, hfz55_1, hfz55_2, hfz55_3, hfz55_4⟩ := cells5 BK253.out
                go_wp2_with (first | ((with_reducible refine gate_callee (f := 12) rfl ?_); refine goesL_ (some 55) rfl rfl Try.func12 (by kernel_rfl) rfl #[.agg #[.int .u64 t256, .int .u64 t257, .int .u64 t258, .int .i64 t259, .int .u64 t260, .int .u64 t261, .int .u64 t262], .agg #[.int .i64 a0_0, .int .i64 a0_1, .int .u64 a0_2, .int .u64 a0_3, .int .u64 a0_4]] rfl (by (try simp only [List.map_toArray, List.map_cons, List.map_nil]); first | done | rfl | (simp only [List.length_drop, List.length_take]; rfl)) ?_; (with_reducible refine (flow_Fill.calls t256 t257 t258 t259 t260 t261 t262 a0_0 a0_1 a0_2 a0_3 a0_4 t273 t274 t275 t276 t277 t278 t279 _ A45.out).mono ?_); rintro e w56 ⟨rfl, hb⟩; refine ⟨_, rfl, ?_⟩; have n0_ := Aside0.mk (blk_below (g := gb253) (o := .cells #[.int .i64 a0_0, .int .i64 a0_1, .int .u64 a0_2, .int .u64 a0_3, .int .u64 a0_4] 24 (0, 0)) (by (with_reducible repeat (first | refine blk_drewN ?_ _ | refine blk_drew ?_ | refine blk_alloc ?_ _)); exact BK253.out) hb); have n1_ := Aside0.mk (blk_below (g := gb263) (o := .cells #[.int .u64 t256, .int .u64 t257, .int .u64 t258, .int .i64 t259, .int .u64 t260, .int .u64 t261, .int .u64 t262] 30 (0, 0)) (by (with_reducible repeat (first | refine blk_drewN ?_ _ | refine blk_drew ?_ | refine blk_alloc ?_ _)); exact BK263.out) hb); have n2_ := Aside0.mk (blk_below (g := gb272) (o := .cells #[.int .u64 t264, .int .u64 t265, .int .u64 t266, .int .i64 t267, .int .u64 t268, .int .u64 t269, .int .u64 t270] 30 (0, 0)) (by (with_reducible repeat (first | refine blk_drewN ?_ _ | refine blk_drew ?_ | refine blk_alloc ?_ _)); exact BK272.out) hb); have n3_ := Aside0.mk (below_step (by repeat (first | (with_reducible first | exact HB.out | apply below_alloc | apply pw_below_drewN | apply below_drew1 | refine below_set ?_ GE253.out | refine below_set ?_ GE263.out | refine below_set ?_ GE272.out) | exact HB.out)) hb); clear BK253; clear BK263; clear BK272; clear HB; have BK253 := n0_; have BK263 := n1_; have BK272 := n2_; have HB := n3_; clear n0_ n1_ n2_ n3_; (try clear hb); (try clear hb2); (try clear hk); (try clear hi); go_wp2_with (first | ((with_reducible refine gate_dst (N := 14) rfl ?_); refine box_event ?hg (N := 14) ?hd (cs := #[.int .u64 0, .int .u64 0, .int .u64 0, .int .i64 0, .int .u64 0, .int .u64 0, .int .u64 0]) (t := 30) ?hr ?_; (case hd => rfl); (case hg => rfl); (case hr => first | (go_simp; done) | (go_simp; rfl)); intro gb280 hg w57 hbox hb; have n0_ := Aside0.mk (blk_below (g := gb253) (o := .cells #[.int .i64 a0_0, .int .i64 a0_1, .int .u64 a0_2, .int .u64 a0_3, .int .u64 a0_4] 24 (0, 0)) (by (with_reducible repeat (first | refine blk_drewN ?_ _ | refine blk_drew ?_ | refine blk_alloc ?_ _)); exact BK253.out) hb); have n1_ := Aside0.mk (blk_below (g := gb263) (o := .cells #[.int .u64 t256, .int .u64 t257, .int .u64 t258, .int .i64 t259, .int .u64 t260, .int .u64 t261, .int .u64 t262] 30 (0, 0)) (by (with_reducible repeat (first | refine blk_drewN ?_ _ | refine blk_drew ?_ | refine blk_alloc ?_ _)); exact BK263.out) hb); have n2_ := Aside0.mk (blk_below (g := gb272) (o := .cells #[.int .u64 t264, .int .u64 t265, .int .u64 t266, .int .i64 t267, .int .u64 t268, .int .u64 t269, .int .u64 t270] 30 (0, 0)) (by (with_reducible repeat (first | refine blk_drewN ?_ _ | refine blk_drew ?_ | refine blk_alloc ?_ _)); exact BK272.out) hb); have n3_ := Aside0.mk (below_step (by repeat (first | (with_reducible first | exact HB.out | apply below_alloc | apply pw_below_drewN | apply below_drew1 | refine below_set ?_ GE253.out | refine below_set ?_ GE263.out | refine below_set ?_ GE272.out) | exact HB.out)) hb); have n4_ := Aside0.mk (hbox); have n5_ := Aside0.mk ((by rw [hg]; exact (below_size (by repeat (first | (with_reducible first | exact HB.out | apply below_alloc | apply pw_below_drewN | apply below_drew1 | refine below_set ?_ GE253.out | refine below_set ?_ GE263.out | refine below_set ?_ GE272.out) | exact HB.out))) : w.heap.size ≤ gb280)); have n6_ := Aside0.mk ((by rw [hg]; exact (below_size (by repeat (first | (with_reducible first | exact HB.out | apply below_alloc | apply pw_below_drewN | apply below_drew1 | refine below_set ?_ GE253.out | refine below_set ?_ GE263.out | refine below_set ?_ GE272.out) | exact HB.out))) : w.heap.size ≤ gb280)); have n7_ := Aside0.mk ((by rw [hg]; exact Nat.ne_of_lt (blk_lt (g := gb253) (o := .cells #[.int .i64 a0_0, .int .i64 a0_1, .int .u64 a0_2, .int .u64 a0_3, .int .u64 a0_4] 24 (0, 0)) (by (with_reducible repeat (first | refine blk_drewN ?_ _ | refine blk_drew ?_ | refine blk_alloc ?_ _)); exact BK253.out)) : gb253 ≠ gb280)); have n8_ := Aside0.mk ((by rw [hg]; exact Nat.ne_of_gt (blk_lt (g := gb253) (o := .cells #[.int .i64 a0_0, .int .i64 a0_1, .int .u64 a0_2, .int .u64 a0_3, .int .u64 a0_4] 24 (0, 0)) (by (with_reducible repeat (first | refine blk_drewN ?_ _ | refine blk_drew ?_ | refine blk_alloc ?_ _)); exact BK253.out)) : gb280 ≠ gb253)); have n9_ := Aside0.mk ((by rw [hg]; exact Nat.ne_of_lt (blk_lt (g := gb263) (o := .cells #[.int .u64 t256, .int .u64 t257, .int .u64 t258, .int .i64 t259, .int .u64 t260, .int .u64 t261, .int .u64 t262] 30 (0, 0)) (by (with_reducible repeat (first | refine blk_drewN ?_ _ | refine blk_drew ?_ | refine blk_alloc ?_ _)); exact BK263.out)) : gb263 ≠ gb280)); have n10_ := Aside0.mk ((by rw [hg]; exact Nat.ne_of_gt (blk_lt (g := gb263) (o := .cells #[.int .u64 t256, .int .u64 t257, .int .u64 t258, .int .i64 t259, .int .u64 t260, .int .u64 t261, .int .u64 t262] 30 (0, 0)) (by (with_reducible repeat (first | refine blk_drewN ?_ _ | refine blk_drew ?_ | refine blk_alloc ?_ _)); exact BK263.out)) : gb280 ≠ gb263)); have n11_ := Aside0.mk ((by rw [hg]; exact Nat.ne_of_lt (blk_lt (g := gb272) (o := .cells #[.int .u64 t264, .int .u64 t265, .int .u64 t266, .int .i64 t267, .int .u64 t268, .int .u64 t269, .int .u64 t270] 30 (0, 0)) (by (with_reducible repeat (first | refine blk_drewN ?_ _ | refine blk_drew ?_ | refine blk_alloc ?_ _)); exact BK272.out)) : gb272 ≠ gb280)); have n12_ := Aside0.mk ((by rw [hg]; exact Nat.ne_of_gt (blk_lt (g := gb272) (o := .cells #[.int .u64 t264, .int .u64 t265, .int .u64 t266, .int .i64 t267, .int .u64 t268, .int .u64 t269, .int .u64 t270] 30 (0, 0)) (by (with_reducible repeat (first | refine blk_drewN ?_ _ | refine blk_drew ?_ | refine blk_alloc ?_ _)); exact BK272.out)) : gb280 ≠ gb272)); clear BK253; clear BK263; clear BK272; clear HB; have BK253 := n0_; have BK263 := n1_; have BK272 := n2_; have HB := n3_; have BK280 := n4_; have GW280 := n5_; have GE280 := n6_; have NB253_280 := n7_; have NB280_253 := n8_; have NB263_280 := n9_; have NB280_263 := n10_; have NB272_280 := n11_; have NB280_272 := n12_; clear n0_ n1_ n2_ n3_ n4_ n5_ n6_ n7_ n8_ n9_ n10_ n11_ n12_; clear hb hbox hg; have hnb58 := NB280_253.out; have hnc58 := NB253_280.out; have hnb59 := NB280_263.out; have hnc59 := NB263_280.out; have hnb60 := NB280_272.out; have hnc60 := NB272_280.out; obtain ⟨hcz61_0, hcz61_1, hcz61_2, hcz61_3, hcz61_4, hcz61_5, hcz61_6, hfz61_0, hfz61_1, hfz61_2, hfz61_3, hfz61_4, hfz61_5, hfz61_6⟩ := cells7 BK280.out) | ((with_reducible refine gate_store (t := 30) (p := 14) rfl ?_); refine store_event (t := 30) (p := 14) (v := ?vo_w62) (w1 := (((((((w57.setCell ⟨gb280, 0, none⟩ (.int .u64 t273)).setCell ⟨gb280, 1, none⟩ (.int .u64 t274)).setCell ⟨gb280, 2, none⟩ (.int .u64 t275)).setCell ⟨gb280, 3, none⟩ (.int .i64 t276)).setCell ⟨gb280, 4, none⟩ (.int .u64 t277)).setCell ⟨gb280, 5, none⟩ (.int .u64 t278)).setCell ⟨gb280, 6, none⟩ (.int .u64 t279))) ?hg ?ho ?hn ?hr ?_; (case ho => rfl); (case hg => rfl); (case hn => rfl); (case hr => first | (go_simp; done) | (go_simp; rfl)); intro w62 hw; have n0_ : Aside0 (w62.heap[gb253]? = some (.cells #[.int .i64 a0_0, .int .i64 a0_1, .int .u64 a0_2, .int .u64 a0_3, .int .u64 a0_4] 24 (0, 0))) := ⟨(by rw [hw]; exact (by (with_reducible repeat (first | refine blk_drewN ?_ _ | refine blk_drew ?_ | refine blk_alloc ?_ _)); refine far7 ?_ NB253_280.out; (with_reducible repeat (first | refine blk_drewN ?_ _ | refine blk_drew ?_ | refine blk_alloc ?_ _)); exact BK253.out))⟩; have n1_ : Aside0 (w62.heap[gb263]? = some (.cells #[.int .u64 t256, .int .u64 t257, .int .u64 t258, .int .i64 t259, .int .u64 t260, .int .u64 t261, .int .u64 t262] 30 (0, 0))) := ⟨(by rw [hw]; exact (by (with_reducible repeat (first | refine blk_drewN ?_ _ | refine blk_drew ?_ | refine blk_alloc ?_ _)); refine far7 ?_ NB263_280.out; (with_reducible repeat (first | refine blk_drewN ?_ _ | refine blk_drew ?_ | refine blk_alloc ?_ _)); exact BK263.out))⟩; have n2_ : Aside0 (w62.heap[gb272]? = some (.cells #[.int .u64 t264, .int .u64 t265, .int .u64 t266, .int .i64 t267, .int .u64 t268, .int .u64 t269, .int .u64 t270] 30 (0, 0))) := ⟨(by rw [hw]; exact (by (with_reducible repeat (first | refine blk_drewN ?_ _ | refine blk_drew ?_ | refine blk_alloc ?_ _)); refine far7 ?_ NB272_280.out; (with_reducible repeat (first | refine blk_drewN ?_ _ | refine blk_drew ?_ | refine blk_alloc ?_ _)); exact BK272.out))⟩; have n3_ : Aside0 (w62.heap[gb280]? = some (.cells #[.int .u64 t273, .int .u64 t274, .int .u64 t275, .int .i64 t276, .int .u64 t277, .int .u64 t278, .int .u64 t279] 30 (0, 0))) := ⟨(by rw [hw]; exact (by (with_reducible repeat (first | refine blk_drewN ?_ _ | refine blk_drew ?_ | refine blk_alloc ?_ _)); apply puts7; (with_reducible repeat (first | refine blk_drewN ?_ _ | refine blk_drew ?_ | refine blk_alloc ?_ _)); exact BK280.out))⟩; have n4_ : Aside0 (Below w.heap.size w w62) := ⟨(by rw [hw]; exact (by repeat (first | (with_reducible first | exact HB.out | apply below_alloc | apply pw_below_drewN | apply below_drew1 | refine below_set ?_ GE253.out | refine below_set ?_ GE263.out | refine below_set ?_ GE272.out | refine below_set ?_ GE280.out) | exact HB.out)))⟩; clear hw; clear BK253; clear BK263; clear BK272; clear BK280; clear HB; have BK253 := n0_; have BK263 := n1_; have BK272 := n2_; have BK280 := n3_; have HB := n4_; clear n0_ n1_ n2_ n3_ n4_; obtain ⟨hcz63_0, hcz63_1, hcz63_2, hcz63_3, hcz63_4, hcz63_5, hcz63_6, hfz63_0, hfz63_1, hfz63_2, hfz63_3, hfz63_4, hfz63_5, hfz63_6⟩ := cells7 BK280.out; obtain ⟨hcz64_0, hcz64_1, hcz64_2, hcz64_3, hcz64_4, hfz64_0, hfz64_1, hfz64_2, hfz64_3, hfz64_4⟩ := cells5 BK253.out; obtain ⟨hcz65_0, hcz65_1, hcz65_2, hcz65_3, hcz65_4, hcz65_5, hcz65_6, hfz65_0, hfz65_1, hfz65_2, hfz65_3, hfz65_4, hfz65_5, hfz65_6⟩ := cells7 BK263.out; go_wp2_with (first | (go_at_call 13; (with_reducible refine (flow_Ready.calls t256 t257 t258 t259 t260 t261 t262 a4 t281 _ A48.out).mono ?_); rintro e w66 ⟨rfl, hb⟩; have n0_ := Aside0.mk (blk_below (g := gb253) (o := .cells #[.int .i64 a0_0, .int .i64 a0_1, .int .u64 a0_2, .int .u64 a0_3, .int .u64 a0_4] 24 (0, 0)) (by (with_reducible repeat (first | refine blk_drewN ?_ _ | refine blk_drew ?_ | refine blk_alloc ?_ _)); refine blk_far ?_ NB253_280.out _; (with_reducible repeat (first | refine blk_drewN ?_ _ | refine blk_drew ?_ | refine blk_alloc ?_ _)); exact BK253.out) hb); have n1_ := Aside0.mk (blk_below (g := gb263) (o := .cells #[.int .u64 t256, .int .u64 t257, .int .u64 t258, .int .i64 t259, .int .u64 t260, .int .u64 t261, .int .u64 t262] 30 (0, 0)) (by (with_reducible repeat (first | refine blk_drewN ?_ _ | refine blk_drew ?_ | refine blk_alloc ?_ _)); refine blk_far ?_ NB263_280.out _; (with_reducible repeat (first | refine blk_drewN ?_ _ | refine blk_drew ?_ | refine blk_alloc ?_ _)); exact BK263.out) hb); have n2_ := Aside0.mk (blk_below (g := gb272) (o := .cells #[.int .u64 t264, .int .u64 t265, .int .u64 t266, .int .i64 t267, .int .u64 t268, .int .u64 t269, .int .u64 t270] 30 (0, 0)) (by (with_reducible repeat (first | refine blk_drewN ?_ _ | refine blk_drew ?_ | refine blk_alloc ?_ _)); refine blk_far ?_ NB272_280.out _; (with_reducible repeat (first | refine blk_drewN ?_ _ | refine blk_drew ?_ | refine blk_alloc ?_ _)); exact BK272.out) hb); have n3_ := Aside0.mk (blk_below (g := gb280) (o := .cells #[.int .u64 t273, .int .u64 t274, .int .u64 t275, .int .i64 (wrap64 (t276 - a0_0)), .int .u64 t277, .int .u64 t278, .int .u64 t279] 30 (0, 0)) (by (with_reducible repeat (first | refine blk_drewN ?_ _ | refine blk_drew ?_ | refine blk_alloc ?_ _)); refine blk_put (cs := #[.int .u64 t273, .int .u64 t274, .int .u64 t275, .int .i64 t276, .int .u64 t277, .int .u64 t278, .int .u64 t279]) ?_ 3 _ rfl; (with_reducible repeat (first | refine blk_drewN ?_ _ | refine blk_drew ?_ | refine blk_alloc ?_ _)); exact BK280.out) hb); have n4_ := Aside0.mk (below_step (by repeat (first | (with_reducible first | exact HB.out | apply below_alloc | apply pw_below_drewN | apply below_drew1 | refine below_set ?_ GE253.out | refine below_set ?_ GE263.out | refine below_set ?_ GE272.out | refine below_set ?_ GE280.out) | exact HB.out)) hb); clear BK253; clear BK263; clear BK272; clear BK280; clear HB; have BK253 := n0_; have BK263 := n1_; have BK272 := n2_; have BK280 := n3_; have HB := n4_; clear n0_ n1_ n2_ n3_ n4_; (try clear hb); (try clear hb2); (try clear hk); (try clear hi); go_wp2_with (first | (go_at_call 9; (with_reducible refine (sandglasslaw12_awake.calls kj9  t282 _ A50.out).mono ?_); rintro e w67 ⟨rfl, hb⟩; have n0_ := Aside0.mk (blk_below (g := gb253) (o := .cells #[.int .i64 a0_0, .int .i64 a0_1, .int .u64 a0_2, .int .u64 a0_3, .int .u64 a0_4] 24 (0, 0)) (by (with_reducible repeat (first | refine blk_drewN ?_ _ | refine blk_drew ?_ | refine blk_alloc ?_ _)); exact BK253.out) hb); have n1_ := Aside0.mk (blk_below (g := gb263) (o := .cells #[.int .u64 t256, .int .u64 t257, .int .u64 t258, .int .i64 t259, .int .u64 t260, .int .u64 t261, .int .u64 t262] 30 (0, 0)) (by (with_reducible repeat (first | refine blk_drewN ?_ _ | refine blk_drew ?_ | refine blk_alloc ?_ _)); exact BK263.out) hb); have n2_ := Aside0.mk (blk_below (g := gb272) (o := .cells #[.int .u64 t264, .int .u64 t265, .int .u64 t266, .int .i64 t267, .int .u64 t268, .int .u64 t269, .int .u64 t270] 30 (0, 0)) (by (with_reducible repeat (first | refine blk_drewN ?_ _ | refine blk_drew ?_ | refine blk_alloc ?_ _)); exact BK272.out) hb); have n3_ := Aside0.mk (blk_below (g := gb280) (o := .cells #[.int .u64 t273, .int .u64 t274, .int .u64 t275, .int .i64 (wrap64 (t276 - a0_0)), .int .u64 t277, .int .u64 t278, .int .u64 t279] 30 (0, 0)) (by (with_reducible repeat (first | refine blk_drewN ?_ _ | refine blk_drew ?_ | refine blk_alloc ?_ _)); exact BK280.out) hb); have n4_ := Aside0.mk (below_step (by repeat (first | (with_reducible first | exact HB.out | apply below_alloc | apply pw_below_drewN | apply below_drew1 | refine below_set ?_ GE253.out | refine below_set ?_ GE263.out | refine below_set ?_ GE272.out | refine below_set ?_ GE280.out) | exact HB.out)) hb); clear BK253; clear BK263; clear BK272; clear BK280; clear HB; have BK253 := n0_; have BK263 := n1_; have BK272 := n2_; have BK280 := n3_; have HB := n4_; clear n0_ n1_ n2_ n3_ n4_; (try clear hb); (try clear hb2); (try clear hk); (try clear hi); go_wp2_with (fail)))))))))
                go_ret
                exact ⟨by first | rfl | (simp [errW_none, errW_some] <;> rfl) | (simp [*, errW_none, errW_some] <;> rfl), by repeat (first | (with_reducible first | exact HB.out | apply below_alloc | apply pw_below_drewN | apply below_drew1 | refine below_set ?_ GE253.out | refine below_set ?_ GE263.out | refine below_set ?_ GE272.out | refine below_set ?_ GE280.out) | exact HB.out)⟩
              · rw [if_neg c49] at H
                exact absurd H (by simp)
            · rw [if_neg c47] at H
              exact absurd H (by simp)
          · rw [if_neg c46] at H
            exact absurd H (by simp)
  · replace c7 := Bool.eq_false_iff.mpr c7
    subst c7
    have H1 : ((sandglasslaw12_awake.f k).bind fun t255 => (some t255)) = some r := by rw [if_neg (show ¬ (false = true) by decide)] at H; exact H
    clear H
    have H := H1
    clear H1
    replace H := Option.bind_eq_some_iff.mp H
    obtain ⟨t255, A680, H⟩ := H
    replace H : (some t255) = some r := H
    have A68 := Aside0.mk A680
    clear A680
    obtain rfl := Option.some.inj H
    go_enter Try.func4, Try.ntmps4
    go_wp2_with (first | ((with_reducible refine gate_dst (N := 5) rfl ?_); refine box_event ?hg (N := 5) ?hd (cs := #[.int .i64 a0_0, .int .i64 a0_1, .int .u64 a0_2, .int .u64 a0_3, .int .u64 a0_4]) (t := 24) ?hr ?_; (case hd => rfl); (case hg => rfl); (case hr => first | (go_simp; done) | (go_simp; rfl)); intro gb253 hg w69 hbox hb; have n0_ := Aside0.mk (below_step (by repeat (first | (with_reducible first | exact HB.out | apply below_alloc | apply pw_below_drewN | apply below_drew1) | exact HB.out)) hb); have n1_ := Aside0.mk (hbox); have n2_ := Aside0.mk ((by rw [hg]; exact (below_size (by repeat (first | (with_reducible first | exact HB.out | apply below_alloc | apply pw_below_drewN | apply below_drew1) | exact HB.out))) : w.heap.size ≤ gb253)); have n3_ := Aside0.mk ((by rw [hg]; exact (below_size (by repeat (first | (with_reducible first | exact HB.out | apply below_alloc | apply pw_below_drewN | apply below_drew1) | exact HB.out))) : w.heap.size ≤ gb253)); clear HB; have HB := n0_; have BK253 := n1_; have GW253 := n2_; have GE253 := n3_; clear n0_ n1_ n2_ n3_; clear hb hbox hg; obtain ⟨hcz70_0, hcz70_1, hcz70_2, hcz70_3, hcz70_4, hfz70_0, hfz70_1, hfz70_2, hfz70_3, hfz70_4⟩ := cells5 BK253.out) | ((with_reducible refine gate_callee (f := 8) rfl ?_); refine goesL_ (some 16) rfl rfl Try.func8 (by kernel_rfl) rfl #[.agg #[.int .i64 a0_0, .int .i64 a0_1, .int .u64 a0_2, .int .u64 a0_3, .int .u64 a0_4]] rfl (by (try simp only [List.map_toArray, List.map_cons, List.map_nil]); first | done | rfl | (simp only [List.length_drop, List.length_take]; rfl)) ?_; (with_reducible refine (flow_Right.calls a0_0 a0_1 a0_2 a0_3 a0_4 false _ A6.out).mono ?_); rintro e w71 ⟨rfl, hb⟩; refine ⟨_, rfl, ?_⟩; have n0_ := Aside0.mk (blk_below (g := gb253) (o := .cells #[.int .i64 a0_0, .int .i64 a0_1, .int .u64 a0_2, .int .u64 a0_3, .int .u64 a0_4] 24 (0, 0)) (by (with_reducible repeat (first | refine blk_drewN ?_ _ | refine blk_drew ?_ | refine blk_alloc ?_ _)); exact BK253.out) hb); have n1_ := Aside0.mk (below_step (by repeat (first | (with_reducible first | exact HB.out | apply below_alloc | apply pw_below_drewN | apply below_drew1 | refine below_set ?_ GE253.out) | exact HB.out)) hb); clear BK253; clear HB; have BK253 := n0_; have HB := n1_; clear n0_ n1_; (try clear hb); (try clear hb2); (try clear hk); (try clear hi); go_wp2_with (first | ((with_reducible refine gate_callee (f := 9) rfl ?_); refine goesL_ (some 18) rfl rfl Try.func9 (by kernel_rfl) rfl #[] rfl (by (try simp only [List.map_toArray, List.map_cons, List.map_nil]); first | done | rfl | (simp only [List.length_drop, List.length_take]; rfl)) ?_; (with_reducible refine (sandglasslaw12_awake.calls k  t255 _ A68.out).mono ?_); rintro e w72 ⟨rfl, hb⟩; refine ⟨_, rfl, ?_⟩; have n0_ := Aside0.mk (blk_below (g := gb253) (o := .cells #[.int .i64 a0_0, .int .i64 a0_1, .int .u64 a0_2, .int .u64 a0_3, .int .u64 a0_4] 24 (0, 0)) (by (with_reducible repeat (first | refine blk_drewN ?_ _ | refine blk_drew ?_ | refine blk_alloc ?_ _)); exact BK253.out) hb); have n1_ := Aside0.mk (below_step (by repeat (first | (with_reducible first | exact HB.out | apply below_alloc | apply pw_below_drewN | apply below_drew1 | refine below_set ?_ GE253.out) | exact HB.out)) hb); clear BK253; clear HB; have BK253 := n0_; have HB := n1_; clear n0_ n1_; (try clear hb); (try clear hb2); (try clear hk); (try clear hi); go_wp2_with (fail)))))
    go_ret
    exact ⟨by first | rfl | (simp [errW_none, errW_some] <;> rfl) | (simp [*, errW_none, errW_some] <;> rfl), by repeat (first | (with_reducible first | exact HB.out | apply below_alloc | apply pw_below_drewN | apply below_drew1 | refine below_set ?_ GE253.out) | exact HB.out)⟩

/-- THE ONE PURE STATEMENT of sandglasslaw12_FlowWrong. -/
def sandglasslaw12_FlowWrong.Pure : Prop := ∀ (a0_0 : Int) (a0_1 : Int) (a0_2 : Int) (a0_3 : Int) (a0_4 : Int) (a1 : Int) (a2 : Int) (a3 : Int) (a4 : Int), (Lit.int .i64 a0_0).wf = true → (Lit.int .i64 a0_1).wf = true → (Lit.int .u64 a0_2).wf = true → (Lit.int .u64 a0_3).wf = true → (Lit.int .u64 a0_4).wf = true → (Lit.int .u64 a1).wf = true → (Lit.int .u64 a2).wf = true → (Lit.int .i64 a3).wf = true → (Lit.int .u64 a4).wf = true → ∃ k, sandglasslaw12_FlowWrong.f k a0_0 a0_1 a0_2 a0_3 a0_4 a1 a2 a3 a4 = some true

end Go.Proofs.Ytdkcgcijppmkiaa.PFlow
