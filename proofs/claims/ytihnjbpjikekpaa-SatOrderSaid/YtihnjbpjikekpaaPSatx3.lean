/- One text of a proof that a law answers true for every input. No condition. Printed by p2.py (wip/tools of this repo), which drives the print of the kit; Lean checks it. -/
import Derived.Test.YtihnjbpjikekpaaPSatx0
import Derived.Test.YtihnjbpjikekpaaPSatx1
namespace Go.Proofs.Ytihnjbpjikekpaa.PSat
open Go.RowKit Go.Proofs.Ytihnjbpjikekpaa.Ext Go.Proofs.YtihnjbpjikekpaaW.PrintWords Go.Proofs.YtihnjbpjikekpaaW.PrintLast Go.Proofs.YtihnjbpjikekpaaW.PrintMore
attribute [local go_sem] max2_int min2_int max_two min_two max_three min_three max_four min_four   -- for this text's walks alone
set_option linter.unusedVariables false
set_option linter.unusedSimpArgs false

/-! ### sandglasslaw01_SatOrder: function 5 -/
mutual
def sandglasslaw01_SatOrder.j0 : Nat → Int → Int → Int → Int → Int → Int → Bool → Option (Bool)
  | 0, _, _, _, _, _, _, _ => none
  | k + 1, x0, x1, x2, x13, x14, x15, x63 => if x63 = true then (some false) else ((sat_Down.f x13 x14 x2).bind fun t157 => ((sat_Down.f x0 x1 x2).bind fun t158 => (if t157 < t158 then (sandglasslaw01_SatOrder.j1 k x0 x1 x2 x15 true) else ((sat_Up.f x13 x14 x2).bind fun t159 => ((sat_Up.f x0 x1 x2).bind fun t160 => (sandglasslaw01_SatOrder.j1 k x0 x1 x2 x15 (decide (t159 < t160))))))))
def sandglasslaw01_SatOrder.j1 : Nat → Int → Int → Int → Int → Bool → Option (Bool)
  | 0, _, _, _, _, _ => none
  | k + 1, x0, x1, x2, x15, x83 => if x83 = true then (some false) else (if x2 = 0 then ((sandglasslaw01_awake.f).bind fun t161 => (some t161)) else ((sat_Down.f x0 x1 x15).bind fun t162 => ((sat_Down.f x0 x1 x2).bind fun t163 => (if t162 ≤ t163 then ((sat_Up.f x0 x1 x15).bind fun t164 => ((sat_Up.f x0 x1 x2).bind fun t165 => (if t164 ≤ t165 then ((sandglasslaw01_awake.f).bind fun t166 => (some t166)) else (some false)))) else (some false)))))
end
def sandglasslaw01_SatOrder.f (k : Nat) (a0 : Int) (a1 : Int) (a2 : Int) (a3 : Int) (a4 : Int) (a5 : Int) : Option (Bool) := (sat_Add.f a0 a3).bind fun t146 => ((sat_Add.f a1 a4).bind fun t147 => ((sat_Add.f a2 a5).bind fun t148 => (if t146 < a0 then (sandglasslaw01_SatOrder.j0 k a0 a1 a2 t146 t147 t148 true) else ((sat_Add.f t146 t147).bind fun t149 => ((sat_Add.f a0 a1).bind fun t150 => (if t149 < t150 then (sandglasslaw01_SatOrder.j0 k a0 a1 a2 t146 t147 t148 true) else ((sat_Mul.f t146 t147).bind fun t151 => ((sat_Mul.f a0 a1).bind fun t152 => (if t151 < t152 then (sandglasslaw01_SatOrder.j0 k a0 a1 a2 t146 t147 t148 true) else ((sat_Sub.f t146 a1).bind fun t153 => ((sat_Sub.f a0 a1).bind fun t154 => (if t153 < t154 then (sandglasslaw01_SatOrder.j0 k a0 a1 a2 t146 t147 t148 true) else ((sat_Sub.f a0 t147).bind fun t155 => ((sat_Sub.f a0 a1).bind fun t156 => (sandglasslaw01_SatOrder.j0 k a0 a1 a2 t146 t147 t148 (decide (t155 > t156)))))))))))))))))
theorem sandglasslaw01_SatOrder.mono_l : ∀ k, (∀ y0 y1 y2 y3 y4 y5 y6, LeO (sandglasslaw01_SatOrder.j0 k y0 y1 y2 y3 y4 y5 y6) (sandglasslaw01_SatOrder.j0 (k + 1) y0 y1 y2 y3 y4 y5 y6)) ∧ (∀ y0 y1 y2 y3 y4, LeO (sandglasslaw01_SatOrder.j1 k y0 y1 y2 y3 y4) (sandglasslaw01_SatOrder.j1 (k + 1) y0 y1 y2 y3 y4))
  | 0 => ⟨fun _ _ _ _ _ _ _ r h => by simp [sandglasslaw01_SatOrder.j0] at h, fun _ _ _ _ _ r h => by simp [sandglasslaw01_SatOrder.j1] at h⟩
  | k + 1 => by
    obtain ⟨ih0, ih1⟩ := sandglasslaw01_SatOrder.mono_l k
    refine ⟨?_, ?_⟩
    · intro y0 y1 y2 y3 y4 y5 y6
      unfold sandglasslaw01_SatOrder.j0
      repeat' first
      | (with_reducible exact ih0 _ _ _ _ _ _ _)
      | (with_reducible exact ih1 _ _ _ _ _)
      | (with_reducible exact LeO.refl _)
      | (with_reducible exact LeO.none _)
      | (with_reducible refine LeO.ite ?_ ?_)
      | (with_reducible refine LeO.bind ?_ (fun _ => ?_))
      | exact ih0 _ _ _ _ _ _ _
      | exact ih1 _ _ _ _ _
      | exact LeO.none _
      | refine LeO.ite ?_ ?_
      | refine LeO.bind ?_ (fun _ => ?_)
    · intro y0 y1 y2 y3 y4
      unfold sandglasslaw01_SatOrder.j1
      repeat' first
      | (with_reducible exact ih0 _ _ _ _ _ _ _)
      | (with_reducible exact ih1 _ _ _ _ _)
      | (with_reducible exact LeO.refl _)
      | (with_reducible exact LeO.none _)
      | (with_reducible refine LeO.ite ?_ ?_)
      | (with_reducible refine LeO.bind ?_ (fun _ => ?_))
      | exact ih0 _ _ _ _ _ _ _
      | exact ih1 _ _ _ _ _
      | exact LeO.none _
      | refine LeO.ite ?_ ?_
      | refine LeO.bind ?_ (fun _ => ?_)
theorem sandglasslaw01_SatOrder.mono : ∀ a0 a1 a2 a3 a4 a5 k, LeO (sandglasslaw01_SatOrder.f k a0 a1 a2 a3 a4 a5) (sandglasslaw01_SatOrder.f (k + 1) a0 a1 a2 a3 a4 a5) := by
  intro a0 a1 a2 a3 a4 a5 k
  obtain ⟨ih0, ih1⟩ := sandglasslaw01_SatOrder.mono_l k
  unfold sandglasslaw01_SatOrder.f
  repeat' first
      | (with_reducible exact ih0 _ _ _ _ _ _ _)
      | (with_reducible exact ih1 _ _ _ _ _)
      | (with_reducible exact LeO.refl _)
      | (with_reducible exact LeO.none _)
      | (with_reducible refine LeO.ite ?_ ?_)
      | (with_reducible refine LeO.bind ?_ (fun _ => ?_))
      | exact ih0 _ _ _ _ _ _ _
      | exact ih1 _ _ _ _ _
      | exact LeO.none _
      | refine LeO.ite ?_ ?_
      | refine LeO.bind ?_ (fun _ => ?_)
set_option maxHeartbeats 8000000 in
set_option maxRecDepth 100000 in
theorem sandglasslaw01_SatOrder.calls (k : Nat) (a0 : Int) (a1 : Int) (a2 : Int) (a3 : Int) (a4 : Int) (a5 : Int) (r : Bool) (w : World) (h : sandglasslaw01_SatOrder.f k a0 a1 a2 a3 a4 a5 = some r) :
    Calls Try.prog 5 #[.int .u64 a0, .int .u64 a1, .int .u64 a2, .int .u64 a3, .int .u64 a4, .int .u64 a5] w fun e w' => e = .returned (.bool r) ∧ Drawn0 w w' := by
  have H : ((sat_Add.f a0 a3).bind fun t146 => ((sat_Add.f a1 a4).bind fun t147 => ((sat_Add.f a2 a5).bind fun t148 => (if t146 < a0 then (sandglasslaw01_SatOrder.j0 k a0 a1 a2 t146 t147 t148 true) else ((sat_Add.f t146 t147).bind fun t149 => ((sat_Add.f a0 a1).bind fun t150 => (if t149 < t150 then (sandglasslaw01_SatOrder.j0 k a0 a1 a2 t146 t147 t148 true) else ((sat_Mul.f t146 t147).bind fun t151 => ((sat_Mul.f a0 a1).bind fun t152 => (if t151 < t152 then (sandglasslaw01_SatOrder.j0 k a0 a1 a2 t146 t147 t148 true) else ((sat_Sub.f t146 a1).bind fun t153 => ((sat_Sub.f a0 a1).bind fun t154 => (if t153 < t154 then (sandglasslaw01_SatOrder.j0 k a0 a1 a2 t146 t147 t148 true) else ((sat_Sub.f a0 t147).bind fun t155 => ((sat_Sub.f a0 a1).bind fun t156 => (sandglasslaw01_SatOrder.j0 k a0 a1 a2 t146 t147 t148 (decide (t155 > t156)))))))))))))))))) = some r := h
  clear h
  replace H := Option.bind_eq_some_iff.mp H
  obtain ⟨t146, A70, H⟩ := H
  replace H : ((sat_Add.f a1 a4).bind fun t147 => ((sat_Add.f a2 a5).bind fun t148 => (if t146 < a0 then (sandglasslaw01_SatOrder.j0 k a0 a1 a2 t146 t147 t148 true) else ((sat_Add.f t146 t147).bind fun t149 => ((sat_Add.f a0 a1).bind fun t150 => (if t149 < t150 then (sandglasslaw01_SatOrder.j0 k a0 a1 a2 t146 t147 t148 true) else ((sat_Mul.f t146 t147).bind fun t151 => ((sat_Mul.f a0 a1).bind fun t152 => (if t151 < t152 then (sandglasslaw01_SatOrder.j0 k a0 a1 a2 t146 t147 t148 true) else ((sat_Sub.f t146 a1).bind fun t153 => ((sat_Sub.f a0 a1).bind fun t154 => (if t153 < t154 then (sandglasslaw01_SatOrder.j0 k a0 a1 a2 t146 t147 t148 true) else ((sat_Sub.f a0 t147).bind fun t155 => ((sat_Sub.f a0 a1).bind fun t156 => (sandglasslaw01_SatOrder.j0 k a0 a1 a2 t146 t147 t148 (decide (t155 > t156))))))))))))))))) = some r := H
  have A7 := Aside0.mk A70
  clear A70
  replace H := Option.bind_eq_some_iff.mp H
  obtain ⟨t147, A80, H⟩ := H
  replace H : ((sat_Add.f a2 a5).bind fun t148 => (if t146 < a0 then (sandglasslaw01_SatOrder.j0 k a0 a1 a2 t146 t147 t148 true) else ((sat_Add.f t146 t147).bind fun t149 => ((sat_Add.f a0 a1).bind fun t150 => (if t149 < t150 then (sandglasslaw01_SatOrder.j0 k a0 a1 a2 t146 t147 t148 true) else ((sat_Mul.f t146 t147).bind fun t151 => ((sat_Mul.f a0 a1).bind fun t152 => (if t151 < t152 then (sandglasslaw01_SatOrder.j0 k a0 a1 a2 t146 t147 t148 true) else ((sat_Sub.f t146 a1).bind fun t153 => ((sat_Sub.f a0 a1).bind fun t154 => (if t153 < t154 then (sandglasslaw01_SatOrder.j0 k a0 a1 a2 t146 t147 t148 true) else ((sat_Sub.f a0 t147).bind fun t155 => ((sat_Sub.f a0 a1).bind fun t156 => (sandglasslaw01_SatOrder.j0 k a0 a1 a2 t146 t147 t148 (decide (t155 > t156)))))))))))))))) = some r := H
  have A8 := Aside0.mk A80
  clear A80
  replace H := Option.bind_eq_some_iff.mp H
  obtain ⟨t148, A90, H⟩ := H
  replace H : (if t146 < a0 then (sandglasslaw01_SatOrder.j0 k a0 a1 a2 t146 t147 t148 true) else ((sat_Add.f t146 t147).bind fun t149 => ((sat_Add.f a0 a1).bind fun t150 => (if t149 < t150 then (sandglasslaw01_SatOrder.j0 k a0 a1 a2 t146 t147 t148 true) else ((sat_Mul.f t146 t147).bind fun t151 => ((sat_Mul.f a0 a1).bind fun t152 => (if t151 < t152 then (sandglasslaw01_SatOrder.j0 k a0 a1 a2 t146 t147 t148 true) else ((sat_Sub.f t146 a1).bind fun t153 => ((sat_Sub.f a0 a1).bind fun t154 => (if t153 < t154 then (sandglasslaw01_SatOrder.j0 k a0 a1 a2 t146 t147 t148 true) else ((sat_Sub.f a0 t147).bind fun t155 => ((sat_Sub.f a0 a1).bind fun t156 => (sandglasslaw01_SatOrder.j0 k a0 a1 a2 t146 t147 t148 (decide (t155 > t156))))))))))))))) = some r := H
  have A9 := Aside0.mk A90
  clear A90
  have HC10 := Aside0.mk H
  clear H
  go_enter Try.func5, Try.ntmps5
  go_upto_region 2 with (first | ((with_reducible refine gate_callee (f := 9) rfl ?_); refine goesL_ (some 18) rfl rfl Try.func9 (by kernel_rfl) rfl #[.int .u64 a0, .int .u64 a3] rfl (by (try simp only [List.map_toArray, List.map_cons, List.map_nil]); first | done | rfl | (simp only [List.length_drop, List.length_take]; rfl)) ?_; (with_reducible refine (sat_Add.calls a0 a3 t146 _ A7.out).mono ?_); rintro e w' ⟨rfl, ⟨nd, rfl⟩⟩; refine ⟨_, rfl, ?_⟩) | ((with_reducible refine gate_callee (f := 9) rfl ?_); refine goesL_ (some 21) rfl rfl Try.func9 (by kernel_rfl) rfl #[.int .u64 a1, .int .u64 a4] rfl (by (try simp only [List.map_toArray, List.map_cons, List.map_nil]); first | done | rfl | (simp only [List.length_drop, List.length_take]; rfl)) ?_; (with_reducible refine (sat_Add.calls a1 a4 t147 _ A8.out).mono ?_); rintro e w' ⟨rfl, ⟨nd, rfl⟩⟩; refine ⟨_, rfl, ?_⟩) | ((with_reducible refine gate_callee (f := 9) rfl ?_); refine goesL_ (some 24) rfl rfl Try.func9 (by kernel_rfl) rfl #[.int .u64 a2, .int .u64 a5] rfl (by (try simp only [List.map_toArray, List.map_cons, List.map_nil]); first | done | rfl | (simp only [List.length_drop, List.length_take]; rfl)) ?_; (with_reducible refine (sat_Add.calls a2 a5 t148 _ A9.out).mono ?_); rintro e w' ⟨rfl, ⟨nd, rfl⟩⟩; refine ⟨_, rfl, ?_⟩))
  (try simp only [Act.put, List.setIfInBounds_toArray, List.set_cons_zero, List.set_cons_succ])
  go_cut [63] (fun v63 wc => ∃ (kq : Nat) (x63_9 : Bool), v63 = .bool x63_9 ∧ Aside0 (sandglasslaw01_SatOrder.j0 kq a0 a1 a2 t146 t147 t148 x63_9 = some r) ∧ Aside0 (kq ≤ k) ∧ Drawn0 w wc)
  case first =>
    have H := HC10.out
    clear HC10
    by_cases c11 : t146 < a0
    · rw [if_pos c11] at H
      have c11b0 : decide (t146 < a0) = true := decide_eq_true c11
      clear c11
      (first | rw [c11b0] | (simp only [i64_w, i32_w]; rw [c11b0]) | skip)
      have H' := Aside0.mk H
      clear H
      go_wp2
      go_meet
      case rel => exact ⟨_, (true), (by first | rfl | (simp; done) | (simp [*]; done)), H', ⟨by first | omega | exact Nat.le_refl _⟩, by repeat (first | exact Drawn0.refl _ | apply Drawn0.step)⟩
    · rw [if_neg c11] at H
      have c11b0 : decide (t146 < a0) = false := decide_eq_false c11
      clear c11
      (first | rw [c11b0] | (simp only [i64_w, i32_w]; rw [c11b0]) | skip)
      replace H := Option.bind_eq_some_iff.mp H
      obtain ⟨t149, A120, H⟩ := H
      replace H : ((sat_Add.f a0 a1).bind fun t150 => (if t149 < t150 then (sandglasslaw01_SatOrder.j0 k a0 a1 a2 t146 t147 t148 true) else ((sat_Mul.f t146 t147).bind fun t151 => ((sat_Mul.f a0 a1).bind fun t152 => (if t151 < t152 then (sandglasslaw01_SatOrder.j0 k a0 a1 a2 t146 t147 t148 true) else ((sat_Sub.f t146 a1).bind fun t153 => ((sat_Sub.f a0 a1).bind fun t154 => (if t153 < t154 then (sandglasslaw01_SatOrder.j0 k a0 a1 a2 t146 t147 t148 true) else ((sat_Sub.f a0 t147).bind fun t155 => ((sat_Sub.f a0 a1).bind fun t156 => (sandglasslaw01_SatOrder.j0 k a0 a1 a2 t146 t147 t148 (decide (t155 > t156))))))))))))) = some r := H
      have A12 := Aside0.mk A120
      clear A120
      replace H := Option.bind_eq_some_iff.mp H
      obtain ⟨t150, A130, H⟩ := H
      replace H : (if t149 < t150 then (sandglasslaw01_SatOrder.j0 k a0 a1 a2 t146 t147 t148 true) else ((sat_Mul.f t146 t147).bind fun t151 => ((sat_Mul.f a0 a1).bind fun t152 => (if t151 < t152 then (sandglasslaw01_SatOrder.j0 k a0 a1 a2 t146 t147 t148 true) else ((sat_Sub.f t146 a1).bind fun t153 => ((sat_Sub.f a0 a1).bind fun t154 => (if t153 < t154 then (sandglasslaw01_SatOrder.j0 k a0 a1 a2 t146 t147 t148 true) else ((sat_Sub.f a0 t147).bind fun t155 => ((sat_Sub.f a0 a1).bind fun t156 => (sandglasslaw01_SatOrder.j0 k a0 a1 a2 t146 t147 t148 (decide (t155 > t156)))))))))))) = some r := H
      have A13 := Aside0.mk A130
      clear A130
      by_cases c14 : t149 < t150
      · rw [if_pos c14] at H
        have c14b0 : decide (t149 < t150) = true := decide_eq_true c14
        clear c14
        have H' := Aside0.mk H
        clear H
        go_wp2_with (first | (go_at_call 9; (with_reducible refine (sat_Add.calls t146 t147 t149 _ A12.out).mono ?_); rintro e w' ⟨rfl, ⟨nd, rfl⟩⟩) | (go_at_call 9; (with_reducible refine (sat_Add.calls a0 a1 t150 _ A13.out).mono ?_); rintro e w' ⟨rfl, ⟨nd, rfl⟩⟩))
        go_meet
        case rel => exact ⟨_, (true), (by first | rfl | (simp; done) | (simp [*]; done)), H', ⟨by first | omega | exact Nat.le_refl _⟩, by repeat (first | exact Drawn0.refl _ | apply Drawn0.step)⟩
      · rw [if_neg c14] at H
        have c14b0 : decide (t149 < t150) = false := decide_eq_false c14
        clear c14
        replace H := Option.bind_eq_some_iff.mp H
        obtain ⟨t151, A150, H⟩ := H
        replace H : ((sat_Mul.f a0 a1).bind fun t152 => (if t151 < t152 then (sandglasslaw01_SatOrder.j0 k a0 a1 a2 t146 t147 t148 true) else ((sat_Sub.f t146 a1).bind fun t153 => ((sat_Sub.f a0 a1).bind fun t154 => (if t153 < t154 then (sandglasslaw01_SatOrder.j0 k a0 a1 a2 t146 t147 t148 true) else ((sat_Sub.f a0 t147).bind fun t155 => ((sat_Sub.f a0 a1).bind fun t156 => (sandglasslaw01_SatOrder.j0 k a0 a1 a2 t146 t147 t148 (decide (t155 > t156)))))))))) = some r := H
        have A15 := Aside0.mk A150
        clear A150
        replace H := Option.bind_eq_some_iff.mp H
        obtain ⟨t152, A160, H⟩ := H
        replace H : (if t151 < t152 then (sandglasslaw01_SatOrder.j0 k a0 a1 a2 t146 t147 t148 true) else ((sat_Sub.f t146 a1).bind fun t153 => ((sat_Sub.f a0 a1).bind fun t154 => (if t153 < t154 then (sandglasslaw01_SatOrder.j0 k a0 a1 a2 t146 t147 t148 true) else ((sat_Sub.f a0 t147).bind fun t155 => ((sat_Sub.f a0 a1).bind fun t156 => (sandglasslaw01_SatOrder.j0 k a0 a1 a2 t146 t147 t148 (decide (t155 > t156))))))))) = some r := H
        have A16 := Aside0.mk A160
        clear A160
        by_cases c17 : t151 < t152
        · rw [if_pos c17] at H
          have c17b0 : decide (t151 < t152) = true := decide_eq_true c17
          clear c17
          have H' := Aside0.mk H
          clear H
          go_wp2_with (first | (go_at_call 9; (with_reducible refine (sat_Add.calls t146 t147 t149 _ A12.out).mono ?_); rintro e w' ⟨rfl, ⟨nd, rfl⟩⟩) | (go_at_call 9; (with_reducible refine (sat_Add.calls a0 a1 t150 _ A13.out).mono ?_); rintro e w' ⟨rfl, ⟨nd, rfl⟩⟩) | (go_at_call 13; (with_reducible refine (sat_Mul.calls t146 t147 t151 _ A15.out).mono ?_); rintro e w' ⟨rfl, ⟨nd, rfl⟩⟩) | (go_at_call 13; (with_reducible refine (sat_Mul.calls a0 a1 t152 _ A16.out).mono ?_); rintro e w' ⟨rfl, ⟨nd, rfl⟩⟩))
          go_meet
          case rel => exact ⟨_, (true), (by first | rfl | (simp; done) | (simp [*]; done)), H', ⟨by first | omega | exact Nat.le_refl _⟩, by repeat (first | exact Drawn0.refl _ | apply Drawn0.step)⟩
        · rw [if_neg c17] at H
          have c17b0 : decide (t151 < t152) = false := decide_eq_false c17
          clear c17
          replace H := Option.bind_eq_some_iff.mp H
          obtain ⟨t153, A180, H⟩ := H
          replace H : ((sat_Sub.f a0 a1).bind fun t154 => (if t153 < t154 then (sandglasslaw01_SatOrder.j0 k a0 a1 a2 t146 t147 t148 true) else ((sat_Sub.f a0 t147).bind fun t155 => ((sat_Sub.f a0 a1).bind fun t156 => (sandglasslaw01_SatOrder.j0 k a0 a1 a2 t146 t147 t148 (decide (t155 > t156))))))) = some r := H
          have A18 := Aside0.mk A180
          clear A180
          replace H := Option.bind_eq_some_iff.mp H
          obtain ⟨t154, A190, H⟩ := H
          replace H : (if t153 < t154 then (sandglasslaw01_SatOrder.j0 k a0 a1 a2 t146 t147 t148 true) else ((sat_Sub.f a0 t147).bind fun t155 => ((sat_Sub.f a0 a1).bind fun t156 => (sandglasslaw01_SatOrder.j0 k a0 a1 a2 t146 t147 t148 (decide (t155 > t156)))))) = some r := H
          have A19 := Aside0.mk A190
          clear A190
          by_cases c20 : t153 < t154
          · rw [if_pos c20] at H
            have c20b0 : decide (t153 < t154) = true := decide_eq_true c20
            clear c20
            have H' := Aside0.mk H
            clear H
            go_wp2_with (first | (go_at_call 9; (with_reducible refine (sat_Add.calls t146 t147 t149 _ A12.out).mono ?_); rintro e w' ⟨rfl, ⟨nd, rfl⟩⟩) | (go_at_call 9; (with_reducible refine (sat_Add.calls a0 a1 t150 _ A13.out).mono ?_); rintro e w' ⟨rfl, ⟨nd, rfl⟩⟩) | (go_at_call 13; (with_reducible refine (sat_Mul.calls t146 t147 t151 _ A15.out).mono ?_); rintro e w' ⟨rfl, ⟨nd, rfl⟩⟩) | (go_at_call 13; (with_reducible refine (sat_Mul.calls a0 a1 t152 _ A16.out).mono ?_); rintro e w' ⟨rfl, ⟨nd, rfl⟩⟩) | (go_at_call 11; (with_reducible refine (sat_Sub.calls t146 a1 t153 _ A18.out).mono ?_); rintro e w' ⟨rfl, ⟨nd, rfl⟩⟩) | (go_at_call 11; (with_reducible refine (sat_Sub.calls a0 a1 t154 _ A19.out).mono ?_); rintro e w' ⟨rfl, ⟨nd, rfl⟩⟩))
            go_meet
            case rel => exact ⟨_, (true), (by first | rfl | (simp; done) | (simp [*]; done)), H', ⟨by first | omega | exact Nat.le_refl _⟩, by repeat (first | exact Drawn0.refl _ | apply Drawn0.step)⟩
          · rw [if_neg c20] at H
            have c20b0 : decide (t153 < t154) = false := decide_eq_false c20
            clear c20
            replace H := Option.bind_eq_some_iff.mp H
            obtain ⟨t155, A210, H⟩ := H
            replace H : ((sat_Sub.f a0 a1).bind fun t156 => (sandglasslaw01_SatOrder.j0 k a0 a1 a2 t146 t147 t148 (decide (t155 > t156)))) = some r := H
            have A21 := Aside0.mk A210
            clear A210
            replace H := Option.bind_eq_some_iff.mp H
            obtain ⟨t156, A220, H⟩ := H
            have EA22 := Option.some.inj (A19.out.symm.trans A220)
            subst EA22
            clear A220
            replace H : (sandglasslaw01_SatOrder.j0 k a0 a1 a2 t146 t147 t148 (decide (t155 > t154))) = some r := H
            have H' := Aside0.mk H
            clear H
            go_wp2_with (first | (go_at_call 9; (with_reducible refine (sat_Add.calls t146 t147 t149 _ A12.out).mono ?_); rintro e w' ⟨rfl, ⟨nd, rfl⟩⟩) | (go_at_call 9; (with_reducible refine (sat_Add.calls a0 a1 t150 _ A13.out).mono ?_); rintro e w' ⟨rfl, ⟨nd, rfl⟩⟩) | (go_at_call 13; (with_reducible refine (sat_Mul.calls t146 t147 t151 _ A15.out).mono ?_); rintro e w' ⟨rfl, ⟨nd, rfl⟩⟩) | (go_at_call 13; (with_reducible refine (sat_Mul.calls a0 a1 t152 _ A16.out).mono ?_); rintro e w' ⟨rfl, ⟨nd, rfl⟩⟩) | (go_at_call 11; (with_reducible refine (sat_Sub.calls t146 a1 t153 _ A18.out).mono ?_); rintro e w' ⟨rfl, ⟨nd, rfl⟩⟩) | (go_at_call 11; (with_reducible refine (sat_Sub.calls a0 a1 t154 _ A19.out).mono ?_); rintro e w' ⟨rfl, ⟨nd, rfl⟩⟩) | (go_at_call 11; (with_reducible refine (sat_Sub.calls a0 t147 t155 _ A21.out).mono ?_); rintro e w' ⟨rfl, ⟨nd, rfl⟩⟩) | (go_at_call 11; (with_reducible refine (sat_Sub.calls a0 a1 t154 _ A19.out).mono ?_); rintro e w' ⟨rfl, ⟨nd, rfl⟩⟩))
            go_meet
            case rel => exact ⟨_, (decide (t155 > t154)), (by first | rfl | (simp; done) | (simp [*]; done)), H', ⟨by first | omega | exact Nat.le_refl _⟩, by repeat (first | exact Drawn0.refl _ | apply Drawn0.step)⟩
  case rest =>
    clear HC10
    try clear c1
    try clear c2
    try clear p2
    try clear c5
    try clear c9
    try clear c11
    try clear c11b0
    try clear c14
    try clear c14b0
    try clear c17
    try clear c17b0
    try clear c20
    try clear c20b0
    obtain ⟨kq, x63_9, rfl, HA, HJ9, ⟨mc9, rfl⟩⟩ := hcut
    cases kq with
    | zero => exact absurd HA.out (by simp [sandglasslaw01_SatOrder.j0])
    | succ kj9 =>
      have H := HA.out
      clear HA
      simp only [sandglasslaw01_SatOrder.j0] at H
      by_cases c23 : x63_9 = true
      · subst c23
        have H1 : (some false) = some r := by rw [if_pos rfl] at H; exact H
        clear H
        have H := H1
        clear H1
        obtain rfl := Option.some.inj H
        go_wp2
        go_ret
        exact ⟨by first | rfl | (simp; done) | (simp [*]; done), by repeat (first | exact Drawn0.refl _ | apply Drawn0.step)⟩
      · replace c23 := Bool.eq_false_iff.mpr c23
        subst c23
        have H1 : ((sat_Down.f t146 t147 a2).bind fun t157 => ((sat_Down.f a0 a1 a2).bind fun t158 => (if t157 < t158 then (sandglasslaw01_SatOrder.j1 kj9 a0 a1 a2 t148 true) else ((sat_Up.f t146 t147 a2).bind fun t159 => ((sat_Up.f a0 a1 a2).bind fun t160 => (sandglasslaw01_SatOrder.j1 kj9 a0 a1 a2 t148 (decide (t159 < t160)))))))) = some r := by rw [if_neg (show ¬ (false = true) by decide)] at H; exact H
        clear H
        have H := H1
        clear H1
        have HC24 := Aside0.mk H
        clear H
        go_upto_region 4 with (fail)
        go_cut [83] (fun v83 wc => ∃ (kq : Nat) (x83_23 : Bool), v83 = .bool x83_23 ∧ Aside0 (sandglasslaw01_SatOrder.j1 kq a0 a1 a2 t148 x83_23 = some r) ∧ Aside0 (kq ≤ kj9) ∧ Drawn0 w wc)
        case first =>
          have H := HC24.out
          clear HC24
          replace H := Option.bind_eq_some_iff.mp H
          obtain ⟨t157, A250, H⟩ := H
          replace H : ((sat_Down.f a0 a1 a2).bind fun t158 => (if t157 < t158 then (sandglasslaw01_SatOrder.j1 kj9 a0 a1 a2 t148 true) else ((sat_Up.f t146 t147 a2).bind fun t159 => ((sat_Up.f a0 a1 a2).bind fun t160 => (sandglasslaw01_SatOrder.j1 kj9 a0 a1 a2 t148 (decide (t159 < t160))))))) = some r := H
          have A25 := Aside0.mk A250
          clear A250
          replace H := Option.bind_eq_some_iff.mp H
          obtain ⟨t158, A260, H⟩ := H
          replace H : (if t157 < t158 then (sandglasslaw01_SatOrder.j1 kj9 a0 a1 a2 t148 true) else ((sat_Up.f t146 t147 a2).bind fun t159 => ((sat_Up.f a0 a1 a2).bind fun t160 => (sandglasslaw01_SatOrder.j1 kj9 a0 a1 a2 t148 (decide (t159 < t160)))))) = some r := H
          have A26 := Aside0.mk A260
          clear A260
          by_cases c27 : t157 < t158
          · rw [if_pos c27] at H
            have c27b0 : decide (t157 < t158) = true := decide_eq_true c27
            clear c27
            (first | rw [c27b0] | (simp only [i64_w, i32_w]; rw [c27b0]) | skip)
            have H' := Aside0.mk H
            clear H
            go_wp2_with (first | ((with_reducible refine gate_callee (f := 15) rfl ?_); refine goesL_ (some 67) rfl rfl Try.func15 (by kernel_rfl) rfl #[.int .u64 t146, .int .u64 t147, .int .u64 a2] rfl (by (try simp only [List.map_toArray, List.map_cons, List.map_nil]); first | done | rfl | (simp only [List.length_drop, List.length_take]; rfl)) ?_; (with_reducible refine (sat_Down.calls t146 t147 a2 t157 _ A25.out).mono ?_); rintro e w' ⟨rfl, ⟨nd, rfl⟩⟩; refine ⟨_, rfl, ?_⟩) | ((with_reducible refine gate_callee (f := 15) rfl ?_); refine goesL_ (some 71) rfl rfl Try.func15 (by kernel_rfl) rfl #[.int .u64 a0, .int .u64 a1, .int .u64 a2] rfl (by (try simp only [List.map_toArray, List.map_cons, List.map_nil]); first | done | rfl | (simp only [List.length_drop, List.length_take]; rfl)) ?_; (with_reducible refine (sat_Down.calls a0 a1 a2 t158 _ A26.out).mono ?_); rintro e w' ⟨rfl, ⟨nd, rfl⟩⟩; refine ⟨_, rfl, ?_⟩))
            go_meet
            case rel => exact ⟨_, (true), (by first | rfl | (simp; done) | (simp [*]; done)), H', ⟨by have := HJ9.out; first | omega | exact Nat.le_refl _⟩, by repeat (first | exact Drawn0.refl _ | apply Drawn0.step)⟩
          · rw [if_neg c27] at H
            have c27b0 : decide (t157 < t158) = false := decide_eq_false c27
            clear c27
            (first | rw [c27b0] | (simp only [i64_w, i32_w]; rw [c27b0]) | skip)
            replace H := Option.bind_eq_some_iff.mp H
            obtain ⟨t159, A280, H⟩ := H
            replace H : ((sat_Up.f a0 a1 a2).bind fun t160 => (sandglasslaw01_SatOrder.j1 kj9 a0 a1 a2 t148 (decide (t159 < t160)))) = some r := H
            have A28 := Aside0.mk A280
            clear A280
            replace H := Option.bind_eq_some_iff.mp H
            obtain ⟨t160, A290, H⟩ := H
            replace H : (sandglasslaw01_SatOrder.j1 kj9 a0 a1 a2 t148 (decide (t159 < t160))) = some r := H
            have A29 := Aside0.mk A290
            clear A290
            have H' := Aside0.mk H
            clear H
            go_wp2_with (first | ((with_reducible refine gate_callee (f := 15) rfl ?_); refine goesL_ (some 67) rfl rfl Try.func15 (by kernel_rfl) rfl #[.int .u64 t146, .int .u64 t147, .int .u64 a2] rfl (by (try simp only [List.map_toArray, List.map_cons, List.map_nil]); first | done | rfl | (simp only [List.length_drop, List.length_take]; rfl)) ?_; (with_reducible refine (sat_Down.calls t146 t147 a2 t157 _ A25.out).mono ?_); rintro e w' ⟨rfl, ⟨nd, rfl⟩⟩; refine ⟨_, rfl, ?_⟩) | ((with_reducible refine gate_callee (f := 15) rfl ?_); refine goesL_ (some 71) rfl rfl Try.func15 (by kernel_rfl) rfl #[.int .u64 a0, .int .u64 a1, .int .u64 a2] rfl (by (try simp only [List.map_toArray, List.map_cons, List.map_nil]); first | done | rfl | (simp only [List.length_drop, List.length_take]; rfl)) ?_; (with_reducible refine (sat_Down.calls a0 a1 a2 t158 _ A26.out).mono ?_); rintro e w' ⟨rfl, ⟨nd, rfl⟩⟩; refine ⟨_, rfl, ?_⟩) | (go_at_call 17; (with_reducible refine (sat_Up.calls t146 t147 a2 t159 _ A28.out).mono ?_); rintro e w' ⟨rfl, ⟨nd, rfl⟩⟩) | (go_at_call 17; (with_reducible refine (sat_Up.calls a0 a1 a2 t160 _ A29.out).mono ?_); rintro e w' ⟨rfl, ⟨nd, rfl⟩⟩))
            go_meet
            case rel => exact ⟨_, (decide (t159 < t160)), (by first | rfl | (simp; done) | (simp [*]; done)), H', ⟨by have := HJ9.out; first | omega | exact Nat.le_refl _⟩, by repeat (first | exact Drawn0.refl _ | apply Drawn0.step)⟩
        case rest =>
          clear HC24
          try clear c1
          try clear c2
          try clear p2
          try clear c5
          try clear c9
          try clear c11
          try clear c11b0
          try clear c14
          try clear c14b0
          try clear c15
          try clear c17
          try clear c17b0
          try clear c20
          try clear c20b0
          try clear c23
          try clear c27
          try clear c27b0
          try clear p2
          obtain ⟨kq, x83_23, rfl, HA, HJ23, ⟨mc23, rfl⟩⟩ := hcut
          cases kq with
          | zero => exact absurd HA.out (by simp [sandglasslaw01_SatOrder.j1])
          | succ kj23 =>
            have H := HA.out
            clear HA
            simp only [sandglasslaw01_SatOrder.j1] at H
            by_cases c30 : x83_23 = true
            · subst c30
              have H1 : (some false) = some r := by rw [if_pos rfl] at H; exact H
              clear H
              have H := H1
              clear H1
              obtain rfl := Option.some.inj H
              go_wp2
              go_ret
              exact ⟨by first | rfl | (simp; done) | (simp [*]; done), by repeat (first | exact Drawn0.refl _ | apply Drawn0.step)⟩
            · replace c30 := Bool.eq_false_iff.mpr c30
              subst c30
              have H1 : (if a2 = 0 then ((sandglasslaw01_awake.f).bind fun t161 => (some t161)) else ((sat_Down.f a0 a1 t148).bind fun t162 => ((sat_Down.f a0 a1 a2).bind fun t163 => (if t162 ≤ t163 then ((sat_Up.f a0 a1 t148).bind fun t164 => ((sat_Up.f a0 a1 a2).bind fun t165 => (if t164 ≤ t165 then ((sandglasslaw01_awake.f).bind fun t166 => (some t166)) else (some false)))) else (some false))))) = some r := by rw [if_neg (show ¬ (false = true) by decide)] at H; exact H
              clear H
              have H := H1
              clear H1
              by_cases c31 : a2 = 0
              · rw [if_pos c31] at H
                have c31b0 : (a2 == 0) = true := beq_iff_eq.mpr c31
                have c31b1 : (a2 != 0) = false := bne_eq_false_iff_eq.mpr c31
                clear c31
                replace H := Option.bind_eq_some_iff.mp H
                obtain ⟨t161, A320, H⟩ := H
                replace H : (some t161) = some r := H
                have A32 := Aside0.mk A320
                clear A320
                obtain rfl := Option.some.inj H
                go_wp2_with (first | (go_at_call 21; (with_reducible refine (sandglasslaw01_awake.calls  t161 _ A32.out).mono ?_); rintro e w' ⟨rfl, ⟨nd, rfl⟩⟩))
                go_ret
                exact ⟨by first | rfl | (simp; done) | (simp [*]; done), by repeat (first | exact Drawn0.refl _ | apply Drawn0.step)⟩
              · rw [if_neg c31] at H
                have c31b0 : (a2 == 0) = false := beq_eq_false_iff_ne.mpr c31
                have c31b1 : (a2 != 0) = true := bne_iff_ne.mpr c31
                replace H := Option.bind_eq_some_iff.mp H
                obtain ⟨t162, A330, H⟩ := H
                replace H : ((sat_Down.f a0 a1 a2).bind fun t163 => (if t162 ≤ t163 then ((sat_Up.f a0 a1 t148).bind fun t164 => ((sat_Up.f a0 a1 a2).bind fun t165 => (if t164 ≤ t165 then ((sandglasslaw01_awake.f).bind fun t166 => (some t166)) else (some false)))) else (some false))) = some r := H
                have A33 := Aside0.mk A330
                clear A330
                replace H := Option.bind_eq_some_iff.mp H
                obtain ⟨t163, A340, H⟩ := H
                replace H : (if t162 ≤ t163 then ((sat_Up.f a0 a1 t148).bind fun t164 => ((sat_Up.f a0 a1 a2).bind fun t165 => (if t164 ≤ t165 then ((sandglasslaw01_awake.f).bind fun t166 => (some t166)) else (some false)))) else (some false)) = some r := H
                have A34 := Aside0.mk A340
                clear A340
                by_cases c35 : t162 ≤ t163
                · rw [if_pos c35] at H
                  have c35b0 : decide (t162 ≤ t163) = true := decide_eq_true c35
                  clear c35
                  replace H := Option.bind_eq_some_iff.mp H
                  obtain ⟨t164, A360, H⟩ := H
                  replace H : ((sat_Up.f a0 a1 a2).bind fun t165 => (if t164 ≤ t165 then ((sandglasslaw01_awake.f).bind fun t166 => (some t166)) else (some false))) = some r := H
                  have A36 := Aside0.mk A360
                  clear A360
                  replace H := Option.bind_eq_some_iff.mp H
                  obtain ⟨t165, A370, H⟩ := H
                  replace H : (if t164 ≤ t165 then ((sandglasslaw01_awake.f).bind fun t166 => (some t166)) else (some false)) = some r := H
                  have A37 := Aside0.mk A370
                  clear A370
                  by_cases c38 : t164 ≤ t165
                  · rw [if_pos c38] at H
                    have c38b0 : decide (t164 ≤ t165) = true := decide_eq_true c38
                    clear c38
                    replace H := Option.bind_eq_some_iff.mp H
                    obtain ⟨t166, A390, H⟩ := H
                    replace H : (some t166) = some r := H
                    have A39 := Aside0.mk A390
                    clear A390
                    obtain rfl := Option.some.inj H
                    go_wp2_with (first | (go_at_call 15; (with_reducible refine (sat_Down.calls a0 a1 t148 t162 _ A33.out).mono ?_); rintro e w' ⟨rfl, ⟨nd, rfl⟩⟩) | (go_at_call 15; (with_reducible refine (sat_Down.calls a0 a1 a2 t163 _ A34.out).mono ?_); rintro e w' ⟨rfl, ⟨nd, rfl⟩⟩) | (go_at_call 17; (with_reducible refine (sat_Up.calls a0 a1 t148 t164 _ A36.out).mono ?_); rintro e w' ⟨rfl, ⟨nd, rfl⟩⟩) | (go_at_call 17; (with_reducible refine (sat_Up.calls a0 a1 a2 t165 _ A37.out).mono ?_); rintro e w' ⟨rfl, ⟨nd, rfl⟩⟩) | (go_at_call 21; (with_reducible refine (sandglasslaw01_awake.calls  t166 _ A39.out).mono ?_); rintro e w' ⟨rfl, ⟨nd, rfl⟩⟩))
                    go_ret
                    exact ⟨by first | rfl | (simp; done) | (simp [*]; done), by repeat (first | exact Drawn0.refl _ | apply Drawn0.step)⟩
                  · rw [if_neg c38] at H
                    have c38b0 : decide (t164 ≤ t165) = false := decide_eq_false c38
                    clear c38
                    obtain rfl := Option.some.inj H
                    go_wp2_with (first | (go_at_call 15; (with_reducible refine (sat_Down.calls a0 a1 t148 t162 _ A33.out).mono ?_); rintro e w' ⟨rfl, ⟨nd, rfl⟩⟩) | (go_at_call 15; (with_reducible refine (sat_Down.calls a0 a1 a2 t163 _ A34.out).mono ?_); rintro e w' ⟨rfl, ⟨nd, rfl⟩⟩) | (go_at_call 17; (with_reducible refine (sat_Up.calls a0 a1 t148 t164 _ A36.out).mono ?_); rintro e w' ⟨rfl, ⟨nd, rfl⟩⟩) | (go_at_call 17; (with_reducible refine (sat_Up.calls a0 a1 a2 t165 _ A37.out).mono ?_); rintro e w' ⟨rfl, ⟨nd, rfl⟩⟩))
                    go_ret
                    exact ⟨by first | rfl | (simp; done) | (simp [*]; done), by repeat (first | exact Drawn0.refl _ | apply Drawn0.step)⟩
                · rw [if_neg c35] at H
                  have c35b0 : decide (t162 ≤ t163) = false := decide_eq_false c35
                  clear c35
                  obtain rfl := Option.some.inj H
                  go_wp2_with (first | (go_at_call 15; (with_reducible refine (sat_Down.calls a0 a1 t148 t162 _ A33.out).mono ?_); rintro e w' ⟨rfl, ⟨nd, rfl⟩⟩) | (go_at_call 15; (with_reducible refine (sat_Down.calls a0 a1 a2 t163 _ A34.out).mono ?_); rintro e w' ⟨rfl, ⟨nd, rfl⟩⟩))
                  go_ret
                  exact ⟨by first | rfl | (simp; done) | (simp [*]; done), by repeat (first | exact Drawn0.refl _ | apply Drawn0.step)⟩

/-- THE ONE PURE STATEMENT of sandglasslaw01_SatOrder: yours. -/
def sandglasslaw01_SatOrder.Pure : Prop := ∀ (a0 : Int) (a1 : Int) (a2 : Int) (a3 : Int) (a4 : Int) (a5 : Int), (Lit.int .u64 a0).wf = true → (Lit.int .u64 a1).wf = true → (Lit.int .u64 a2).wf = true → (Lit.int .u64 a3).wf = true → (Lit.int .u64 a4).wf = true → (Lit.int .u64 a5).wf = true → ∃ k, sandglasslaw01_SatOrder.f k a0 a1 a2 a3 a4 a5 = some true
theorem sandglasslaw01_SatOrder.walk (P : sandglasslaw01_SatOrder.Pure) (a0 : Int) (a1 : Int) (a2 : Int) (a3 : Int) (a4 : Int) (a5 : Int) (w : World) (w0 : (Lit.int .u64 a0).wf = true) (w1 : (Lit.int .u64 a1).wf = true) (w2 : (Lit.int .u64 a2).wf = true) (w3 : (Lit.int .u64 a3).wf = true) (w4 : (Lit.int .u64 a4).wf = true) (w5 : (Lit.int .u64 a5).wf = true) :
    Calls Try.prog 5 #[.int .u64 a0, .int .u64 a1, .int .u64 a2, .int .u64 a3, .int .u64 a4, .int .u64 a5] w fun e w' => e = .returned (.bool true) ∧ Below w.heap.size w w' := by
  obtain ⟨k, h⟩ := P a0 a1 a2 a3 a4 a5 w0 w1 w2 w3 w4 w5
  refine (sandglasslaw01_SatOrder.calls k a0 a1 a2 a3 a4 a5 true w h).mono ?_
  rintro e w' ⟨rfl, hd⟩
  exact ⟨rfl, hd.below⟩

/-! ### sandglasslaw01_SatJoins: function 6 -/
mutual
def sandglasslaw01_SatJoins.j0 : Nat → Int → Int → Int → Bool → Option (Bool)
  | 0, _, _, _, _ => none
  | k + 1, x0, x1, x2, x36 => if x36 = true then (some false) else ((sat_Add.f x1 x2).bind fun t175 => ((sat_Mul.f x0 t175).bind fun t176 => ((sat_Mul.f x0 x1).bind fun t177 => ((sat_Mul.f x0 x2).bind fun t178 => ((sat_Add.f t177 t178).bind fun t179 => (if t176 = t179 then (if x0 > 0 then (if x2 > 0 then ((sat_Mul.f x0 x1).bind fun t180 => ((sat_Mul.f t180 x2).bind fun t181 => ((sat_Mul.f x1 x2).bind fun t182 => ((sat_Mul.f x0 t182).bind fun t183 => (sandglasslaw01_SatJoins.j1 k x0 x1 (t181 != t183)))))) else (sandglasslaw01_SatJoins.j1 k x0 x1 false)) else (sandglasslaw01_SatJoins.j1 k x0 x1 false)) else (sandglasslaw01_SatJoins.j1 k x0 x1 true)))))))
def sandglasslaw01_SatJoins.j1 : Nat → Int → Int → Bool → Option (Bool)
  | 0, _, _, _ => none
  | k + 1, x0, x1, x70 => if x70 = true then (some false) else ((sat_Add.f x0 x1).bind fun t184 => (if t184 = 18446744073709551615 then ((sat_Sub.f x0 x1).bind fun t185 => ((sat_Add.f t185 x1).bind fun t186 => (if t186 = (mx x0 x1) then ((sandglasslaw01_awake.f).bind fun t187 => (some t187)) else (some false)))) else ((sat_Sub.f t184 x1).bind fun t188 => (if t188 = x0 then ((sat_Sub.f x0 x1).bind fun t189 => ((sat_Add.f t189 x1).bind fun t190 => (if t190 = (mx x0 x1) then ((sandglasslaw01_awake.f).bind fun t191 => (some t191)) else (some false)))) else (some false)))))
end
def sandglasslaw01_SatJoins.f (k : Nat) (a0 : Int) (a1 : Int) (a2 : Int) : Option (Bool) := (sat_Add.f a0 a1).bind fun t167 => ((sat_Add.f a1 a0).bind fun t168 => (if t167 = t168 then ((sat_Mul.f a0 a1).bind fun t169 => ((sat_Mul.f a1 a0).bind fun t170 => (if t169 = t170 then ((sat_Add.f a0 a1).bind fun t171 => ((sat_Add.f t171 a2).bind fun t172 => ((sat_Add.f a1 a2).bind fun t173 => ((sat_Add.f a0 t173).bind fun t174 => (sandglasslaw01_SatJoins.j0 k a0 a1 a2 (t172 != t174)))))) else (sandglasslaw01_SatJoins.j0 k a0 a1 a2 true)))) else (sandglasslaw01_SatJoins.j0 k a0 a1 a2 true)))
theorem sandglasslaw01_SatJoins.mono_l : ∀ k, (∀ y0 y1 y2 y3, LeO (sandglasslaw01_SatJoins.j0 k y0 y1 y2 y3) (sandglasslaw01_SatJoins.j0 (k + 1) y0 y1 y2 y3)) ∧ (∀ y0 y1 y2, LeO (sandglasslaw01_SatJoins.j1 k y0 y1 y2) (sandglasslaw01_SatJoins.j1 (k + 1) y0 y1 y2))
  | 0 => ⟨fun _ _ _ _ r h => by simp [sandglasslaw01_SatJoins.j0] at h, fun _ _ _ r h => by simp [sandglasslaw01_SatJoins.j1] at h⟩
  | k + 1 => by
    obtain ⟨ih0, ih1⟩ := sandglasslaw01_SatJoins.mono_l k
    refine ⟨?_, ?_⟩
    · intro y0 y1 y2 y3
      unfold sandglasslaw01_SatJoins.j0
      repeat' first
      | (with_reducible exact ih0 _ _ _ _)
      | (with_reducible exact ih1 _ _ _)
      | (with_reducible exact LeO.refl _)
      | (with_reducible exact LeO.none _)
      | (with_reducible refine LeO.ite ?_ ?_)
      | (with_reducible refine LeO.bind ?_ (fun _ => ?_))
      | exact ih0 _ _ _ _
      | exact ih1 _ _ _
      | exact LeO.none _
      | refine LeO.ite ?_ ?_
      | refine LeO.bind ?_ (fun _ => ?_)
    · intro y0 y1 y2
      unfold sandglasslaw01_SatJoins.j1
      repeat' first
      | (with_reducible exact ih0 _ _ _ _)
      | (with_reducible exact ih1 _ _ _)
      | (with_reducible exact LeO.refl _)
      | (with_reducible exact LeO.none _)
      | (with_reducible refine LeO.ite ?_ ?_)
      | (with_reducible refine LeO.bind ?_ (fun _ => ?_))
      | exact ih0 _ _ _ _
      | exact ih1 _ _ _
      | exact LeO.none _
      | refine LeO.ite ?_ ?_
      | refine LeO.bind ?_ (fun _ => ?_)
theorem sandglasslaw01_SatJoins.mono : ∀ a0 a1 a2 k, LeO (sandglasslaw01_SatJoins.f k a0 a1 a2) (sandglasslaw01_SatJoins.f (k + 1) a0 a1 a2) := by
  intro a0 a1 a2 k
  obtain ⟨ih0, ih1⟩ := sandglasslaw01_SatJoins.mono_l k
  unfold sandglasslaw01_SatJoins.f
  repeat' first
      | (with_reducible exact ih0 _ _ _ _)
      | (with_reducible exact ih1 _ _ _)
      | (with_reducible exact LeO.refl _)
      | (with_reducible exact LeO.none _)
      | (with_reducible refine LeO.ite ?_ ?_)
      | (with_reducible refine LeO.bind ?_ (fun _ => ?_))
      | exact ih0 _ _ _ _
      | exact ih1 _ _ _
      | exact LeO.none _
      | refine LeO.ite ?_ ?_
      | refine LeO.bind ?_ (fun _ => ?_)
set_option maxHeartbeats 8000000 in
set_option maxRecDepth 100000 in
theorem sandglasslaw01_SatJoins.calls (k : Nat) (a0 : Int) (a1 : Int) (a2 : Int) (r : Bool) (w : World) (h : sandglasslaw01_SatJoins.f k a0 a1 a2 = some r) :
    Calls Try.prog 6 #[.int .u64 a0, .int .u64 a1, .int .u64 a2] w fun e w' => e = .returned (.bool r) ∧ Below w.heap.size w w' := by
  have HB := Aside0.mk (Below.refl w.heap.size w)
  have H : ((sat_Add.f a0 a1).bind fun t167 => ((sat_Add.f a1 a0).bind fun t168 => (if t167 = t168 then ((sat_Mul.f a0 a1).bind fun t169 => ((sat_Mul.f a1 a0).bind fun t170 => (if t169 = t170 then ((sat_Add.f a0 a1).bind fun t171 => ((sat_Add.f t171 a2).bind fun t172 => ((sat_Add.f a1 a2).bind fun t173 => ((sat_Add.f a0 t173).bind fun t174 => (sandglasslaw01_SatJoins.j0 k a0 a1 a2 (t172 != t174)))))) else (sandglasslaw01_SatJoins.j0 k a0 a1 a2 true)))) else (sandglasslaw01_SatJoins.j0 k a0 a1 a2 true)))) = some r := h
  clear h
  have HC4 := Aside0.mk H
  clear H
  go_enter Try.func6, Try.ntmps6
  go_upto_region 1 with (fail)
  go_cut [36] (fun v36 wc => ∃ (kq : Nat) (x36_3 : Bool), v36 = .bool x36_3 ∧ Aside0 (sandglasslaw01_SatJoins.j0 kq a0 a1 a2 x36_3 = some r) ∧ Aside0 (kq ≤ k) ∧ Aside0 (Below w.heap.size w wc))
  case first =>
    have H := HC4.out
    clear HC4
    replace H := Option.bind_eq_some_iff.mp H
    obtain ⟨t167, A50, H⟩ := H
    replace H : ((sat_Add.f a1 a0).bind fun t168 => (if t167 = t168 then ((sat_Mul.f a0 a1).bind fun t169 => ((sat_Mul.f a1 a0).bind fun t170 => (if t169 = t170 then ((sat_Add.f a0 a1).bind fun t171 => ((sat_Add.f t171 a2).bind fun t172 => ((sat_Add.f a1 a2).bind fun t173 => ((sat_Add.f a0 t173).bind fun t174 => (sandglasslaw01_SatJoins.j0 k a0 a1 a2 (t172 != t174)))))) else (sandglasslaw01_SatJoins.j0 k a0 a1 a2 true)))) else (sandglasslaw01_SatJoins.j0 k a0 a1 a2 true))) = some r := H
    have A5 := Aside0.mk A50
    clear A50
    replace H := Option.bind_eq_some_iff.mp H
    obtain ⟨t168, A60, H⟩ := H
    replace H : (if t167 = t168 then ((sat_Mul.f a0 a1).bind fun t169 => ((sat_Mul.f a1 a0).bind fun t170 => (if t169 = t170 then ((sat_Add.f a0 a1).bind fun t171 => ((sat_Add.f t171 a2).bind fun t172 => ((sat_Add.f a1 a2).bind fun t173 => ((sat_Add.f a0 t173).bind fun t174 => (sandglasslaw01_SatJoins.j0 k a0 a1 a2 (t172 != t174)))))) else (sandglasslaw01_SatJoins.j0 k a0 a1 a2 true)))) else (sandglasslaw01_SatJoins.j0 k a0 a1 a2 true)) = some r := H
    have A6 := Aside0.mk A60
    clear A60
    by_cases c7 : t167 = t168
    · rw [if_pos c7] at H
      have c7b0 : (t167 == t168) = true := beq_iff_eq.mpr c7
      have c7b1 : (t167 != t168) = false := bne_eq_false_iff_eq.mpr c7
      clear c7
      (first | rw [c7b0] | (simp only [i64_w, i32_w]; rw [c7b0]) | skip)
      replace H := Option.bind_eq_some_iff.mp H
      obtain ⟨t169, A80, H⟩ := H
      replace H : ((sat_Mul.f a1 a0).bind fun t170 => (if t169 = t170 then ((sat_Add.f a0 a1).bind fun t171 => ((sat_Add.f t171 a2).bind fun t172 => ((sat_Add.f a1 a2).bind fun t173 => ((sat_Add.f a0 t173).bind fun t174 => (sandglasslaw01_SatJoins.j0 k a0 a1 a2 (t172 != t174)))))) else (sandglasslaw01_SatJoins.j0 k a0 a1 a2 true))) = some r := H
      have A8 := Aside0.mk A80
      clear A80
      replace H := Option.bind_eq_some_iff.mp H
      obtain ⟨t170, A90, H⟩ := H
      replace H : (if t169 = t170 then ((sat_Add.f a0 a1).bind fun t171 => ((sat_Add.f t171 a2).bind fun t172 => ((sat_Add.f a1 a2).bind fun t173 => ((sat_Add.f a0 t173).bind fun t174 => (sandglasslaw01_SatJoins.j0 k a0 a1 a2 (t172 != t174)))))) else (sandglasslaw01_SatJoins.j0 k a0 a1 a2 true)) = some r := H
      have A9 := Aside0.mk A90
      clear A90
      by_cases c10 : t169 = t170
      · rw [if_pos c10] at H
        have c10b0 : (t169 == t170) = true := beq_iff_eq.mpr c10
        have c10b1 : (t169 != t170) = false := bne_eq_false_iff_eq.mpr c10
        clear c10
        replace H := Option.bind_eq_some_iff.mp H
        obtain ⟨t171, A110, H⟩ := H
        have EA11 := Option.some.inj (A5.out.symm.trans A110)
        subst EA11
        clear A110
        replace H : ((sat_Add.f t167 a2).bind fun t172 => ((sat_Add.f a1 a2).bind fun t173 => ((sat_Add.f a0 t173).bind fun t174 => (sandglasslaw01_SatJoins.j0 k a0 a1 a2 (t172 != t174))))) = some r := H
        replace H := Option.bind_eq_some_iff.mp H
        obtain ⟨t172, A120, H⟩ := H
        replace H : ((sat_Add.f a1 a2).bind fun t173 => ((sat_Add.f a0 t173).bind fun t174 => (sandglasslaw01_SatJoins.j0 k a0 a1 a2 (t172 != t174)))) = some r := H
        have A12 := Aside0.mk A120
        clear A120
        replace H := Option.bind_eq_some_iff.mp H
        obtain ⟨t173, A130, H⟩ := H
        replace H : ((sat_Add.f a0 t173).bind fun t174 => (sandglasslaw01_SatJoins.j0 k a0 a1 a2 (t172 != t174))) = some r := H
        have A13 := Aside0.mk A130
        clear A130
        replace H := Option.bind_eq_some_iff.mp H
        obtain ⟨t174, A140, H⟩ := H
        replace H : (sandglasslaw01_SatJoins.j0 k a0 a1 a2 (t172 != t174)) = some r := H
        have A14 := Aside0.mk A140
        clear A140
        have H' := Aside0.mk H
        clear H
        go_wp2_with (first | ((with_reducible refine gate_callee (f := 9) rfl ?_); refine goesL_ (some 10) rfl rfl Try.func9 (by kernel_rfl) rfl #[.int .u64 a0, .int .u64 a1] rfl (by (try simp only [List.map_toArray, List.map_cons, List.map_nil]); first | done | rfl | (simp only [List.length_drop, List.length_take]; rfl)) ?_; (with_reducible refine (sat_Add.calls a0 a1 t167 _ A5.out).mono ?_); rintro e w' ⟨rfl, ⟨nd, rfl⟩⟩; refine ⟨_, rfl, ?_⟩) | ((with_reducible refine gate_callee (f := 9) rfl ?_); refine goesL_ (some 13) rfl rfl Try.func9 (by kernel_rfl) rfl #[.int .u64 a1, .int .u64 a0] rfl (by (try simp only [List.map_toArray, List.map_cons, List.map_nil]); first | done | rfl | (simp only [List.length_drop, List.length_take]; rfl)) ?_; (with_reducible refine (sat_Add.calls a1 a0 t168 _ A6.out).mono ?_); rintro e w' ⟨rfl, ⟨nd, rfl⟩⟩; refine ⟨_, rfl, ?_⟩) | (go_at_call 13; (with_reducible refine (sat_Mul.calls a0 a1 t169 _ A8.out).mono ?_); rintro e w' ⟨rfl, ⟨nd, rfl⟩⟩) | (go_at_call 13; (with_reducible refine (sat_Mul.calls a1 a0 t170 _ A9.out).mono ?_); rintro e w' ⟨rfl, ⟨nd, rfl⟩⟩) | (go_at_call 9; (with_reducible refine (sat_Add.calls a0 a1 t167 _ A5.out).mono ?_); rintro e w' ⟨rfl, ⟨nd, rfl⟩⟩) | (go_at_call 9; (with_reducible refine (sat_Add.calls t167 a2 t172 _ A12.out).mono ?_); rintro e w' ⟨rfl, ⟨nd, rfl⟩⟩) | (go_at_call 9; (with_reducible refine (sat_Add.calls a1 a2 t173 _ A13.out).mono ?_); rintro e w' ⟨rfl, ⟨nd, rfl⟩⟩) | (go_at_call 9; (with_reducible refine (sat_Add.calls a0 t173 t174 _ A14.out).mono ?_); rintro e w' ⟨rfl, ⟨nd, rfl⟩⟩))
        go_meet
        case rel => exact ⟨_, ((t172 != t174)), (by first | rfl | (simp; done) | (simp [*]; done)), H', ⟨by first | omega | exact Nat.le_refl _⟩, ⟨by repeat (first | (with_reducible first | exact HB.out | apply below_alloc | apply pw_below_drewN | apply below_drew1) | exact HB.out)⟩⟩
      · rw [if_neg c10] at H
        have c10b0 : (t169 == t170) = false := beq_eq_false_iff_ne.mpr c10
        have c10b1 : (t169 != t170) = true := bne_iff_ne.mpr c10
        have H' := Aside0.mk H
        clear H
        go_wp2_with (first | ((with_reducible refine gate_callee (f := 9) rfl ?_); refine goesL_ (some 10) rfl rfl Try.func9 (by kernel_rfl) rfl #[.int .u64 a0, .int .u64 a1] rfl (by (try simp only [List.map_toArray, List.map_cons, List.map_nil]); first | done | rfl | (simp only [List.length_drop, List.length_take]; rfl)) ?_; (with_reducible refine (sat_Add.calls a0 a1 t167 _ A5.out).mono ?_); rintro e w' ⟨rfl, ⟨nd, rfl⟩⟩; refine ⟨_, rfl, ?_⟩) | ((with_reducible refine gate_callee (f := 9) rfl ?_); refine goesL_ (some 13) rfl rfl Try.func9 (by kernel_rfl) rfl #[.int .u64 a1, .int .u64 a0] rfl (by (try simp only [List.map_toArray, List.map_cons, List.map_nil]); first | done | rfl | (simp only [List.length_drop, List.length_take]; rfl)) ?_; (with_reducible refine (sat_Add.calls a1 a0 t168 _ A6.out).mono ?_); rintro e w' ⟨rfl, ⟨nd, rfl⟩⟩; refine ⟨_, rfl, ?_⟩) | (go_at_call 13; (with_reducible refine (sat_Mul.calls a0 a1 t169 _ A8.out).mono ?_); rintro e w' ⟨rfl, ⟨nd, rfl⟩⟩) | (go_at_call 13; (with_reducible refine (sat_Mul.calls a1 a0 t170 _ A9.out).mono ?_); rintro e w' ⟨rfl, ⟨nd, rfl⟩⟩))
        go_meet
        case rel => exact ⟨_, (true), (by first | rfl | (simp; done) | (simp [*]; done)), H', ⟨by first | omega | exact Nat.le_refl _⟩, ⟨by repeat (first | (with_reducible first | exact HB.out | apply below_alloc | apply pw_below_drewN | apply below_drew1) | exact HB.out)⟩⟩
    · rw [if_neg c7] at H
      have c7b0 : (t167 == t168) = false := beq_eq_false_iff_ne.mpr c7
      have c7b1 : (t167 != t168) = true := bne_iff_ne.mpr c7
      (first | rw [c7b0] | (simp only [i64_w, i32_w]; rw [c7b0]) | skip)
      have H' := Aside0.mk H
      clear H
      go_wp2_with (first | ((with_reducible refine gate_callee (f := 9) rfl ?_); refine goesL_ (some 10) rfl rfl Try.func9 (by kernel_rfl) rfl #[.int .u64 a0, .int .u64 a1] rfl (by (try simp only [List.map_toArray, List.map_cons, List.map_nil]); first | done | rfl | (simp only [List.length_drop, List.length_take]; rfl)) ?_; (with_reducible refine (sat_Add.calls a0 a1 t167 _ A5.out).mono ?_); rintro e w' ⟨rfl, ⟨nd, rfl⟩⟩; refine ⟨_, rfl, ?_⟩) | ((with_reducible refine gate_callee (f := 9) rfl ?_); refine goesL_ (some 13) rfl rfl Try.func9 (by kernel_rfl) rfl #[.int .u64 a1, .int .u64 a0] rfl (by (try simp only [List.map_toArray, List.map_cons, List.map_nil]); first | done | rfl | (simp only [List.length_drop, List.length_take]; rfl)) ?_; (with_reducible refine (sat_Add.calls a1 a0 t168 _ A6.out).mono ?_); rintro e w' ⟨rfl, ⟨nd, rfl⟩⟩; refine ⟨_, rfl, ?_⟩))
      go_meet
      case rel => exact ⟨_, (true), (by first | rfl | (simp; done) | (simp [*]; done)), H', ⟨by first | omega | exact Nat.le_refl _⟩, ⟨by repeat (first | (with_reducible first | exact HB.out | apply below_alloc | apply pw_below_drewN | apply below_drew1) | exact HB.out)⟩⟩
  case rest =>
    clear HC4
    try clear c1
    try clear p2
    try clear c6
    try clear c7
    try clear c7b0
    try clear c7b1
    try clear c9
    try clear c10
    try clear c10b0
    try clear c10b1
    obtain ⟨kq, x36_3, rfl, HA, HJ3, HB⟩ := hcut
    cases kq with
    | zero => exact absurd HA.out (by simp [sandglasslaw01_SatJoins.j0])
    | succ kj3 =>
      have H := HA.out
      clear HA
      simp only [sandglasslaw01_SatJoins.j0] at H
      by_cases c15 : x36_3 = true
      · subst c15
        have H1 : (some false) = some r := by rw [if_pos rfl] at H; exact H
        clear H
        have H := H1
        clear H1
        obtain rfl := Option.some.inj H
        go_wp2
        go_ret
        exact ⟨by first | rfl | (simp [errW_none, errW_some] <;> rfl) | (simp [*, errW_none, errW_some] <;> rfl), by repeat (first | (with_reducible first | exact HB.out | apply below_alloc | apply pw_below_drewN | apply below_drew1) | exact HB.out)⟩
      · replace c15 := Bool.eq_false_iff.mpr c15
        subst c15
        have H1 : ((sat_Add.f a1 a2).bind fun t175 => ((sat_Mul.f a0 t175).bind fun t176 => ((sat_Mul.f a0 a1).bind fun t177 => ((sat_Mul.f a0 a2).bind fun t178 => ((sat_Add.f t177 t178).bind fun t179 => (if t176 = t179 then (if a0 > 0 then (if a2 > 0 then ((sat_Mul.f a0 a1).bind fun t180 => ((sat_Mul.f t180 a2).bind fun t181 => ((sat_Mul.f a1 a2).bind fun t182 => ((sat_Mul.f a0 t182).bind fun t183 => (sandglasslaw01_SatJoins.j1 kj3 a0 a1 (t181 != t183)))))) else (sandglasslaw01_SatJoins.j1 kj3 a0 a1 false)) else (sandglasslaw01_SatJoins.j1 kj3 a0 a1 false)) else (sandglasslaw01_SatJoins.j1 kj3 a0 a1 true))))))) = some r := by rw [if_neg (show ¬ (false = true) by decide)] at H; exact H
        clear H
        have H := H1
        clear H1
        have HC16 := Aside0.mk H
        clear H
        go_upto_region 3 with (fail)
        go_cut [70] (fun v70 wc => ∃ (kq : Nat) (x70_15 : Bool), v70 = .bool x70_15 ∧ Aside0 (sandglasslaw01_SatJoins.j1 kq a0 a1 x70_15 = some r) ∧ Aside0 (kq ≤ kj3) ∧ Aside0 (Below w.heap.size w wc))
        case first =>
          have H := HC16.out
          clear HC16
          replace H := Option.bind_eq_some_iff.mp H
          obtain ⟨t175, A170, H⟩ := H
          replace H : ((sat_Mul.f a0 t175).bind fun t176 => ((sat_Mul.f a0 a1).bind fun t177 => ((sat_Mul.f a0 a2).bind fun t178 => ((sat_Add.f t177 t178).bind fun t179 => (if t176 = t179 then (if a0 > 0 then (if a2 > 0 then ((sat_Mul.f a0 a1).bind fun t180 => ((sat_Mul.f t180 a2).bind fun t181 => ((sat_Mul.f a1 a2).bind fun t182 => ((sat_Mul.f a0 t182).bind fun t183 => (sandglasslaw01_SatJoins.j1 kj3 a0 a1 (t181 != t183)))))) else (sandglasslaw01_SatJoins.j1 kj3 a0 a1 false)) else (sandglasslaw01_SatJoins.j1 kj3 a0 a1 false)) else (sandglasslaw01_SatJoins.j1 kj3 a0 a1 true)))))) = some r := H
          have A17 := Aside0.mk A170
          clear A170
          replace H := Option.bind_eq_some_iff.mp H
          obtain ⟨t176, A180, H⟩ := H
          replace H : ((sat_Mul.f a0 a1).bind fun t177 => ((sat_Mul.f a0 a2).bind fun t178 => ((sat_Add.f t177 t178).bind fun t179 => (if t176 = t179 then (if a0 > 0 then (if a2 > 0 then ((sat_Mul.f a0 a1).bind fun t180 => ((sat_Mul.f t180 a2).bind fun t181 => ((sat_Mul.f a1 a2).bind fun t182 => ((sat_Mul.f a0 t182).bind fun t183 => (sandglasslaw01_SatJoins.j1 kj3 a0 a1 (t181 != t183)))))) else (sandglasslaw01_SatJoins.j1 kj3 a0 a1 false)) else (sandglasslaw01_SatJoins.j1 kj3 a0 a1 false)) else (sandglasslaw01_SatJoins.j1 kj3 a0 a1 true))))) = some r := H
          have A18 := Aside0.mk A180
          clear A180
          replace H := Option.bind_eq_some_iff.mp H
          obtain ⟨t177, A190, H⟩ := H
          replace H : ((sat_Mul.f a0 a2).bind fun t178 => ((sat_Add.f t177 t178).bind fun t179 => (if t176 = t179 then (if a0 > 0 then (if a2 > 0 then ((sat_Mul.f a0 a1).bind fun t180 => ((sat_Mul.f t180 a2).bind fun t181 => ((sat_Mul.f a1 a2).bind fun t182 => ((sat_Mul.f a0 t182).bind fun t183 => (sandglasslaw01_SatJoins.j1 kj3 a0 a1 (t181 != t183)))))) else (sandglasslaw01_SatJoins.j1 kj3 a0 a1 false)) else (sandglasslaw01_SatJoins.j1 kj3 a0 a1 false)) else (sandglasslaw01_SatJoins.j1 kj3 a0 a1 true)))) = some r := H
          have A19 := Aside0.mk A190
          clear A190
          replace H := Option.bind_eq_some_iff.mp H
          obtain ⟨t178, A200, H⟩ := H
          replace H : ((sat_Add.f t177 t178).bind fun t179 => (if t176 = t179 then (if a0 > 0 then (if a2 > 0 then ((sat_Mul.f a0 a1).bind fun t180 => ((sat_Mul.f t180 a2).bind fun t181 => ((sat_Mul.f a1 a2).bind fun t182 => ((sat_Mul.f a0 t182).bind fun t183 => (sandglasslaw01_SatJoins.j1 kj3 a0 a1 (t181 != t183)))))) else (sandglasslaw01_SatJoins.j1 kj3 a0 a1 false)) else (sandglasslaw01_SatJoins.j1 kj3 a0 a1 false)) else (sandglasslaw01_SatJoins.j1 kj3 a0 a1 true))) = some r := H
          have A20 := Aside0.mk A200
          clear A200
          replace H := Option.bind_eq_some_iff.mp H
          obtain ⟨t179, A210, H⟩ := H
          replace H : (if t176 = t179 then (if a0 > 0 then (if a2 > 0 then ((sat_Mul.f a0 a1).bind fun t180 => ((sat_Mul.f t180 a2).bind fun t181 => ((sat_Mul.f a1 a2).bind fun t182 => ((sat_Mul.f a0 t182).bind fun t183 => (sandglasslaw01_SatJoins.j1 kj3 a0 a1 (t181 != t183)))))) else (sandglasslaw01_SatJoins.j1 kj3 a0 a1 false)) else (sandglasslaw01_SatJoins.j1 kj3 a0 a1 false)) else (sandglasslaw01_SatJoins.j1 kj3 a0 a1 true)) = some r := H
          have A21 := Aside0.mk A210
          clear A210
          by_cases c22 : t176 = t179
          · rw [if_pos c22] at H
            have c22b0 : (t176 == t179) = true := beq_iff_eq.mpr c22
            have c22b1 : (t176 != t179) = false := bne_eq_false_iff_eq.mpr c22
            clear c22
            (first | rw [c22b0] | (simp only [i64_w, i32_w]; rw [c22b0]) | skip)
            by_cases c23 : a0 > 0
            · rw [if_pos c23] at H
              have c23b0 : decide (0 < a0) = true := decide_eq_true c23
              clear c23
              by_cases c24 : a2 > 0
              · rw [if_pos c24] at H
                have c24b0 : decide (0 < a2) = true := decide_eq_true c24
                clear c24
                replace H := Option.bind_eq_some_iff.mp H
                obtain ⟨t180, A250, H⟩ := H
                have EA25 := Option.some.inj (A19.out.symm.trans A250)
                subst EA25
                clear A250
                replace H : ((sat_Mul.f t177 a2).bind fun t181 => ((sat_Mul.f a1 a2).bind fun t182 => ((sat_Mul.f a0 t182).bind fun t183 => (sandglasslaw01_SatJoins.j1 kj3 a0 a1 (t181 != t183))))) = some r := H
                replace H := Option.bind_eq_some_iff.mp H
                obtain ⟨t181, A260, H⟩ := H
                replace H : ((sat_Mul.f a1 a2).bind fun t182 => ((sat_Mul.f a0 t182).bind fun t183 => (sandglasslaw01_SatJoins.j1 kj3 a0 a1 (t181 != t183)))) = some r := H
                have A26 := Aside0.mk A260
                clear A260
                replace H := Option.bind_eq_some_iff.mp H
                obtain ⟨t182, A270, H⟩ := H
                replace H : ((sat_Mul.f a0 t182).bind fun t183 => (sandglasslaw01_SatJoins.j1 kj3 a0 a1 (t181 != t183))) = some r := H
                have A27 := Aside0.mk A270
                clear A270
                replace H := Option.bind_eq_some_iff.mp H
                obtain ⟨t183, A280, H⟩ := H
                replace H : (sandglasslaw01_SatJoins.j1 kj3 a0 a1 (t181 != t183)) = some r := H
                have A28 := Aside0.mk A280
                clear A280
                have H' := Aside0.mk H
                clear H
                go_wp2_with (first | ((with_reducible refine gate_callee (f := 9) rfl ?_); refine goesL_ (some 40) rfl rfl Try.func9 (by kernel_rfl) rfl #[.int .u64 a1, .int .u64 a2] rfl (by (try simp only [List.map_toArray, List.map_cons, List.map_nil]); first | done | rfl | (simp only [List.length_drop, List.length_take]; rfl)) ?_; (with_reducible refine (sat_Add.calls a1 a2 t175 _ A17.out).mono ?_); rintro e w' ⟨rfl, ⟨nd, rfl⟩⟩; refine ⟨_, rfl, ?_⟩) | ((with_reducible refine gate_callee (f := 13) rfl ?_); refine goesL_ (some 41) rfl rfl Try.func13 (by kernel_rfl) rfl #[.int .u64 a0, .int .u64 t175] rfl (by (try simp only [List.map_toArray, List.map_cons, List.map_nil]); first | done | rfl | (simp only [List.length_drop, List.length_take]; rfl)) ?_; (with_reducible refine (sat_Mul.calls a0 t175 t176 _ A18.out).mono ?_); rintro e w' ⟨rfl, ⟨nd, rfl⟩⟩; refine ⟨_, rfl, ?_⟩) | ((with_reducible refine gate_callee (f := 13) rfl ?_); refine goesL_ (some 44) rfl rfl Try.func13 (by kernel_rfl) rfl #[.int .u64 a0, .int .u64 a1] rfl (by (try simp only [List.map_toArray, List.map_cons, List.map_nil]); first | done | rfl | (simp only [List.length_drop, List.length_take]; rfl)) ?_; (with_reducible refine (sat_Mul.calls a0 a1 t177 _ A19.out).mono ?_); rintro e w' ⟨rfl, ⟨nd, rfl⟩⟩; refine ⟨_, rfl, ?_⟩) | ((with_reducible refine gate_callee (f := 13) rfl ?_); refine goesL_ (some 47) rfl rfl Try.func13 (by kernel_rfl) rfl #[.int .u64 a0, .int .u64 a2] rfl (by (try simp only [List.map_toArray, List.map_cons, List.map_nil]); first | done | rfl | (simp only [List.length_drop, List.length_take]; rfl)) ?_; (with_reducible refine (sat_Mul.calls a0 a2 t178 _ A20.out).mono ?_); rintro e w' ⟨rfl, ⟨nd, rfl⟩⟩; refine ⟨_, rfl, ?_⟩) | ((with_reducible refine gate_callee (f := 9) rfl ?_); refine goesL_ (some 48) rfl rfl Try.func9 (by kernel_rfl) rfl #[.int .u64 t177, .int .u64 t178] rfl (by (try simp only [List.map_toArray, List.map_cons, List.map_nil]); first | done | rfl | (simp only [List.length_drop, List.length_take]; rfl)) ?_; (with_reducible refine (sat_Add.calls t177 t178 t179 _ A21.out).mono ?_); rintro e w' ⟨rfl, ⟨nd, rfl⟩⟩; refine ⟨_, rfl, ?_⟩) | (go_at_call 13; (with_reducible refine (sat_Mul.calls a0 a1 t177 _ A19.out).mono ?_); rintro e w' ⟨rfl, ⟨nd, rfl⟩⟩) | (go_at_call 13; (with_reducible refine (sat_Mul.calls t177 a2 t181 _ A26.out).mono ?_); rintro e w' ⟨rfl, ⟨nd, rfl⟩⟩) | (go_at_call 13; (with_reducible refine (sat_Mul.calls a1 a2 t182 _ A27.out).mono ?_); rintro e w' ⟨rfl, ⟨nd, rfl⟩⟩) | (go_at_call 13; (with_reducible refine (sat_Mul.calls a0 t182 t183 _ A28.out).mono ?_); rintro e w' ⟨rfl, ⟨nd, rfl⟩⟩))
                go_meet
                case rel => exact ⟨_, ((t181 != t183)), (by first | rfl | (simp; done) | (simp [*]; done)), H', ⟨by have := HJ3.out; first | omega | exact Nat.le_refl _⟩, ⟨by repeat (first | (with_reducible first | exact HB.out | apply below_alloc | apply pw_below_drewN | apply below_drew1) | exact HB.out)⟩⟩
              · rw [if_neg c24] at H
                have c24b0 : decide (0 < a2) = false := decide_eq_false c24
                clear c24
                have H' := Aside0.mk H
                clear H
                go_wp2_with (first | ((with_reducible refine gate_callee (f := 9) rfl ?_); refine goesL_ (some 40) rfl rfl Try.func9 (by kernel_rfl) rfl #[.int .u64 a1, .int .u64 a2] rfl (by (try simp only [List.map_toArray, List.map_cons, List.map_nil]); first | done | rfl | (simp only [List.length_drop, List.length_take]; rfl)) ?_; (with_reducible refine (sat_Add.calls a1 a2 t175 _ A17.out).mono ?_); rintro e w' ⟨rfl, ⟨nd, rfl⟩⟩; refine ⟨_, rfl, ?_⟩) | ((with_reducible refine gate_callee (f := 13) rfl ?_); refine goesL_ (some 41) rfl rfl Try.func13 (by kernel_rfl) rfl #[.int .u64 a0, .int .u64 t175] rfl (by (try simp only [List.map_toArray, List.map_cons, List.map_nil]); first | done | rfl | (simp only [List.length_drop, List.length_take]; rfl)) ?_; (with_reducible refine (sat_Mul.calls a0 t175 t176 _ A18.out).mono ?_); rintro e w' ⟨rfl, ⟨nd, rfl⟩⟩; refine ⟨_, rfl, ?_⟩) | ((with_reducible refine gate_callee (f := 13) rfl ?_); refine goesL_ (some 44) rfl rfl Try.func13 (by kernel_rfl) rfl #[.int .u64 a0, .int .u64 a1] rfl (by (try simp only [List.map_toArray, List.map_cons, List.map_nil]); first | done | rfl | (simp only [List.length_drop, List.length_take]; rfl)) ?_; (with_reducible refine (sat_Mul.calls a0 a1 t177 _ A19.out).mono ?_); rintro e w' ⟨rfl, ⟨nd, rfl⟩⟩; refine ⟨_, rfl, ?_⟩) | ((with_reducible refine gate_callee (f := 13) rfl ?_); refine goesL_ (some 47) rfl rfl Try.func13 (by kernel_rfl) rfl #[.int .u64 a0, .int .u64 a2] rfl (by (try simp only [List.map_toArray, List.map_cons, List.map_nil]); first | done | rfl | (simp only [List.length_drop, List.length_take]; rfl)) ?_; (with_reducible refine (sat_Mul.calls a0 a2 t178 _ A20.out).mono ?_); rintro e w' ⟨rfl, ⟨nd, rfl⟩⟩; refine ⟨_, rfl, ?_⟩) | ((with_reducible refine gate_callee (f := 9) rfl ?_); refine goesL_ (some 48) rfl rfl Try.func9 (by kernel_rfl) rfl #[.int .u64 t177, .int .u64 t178] rfl (by (try simp only [List.map_toArray, List.map_cons, List.map_nil]); first | done | rfl | (simp only [List.length_drop, List.length_take]; rfl)) ?_; (with_reducible refine (sat_Add.calls t177 t178 t179 _ A21.out).mono ?_); rintro e w' ⟨rfl, ⟨nd, rfl⟩⟩; refine ⟨_, rfl, ?_⟩))
                go_meet
                case rel => exact ⟨_, (false), (by first | rfl | (simp; done) | (simp [*]; done)), H', ⟨by have := HJ3.out; first | omega | exact Nat.le_refl _⟩, ⟨by repeat (first | (with_reducible first | exact HB.out | apply below_alloc | apply pw_below_drewN | apply below_drew1) | exact HB.out)⟩⟩
            · rw [if_neg c23] at H
              have c23b0 : decide (0 < a0) = false := decide_eq_false c23
              clear c23
              have H' := Aside0.mk H
              clear H
              go_wp2_with (first | ((with_reducible refine gate_callee (f := 9) rfl ?_); refine goesL_ (some 40) rfl rfl Try.func9 (by kernel_rfl) rfl #[.int .u64 a1, .int .u64 a2] rfl (by (try simp only [List.map_toArray, List.map_cons, List.map_nil]); first | done | rfl | (simp only [List.length_drop, List.length_take]; rfl)) ?_; (with_reducible refine (sat_Add.calls a1 a2 t175 _ A17.out).mono ?_); rintro e w' ⟨rfl, ⟨nd, rfl⟩⟩; refine ⟨_, rfl, ?_⟩) | ((with_reducible refine gate_callee (f := 13) rfl ?_); refine goesL_ (some 41) rfl rfl Try.func13 (by kernel_rfl) rfl #[.int .u64 a0, .int .u64 t175] rfl (by (try simp only [List.map_toArray, List.map_cons, List.map_nil]); first | done | rfl | (simp only [List.length_drop, List.length_take]; rfl)) ?_; (with_reducible refine (sat_Mul.calls a0 t175 t176 _ A18.out).mono ?_); rintro e w' ⟨rfl, ⟨nd, rfl⟩⟩; refine ⟨_, rfl, ?_⟩) | ((with_reducible refine gate_callee (f := 13) rfl ?_); refine goesL_ (some 44) rfl rfl Try.func13 (by kernel_rfl) rfl #[.int .u64 a0, .int .u64 a1] rfl (by (try simp only [List.map_toArray, List.map_cons, List.map_nil]); first | done | rfl | (simp only [List.length_drop, List.length_take]; rfl)) ?_; (with_reducible refine (sat_Mul.calls a0 a1 t177 _ A19.out).mono ?_); rintro e w' ⟨rfl, ⟨nd, rfl⟩⟩; refine ⟨_, rfl, ?_⟩) | ((with_reducible refine gate_callee (f := 13) rfl ?_); refine goesL_ (some 47) rfl rfl Try.func13 (by kernel_rfl) rfl #[.int .u64 a0, .int .u64 a2] rfl (by (try simp only [List.map_toArray, List.map_cons, List.map_nil]); first | done | rfl | (simp only [List.length_drop, List.length_take]; rfl)) ?_; (with_reducible refine (sat_Mul.calls a0 a2 t178 _ A20.out).mono ?_); rintro e w' ⟨rfl, ⟨nd, rfl⟩⟩; refine ⟨_, rfl, ?_⟩) | ((with_reducible refine gate_callee (f := 9) rfl ?_); refine goesL_ (some 48) rfl rfl Try.func9 (by kernel_rfl) rfl #[.int .u64 t177, .int .u64 t178] rfl (by (try simp only [List.map_toArray, List.map_cons, List.map_nil]); first | done | rfl | (simp only [List.length_drop, List.length_take]; rfl)) ?_; (with_reducible refine (sat_Add.calls t177 t178 t179 _ A21.out).mono ?_); rintro e w' ⟨rfl, ⟨nd, rfl⟩⟩; refine ⟨_, rfl, ?_⟩))
              go_meet
              case rel => exact ⟨_, (false), (by first | rfl | (simp; done) | (simp [*]; done)), H', ⟨by have := HJ3.out; first | omega | exact Nat.le_refl _⟩, ⟨by repeat (first | (with_reducible first | exact HB.out | apply below_alloc | apply pw_below_drewN | apply below_drew1) | exact HB.out)⟩⟩
          · rw [if_neg c22] at H
            have c22b0 : (t176 == t179) = false := beq_eq_false_iff_ne.mpr c22
            have c22b1 : (t176 != t179) = true := bne_iff_ne.mpr c22
            (first | rw [c22b0] | (simp only [i64_w, i32_w]; rw [c22b0]) | skip)
            have H' := Aside0.mk H
            clear H
            go_wp2_with (first | ((with_reducible refine gate_callee (f := 9) rfl ?_); refine goesL_ (some 40) rfl rfl Try.func9 (by kernel_rfl) rfl #[.int .u64 a1, .int .u64 a2] rfl (by (try simp only [List.map_toArray, List.map_cons, List.map_nil]); first | done | rfl | (simp only [List.length_drop, List.length_take]; rfl)) ?_; (with_reducible refine (sat_Add.calls a1 a2 t175 _ A17.out).mono ?_); rintro e w' ⟨rfl, ⟨nd, rfl⟩⟩; refine ⟨_, rfl, ?_⟩) | ((with_reducible refine gate_callee (f := 13) rfl ?_); refine goesL_ (some 41) rfl rfl Try.func13 (by kernel_rfl) rfl #[.int .u64 a0, .int .u64 t175] rfl (by (try simp only [List.map_toArray, List.map_cons, List.map_nil]); first | done | rfl | (simp only [List.length_drop, List.length_take]; rfl)) ?_; (with_reducible refine (sat_Mul.calls a0 t175 t176 _ A18.out).mono ?_); rintro e w' ⟨rfl, ⟨nd, rfl⟩⟩; refine ⟨_, rfl, ?_⟩) | ((with_reducible refine gate_callee (f := 13) rfl ?_); refine goesL_ (some 44) rfl rfl Try.func13 (by kernel_rfl) rfl #[.int .u64 a0, .int .u64 a1] rfl (by (try simp only [List.map_toArray, List.map_cons, List.map_nil]); first | done | rfl | (simp only [List.length_drop, List.length_take]; rfl)) ?_; (with_reducible refine (sat_Mul.calls a0 a1 t177 _ A19.out).mono ?_); rintro e w' ⟨rfl, ⟨nd, rfl⟩⟩; refine ⟨_, rfl, ?_⟩) | ((with_reducible refine gate_callee (f := 13) rfl ?_); refine goesL_ (some 47) rfl rfl Try.func13 (by kernel_rfl) rfl #[.int .u64 a0, .int .u64 a2] rfl (by (try simp only [List.map_toArray, List.map_cons, List.map_nil]); first | done | rfl | (simp only [List.length_drop, List.length_take]; rfl)) ?_; (with_reducible refine (sat_Mul.calls a0 a2 t178 _ A20.out).mono ?_); rintro e w' ⟨rfl, ⟨nd, rfl⟩⟩; refine ⟨_, rfl, ?_⟩) | ((with_reducible refine gate_callee (f := 9) rfl ?_); refine goesL_ (some 48) rfl rfl Try.func9 (by kernel_rfl) rfl #[.int .u64 t177, .int .u64 t178] rfl (by (try simp only [List.map_toArray, List.map_cons, List.map_nil]); first | done | rfl | (simp only [List.length_drop, List.length_take]; rfl)) ?_; (with_reducible refine (sat_Add.calls t177 t178 t179 _ A21.out).mono ?_); rintro e w' ⟨rfl, ⟨nd, rfl⟩⟩; refine ⟨_, rfl, ?_⟩))
            go_meet
            case rel => exact ⟨_, (true), (by first | rfl | (simp; done) | (simp [*]; done)), H', ⟨by have := HJ3.out; first | omega | exact Nat.le_refl _⟩, ⟨by repeat (first | (with_reducible first | exact HB.out | apply below_alloc | apply pw_below_drewN | apply below_drew1) | exact HB.out)⟩⟩
        case rest =>
          clear HC16
          try clear c1
          try clear c2
          try clear p2
          try clear c6
          try clear c7
          try clear c7b0
          try clear c7b1
          try clear c9
          try clear c10
          try clear c10b0
          try clear c10b1
          try clear c13
          try clear c15
          try clear c22
          try clear c22b0
          try clear c22b1
          try clear c23
          try clear c23b0
          try clear c24
          try clear c24b0
          try clear p2
          obtain ⟨kq, x70_15, rfl, HA, HJ15, HB⟩ := hcut
          cases kq with
          | zero => exact absurd HA.out (by simp [sandglasslaw01_SatJoins.j1])
          | succ kj15 =>
            have H := HA.out
            clear HA
            simp only [sandglasslaw01_SatJoins.j1] at H
            by_cases c29 : x70_15 = true
            · subst c29
              have H1 : (some false) = some r := by rw [if_pos rfl] at H; exact H
              clear H
              have H := H1
              clear H1
              obtain rfl := Option.some.inj H
              go_wp2
              go_ret
              exact ⟨by first | rfl | (simp [errW_none, errW_some] <;> rfl) | (simp [*, errW_none, errW_some] <;> rfl), by repeat (first | (with_reducible first | exact HB.out | apply below_alloc | apply pw_below_drewN | apply below_drew1) | exact HB.out)⟩
            · replace c29 := Bool.eq_false_iff.mpr c29
              subst c29
              have H1 : ((sat_Add.f a0 a1).bind fun t184 => (if t184 = 18446744073709551615 then ((sat_Sub.f a0 a1).bind fun t185 => ((sat_Add.f t185 a1).bind fun t186 => (if t186 = (mx a0 a1) then ((sandglasslaw01_awake.f).bind fun t187 => (some t187)) else (some false)))) else ((sat_Sub.f t184 a1).bind fun t188 => (if t188 = a0 then ((sat_Sub.f a0 a1).bind fun t189 => ((sat_Add.f t189 a1).bind fun t190 => (if t190 = (mx a0 a1) then ((sandglasslaw01_awake.f).bind fun t191 => (some t191)) else (some false)))) else (some false))))) = some r := by rw [if_neg (show ¬ (false = true) by decide)] at H; exact H
              clear H
              have H := H1
              clear H1
              replace H := Option.bind_eq_some_iff.mp H
              obtain ⟨t184, A300, H⟩ := H
              replace H : (if t184 = 18446744073709551615 then ((sat_Sub.f a0 a1).bind fun t185 => ((sat_Add.f t185 a1).bind fun t186 => (if t186 = (mx a0 a1) then ((sandglasslaw01_awake.f).bind fun t187 => (some t187)) else (some false)))) else ((sat_Sub.f t184 a1).bind fun t188 => (if t188 = a0 then ((sat_Sub.f a0 a1).bind fun t189 => ((sat_Add.f t189 a1).bind fun t190 => (if t190 = (mx a0 a1) then ((sandglasslaw01_awake.f).bind fun t191 => (some t191)) else (some false)))) else (some false)))) = some r := H
              have A30 := Aside0.mk A300
              clear A300
              by_cases c31 : t184 = 18446744073709551615
              · rw [if_pos c31] at H
                have c31b0 : (t184 == 18446744073709551615) = true := beq_iff_eq.mpr c31
                have c31b1 : (t184 != 18446744073709551615) = false := bne_eq_false_iff_eq.mpr c31
                clear c31
                replace H := Option.bind_eq_some_iff.mp H
                obtain ⟨t185, A320, H⟩ := H
                replace H : ((sat_Add.f t185 a1).bind fun t186 => (if t186 = (mx a0 a1) then ((sandglasslaw01_awake.f).bind fun t187 => (some t187)) else (some false))) = some r := H
                have A32 := Aside0.mk A320
                clear A320
                replace H := Option.bind_eq_some_iff.mp H
                obtain ⟨t186, A330, H⟩ := H
                replace H : (if t186 = (mx a0 a1) then ((sandglasslaw01_awake.f).bind fun t187 => (some t187)) else (some false)) = some r := H
                have A33 := Aside0.mk A330
                clear A330
                obtain ⟨ji34, hji34⟩ : ∃ j_ : Int, (mx a0 a1) = j_ := ⟨_, rfl⟩
                replace H : (if t186 = (ji34) then ((sandglasslaw01_awake.f).bind fun t187 => (some t187)) else (some false)) = some r := by first | (rw [hji34] at H; exact H) | (simp only [hji34] at H ⊢; exact H)
                (try rw [hji34] at A30)
                (try rw [hji34] at A32)
                (try rw [hji34] at A33)
                have hji34_ : (if a0 < a1 then a1 else a0) = ji34 := hji34
                by_cases c35 : t186 = (ji34)
                · rw [if_pos c35] at H
                  have c35b0 : (t186 == (ji34)) = true := beq_iff_eq.mpr c35
                  have c35b1 : (t186 != (ji34)) = false := bne_eq_false_iff_eq.mpr c35
                  clear c35
                  replace H := Option.bind_eq_some_iff.mp H
                  obtain ⟨t187, A360, H⟩ := H
                  replace H : (some t187) = some r := H
                  have A36 := Aside0.mk A360
                  clear A360
                  obtain rfl := Option.some.inj H
                  go_wp2_with (first | ((with_reducible refine gate_callee (f := 9) rfl ?_); refine goesL_ (some 73) rfl rfl Try.func9 (by kernel_rfl) rfl #[.int .u64 a0, .int .u64 a1] rfl (by (try simp only [List.map_toArray, List.map_cons, List.map_nil]); first | done | rfl | (simp only [List.length_drop, List.length_take]; rfl)) ?_; (with_reducible refine (sat_Add.calls a0 a1 t184 _ A30.out).mono ?_); rintro e w' ⟨rfl, ⟨nd, rfl⟩⟩; refine ⟨_, rfl, ?_⟩) | (go_at_call 11; (with_reducible refine (sat_Sub.calls a0 a1 t185 _ A32.out).mono ?_); rintro e w' ⟨rfl, ⟨nd, rfl⟩⟩) | (go_at_call 9; (with_reducible refine (sat_Add.calls t185 a1 t186 _ A33.out).mono ?_); rintro e w' ⟨rfl, ⟨nd, rfl⟩⟩) | (go_at_call 21; (with_reducible refine (sandglasslaw01_awake.calls  t187 _ A36.out).mono ?_); rintro e w' ⟨rfl, ⟨nd, rfl⟩⟩))
                  go_ret
                  exact ⟨by first | rfl | (simp [errW_none, errW_some] <;> rfl) | (simp only [← hji34]; first | rfl | (simp [errW_none, errW_some] <;> rfl)) | (simp [*, errW_none, errW_some] <;> rfl), by repeat (first | (with_reducible first | exact HB.out | apply below_alloc | apply pw_below_drewN | apply below_drew1) | exact HB.out)⟩
                · rw [if_neg c35] at H
                  have c35b0 : (t186 == (ji34)) = false := beq_eq_false_iff_ne.mpr c35
                  have c35b1 : (t186 != (ji34)) = true := bne_iff_ne.mpr c35
                  obtain rfl := Option.some.inj H
                  go_wp2_with (first | ((with_reducible refine gate_callee (f := 9) rfl ?_); refine goesL_ (some 73) rfl rfl Try.func9 (by kernel_rfl) rfl #[.int .u64 a0, .int .u64 a1] rfl (by (try simp only [List.map_toArray, List.map_cons, List.map_nil]); first | done | rfl | (simp only [List.length_drop, List.length_take]; rfl)) ?_; (with_reducible refine (sat_Add.calls a0 a1 t184 _ A30.out).mono ?_); rintro e w' ⟨rfl, ⟨nd, rfl⟩⟩; refine ⟨_, rfl, ?_⟩) | (go_at_call 11; (with_reducible refine (sat_Sub.calls a0 a1 t185 _ A32.out).mono ?_); rintro e w' ⟨rfl, ⟨nd, rfl⟩⟩) | (go_at_call 9; (with_reducible refine (sat_Add.calls t185 a1 t186 _ A33.out).mono ?_); rintro e w' ⟨rfl, ⟨nd, rfl⟩⟩))
                  go_ret
                  exact ⟨by first | rfl | (simp [errW_none, errW_some] <;> rfl) | (simp only [← hji34]; first | rfl | (simp [errW_none, errW_some] <;> rfl)) | (simp [*, errW_none, errW_some] <;> rfl), by repeat (first | (with_reducible first | exact HB.out | apply below_alloc | apply pw_below_drewN | apply below_drew1) | exact HB.out)⟩
              · rw [if_neg c31] at H
                have c31b0 : (t184 == 18446744073709551615) = false := beq_eq_false_iff_ne.mpr c31
                have c31b1 : (t184 != 18446744073709551615) = true := bne_iff_ne.mpr c31
                replace H := Option.bind_eq_some_iff.mp H
                obtain ⟨t188, A370, H⟩ := H
                replace H : (if t188 = a0 then ((sat_Sub.f a0 a1).bind fun t189 => ((sat_Add.f t189 a1).bind fun t190 => (if t190 = (mx a0 a1) then ((sandglasslaw01_awake.f).bind fun t191 => (some t191)) else (some false)))) else (some false)) = some r := H
                have A37 := Aside0.mk A370
                clear A370
                by_cases c38 : t188 = a0
                · rw [if_pos c38] at H
                  have c38b0 : (t188 == a0) = true := beq_iff_eq.mpr c38
                  have c38b1 : (t188 != a0) = false := bne_eq_false_iff_eq.mpr c38
                  clear c38
                  replace H := Option.bind_eq_some_iff.mp H
                  obtain ⟨t189, A390, H⟩ := H
                  replace H : ((sat_Add.f t189 a1).bind fun t190 => (if t190 = (mx a0 a1) then ((sandglasslaw01_awake.f).bind fun t191 => (some t191)) else (some false))) = some r := H
                  have A39 := Aside0.mk A390
                  clear A390
                  replace H := Option.bind_eq_some_iff.mp H
                  obtain ⟨t190, A400, H⟩ := H
                  replace H : (if t190 = (mx a0 a1) then ((sandglasslaw01_awake.f).bind fun t191 => (some t191)) else (some false)) = some r := H
                  have A40 := Aside0.mk A400
                  clear A400
                  obtain ⟨ji41, hji41⟩ : ∃ j_ : Int, (mx a0 a1) = j_ := ⟨_, rfl⟩
                  replace H : (if t190 = (ji41) then ((sandglasslaw01_awake.f).bind fun t191 => (some t191)) else (some false)) = some r := by first | (rw [hji41] at H; exact H) | (simp only [hji41] at H ⊢; exact H)
                  (try rw [hji41] at A30)
                  (try rw [hji41] at A37)
                  (try rw [hji41] at A39)
                  (try rw [hji41] at A40)
                  have hji41_ : (if a0 < a1 then a1 else a0) = ji41 := hji41
                  by_cases c42 : t190 = (ji41)
                  · rw [if_pos c42] at H
                    have c42b0 : (t190 == (ji41)) = true := beq_iff_eq.mpr c42
                    have c42b1 : (t190 != (ji41)) = false := bne_eq_false_iff_eq.mpr c42
                    clear c42
                    replace H := Option.bind_eq_some_iff.mp H
                    obtain ⟨t191, A430, H⟩ := H
                    replace H : (some t191) = some r := H
                    have A43 := Aside0.mk A430
                    clear A430
                    obtain rfl := Option.some.inj H
                    go_wp2_with (first | ((with_reducible refine gate_callee (f := 9) rfl ?_); refine goesL_ (some 73) rfl rfl Try.func9 (by kernel_rfl) rfl #[.int .u64 a0, .int .u64 a1] rfl (by (try simp only [List.map_toArray, List.map_cons, List.map_nil]); first | done | rfl | (simp only [List.length_drop, List.length_take]; rfl)) ?_; (with_reducible refine (sat_Add.calls a0 a1 t184 _ A30.out).mono ?_); rintro e w' ⟨rfl, ⟨nd, rfl⟩⟩; refine ⟨_, rfl, ?_⟩) | (go_at_call 11; (with_reducible refine (sat_Sub.calls t184 a1 t188 _ A37.out).mono ?_); rintro e w' ⟨rfl, ⟨nd, rfl⟩⟩) | (go_at_call 11; (with_reducible refine (sat_Sub.calls a0 a1 t189 _ A39.out).mono ?_); rintro e w' ⟨rfl, ⟨nd, rfl⟩⟩) | (go_at_call 9; (with_reducible refine (sat_Add.calls t189 a1 t190 _ A40.out).mono ?_); rintro e w' ⟨rfl, ⟨nd, rfl⟩⟩) | (go_at_call 21; (with_reducible refine (sandglasslaw01_awake.calls  t191 _ A43.out).mono ?_); rintro e w' ⟨rfl, ⟨nd, rfl⟩⟩))
                    go_ret
                    exact ⟨by first | rfl | (simp [errW_none, errW_some] <;> rfl) | (simp only [← hji41]; first | rfl | (simp [errW_none, errW_some] <;> rfl)) | (simp [*, errW_none, errW_some] <;> rfl), by repeat (first | (with_reducible first | exact HB.out | apply below_alloc | apply pw_below_drewN | apply below_drew1) | exact HB.out)⟩
                  · rw [if_neg c42] at H
                    have c42b0 : (t190 == (ji41)) = false := beq_eq_false_iff_ne.mpr c42
                    have c42b1 : (t190 != (ji41)) = true := bne_iff_ne.mpr c42
                    obtain rfl := Option.some.inj H
                    go_wp2_with (first | ((with_reducible refine gate_callee (f := 9) rfl ?_); refine goesL_ (some 73) rfl rfl Try.func9 (by kernel_rfl) rfl #[.int .u64 a0, .int .u64 a1] rfl (by (try simp only [List.map_toArray, List.map_cons, List.map_nil]); first | done | rfl | (simp only [List.length_drop, List.length_take]; rfl)) ?_; (with_reducible refine (sat_Add.calls a0 a1 t184 _ A30.out).mono ?_); rintro e w' ⟨rfl, ⟨nd, rfl⟩⟩; refine ⟨_, rfl, ?_⟩) | (go_at_call 11; (with_reducible refine (sat_Sub.calls t184 a1 t188 _ A37.out).mono ?_); rintro e w' ⟨rfl, ⟨nd, rfl⟩⟩) | (go_at_call 11; (with_reducible refine (sat_Sub.calls a0 a1 t189 _ A39.out).mono ?_); rintro e w' ⟨rfl, ⟨nd, rfl⟩⟩) | (go_at_call 9; (with_reducible refine (sat_Add.calls t189 a1 t190 _ A40.out).mono ?_); rintro e w' ⟨rfl, ⟨nd, rfl⟩⟩))
                    go_ret
                    exact ⟨by first | rfl | (simp [errW_none, errW_some] <;> rfl) | (simp only [← hji41]; first | rfl | (simp [errW_none, errW_some] <;> rfl)) | (simp [*, errW_none, errW_some] <;> rfl), by repeat (first | (with_reducible first | exact HB.out | apply below_alloc | apply pw_below_drewN | apply below_drew1) | exact HB.out)⟩
                · rw [if_neg c38] at H
                  have c38b0 : (t188 == a0) = false := beq_eq_false_iff_ne.mpr c38
                  have c38b1 : (t188 != a0) = true := bne_iff_ne.mpr c38
                  obtain rfl := Option.some.inj H
                  go_wp2_with (first | ((with_reducible refine gate_callee (f := 9) rfl ?_); refine goesL_ (some 73) rfl rfl Try.func9 (by kernel_rfl) rfl #[.int .u64 a0, .int .u64 a1] rfl (by (try simp only [List.map_toArray, List.map_cons, List.map_nil]); first | done | rfl | (simp only [List.length_drop, List.length_take]; rfl)) ?_; (with_reducible refine (sat_Add.calls a0 a1 t184 _ A30.out).mono ?_); rintro e w' ⟨rfl, ⟨nd, rfl⟩⟩; refine ⟨_, rfl, ?_⟩) | (go_at_call 11; (with_reducible refine (sat_Sub.calls t184 a1 t188 _ A37.out).mono ?_); rintro e w' ⟨rfl, ⟨nd, rfl⟩⟩))
                  go_ret
                  exact ⟨by first | rfl | (simp [errW_none, errW_some] <;> rfl) | (simp [*, errW_none, errW_some] <;> rfl), by repeat (first | (with_reducible first | exact HB.out | apply below_alloc | apply pw_below_drewN | apply below_drew1) | exact HB.out)⟩

/-- THE ONE PURE STATEMENT of sandglasslaw01_SatJoins: yours. -/
def sandglasslaw01_SatJoins.Pure : Prop := ∀ (a0 : Int) (a1 : Int) (a2 : Int), (Lit.int .u64 a0).wf = true → (Lit.int .u64 a1).wf = true → (Lit.int .u64 a2).wf = true → ∃ k, sandglasslaw01_SatJoins.f k a0 a1 a2 = some true
theorem sandglasslaw01_SatJoins.walk (P : sandglasslaw01_SatJoins.Pure) (a0 : Int) (a1 : Int) (a2 : Int) (w : World) (w0 : (Lit.int .u64 a0).wf = true) (w1 : (Lit.int .u64 a1).wf = true) (w2 : (Lit.int .u64 a2).wf = true) :
    Calls Try.prog 6 #[.int .u64 a0, .int .u64 a1, .int .u64 a2] w fun e w' => e = .returned (.bool true) ∧ Below w.heap.size w w' := by
  obtain ⟨k, h⟩ := P a0 a1 a2 w0 w1 w2
  refine (sandglasslaw01_SatJoins.calls k a0 a1 a2 true w h).mono ?_
  rintro e w' ⟨rfl, hd⟩
  exact ⟨rfl, hd⟩

end Go.Proofs.Ytihnjbpjikekpaa.PSat
