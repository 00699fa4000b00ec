/- One text of a proof that a law answers true for every input. No condition. Printed by p2.py (wip/tools of this repo), which drives the print of the kit; Lean checks it. -/
import Derived.Test.YtihnjbpjikekpaaPSatx0
import Derived.Test.YtihnjbpjikekpaaPSatx1
namespace Go.Proofs.Ytihnjbpjikekpaa.PSat
open Go.RowKit Go.Proofs.Ytihnjbpjikekpaa.Ext Go.Proofs.YtihnjbpjikekpaaW.PrintWords Go.Proofs.YtihnjbpjikekpaaW.PrintLast Go.Proofs.YtihnjbpjikekpaaW.PrintMore
attribute [local go_sem] max2_int min2_int max_two min_two max_three min_three max_four min_four   -- for this text's walks alone
set_option linter.unusedVariables false
set_option linter.unusedSimpArgs false

/-! ### sandglasslaw01_SatLeast: function 7 -/
def sandglasslaw01_SatLeast.j0 : Nat → Int → Int → Int → Bool → Option (Bool)
  | 0, _, _, _, _ => none
  | k + 1, x0, x1, x2, x13 => if x13 = true then ((sandglasslaw01_awake.f).bind fun t192 => (some t192)) else ((sat_Up.f x0 x1 x2).bind fun t193 => (if t193 = 18446744073709551615 then (if x0 > 0 then ((sandglasslaw01_awake.f).bind fun t194 => (some t194)) else (some false)) else ((sat_Down.f t193 x2 x1).bind fun t195 => (if t195 ≥ x0 then (if t193 = 0 then ((sandglasslaw01_awake.f).bind fun t196 => (some t196)) else ((sat_Down.f (IntKind.u64.wrap (t193 - 1)) x2 x1).bind fun t197 => (if t197 < x0 then ((sandglasslaw01_awake.f).bind fun t198 => (some t198)) else (some false)))) else (some false)))))
def sandglasslaw01_SatLeast.f (k : Nat) (a0 : Int) (a1 : Int) (a2 : Int) : Option (Bool) := if a1 = 0 then (sandglasslaw01_SatLeast.j0 k a0 a1 a2 true) else (sandglasslaw01_SatLeast.j0 k a0 a1 a2 (a2 == 0))
theorem sandglasslaw01_SatLeast.mono_l : ∀ k, (∀ y0 y1 y2 y3, LeO (sandglasslaw01_SatLeast.j0 k y0 y1 y2 y3) (sandglasslaw01_SatLeast.j0 (k + 1) y0 y1 y2 y3))
  | 0 => fun _ _ _ _ r h => by simp [sandglasslaw01_SatLeast.j0] at h
  | k + 1 => by
    have ih0 := sandglasslaw01_SatLeast.mono_l k
    · intro y0 y1 y2 y3
      unfold sandglasslaw01_SatLeast.j0
      repeat' first
      | (with_reducible exact ih0 _ _ _ _)
      | (with_reducible exact LeO.refl _)
      | (with_reducible exact LeO.none _)
      | (with_reducible refine LeO.ite ?_ ?_)
      | (with_reducible refine LeO.bind ?_ (fun _ => ?_))
      | exact ih0 _ _ _ _
      | exact LeO.none _
      | refine LeO.ite ?_ ?_
      | refine LeO.bind ?_ (fun _ => ?_)
theorem sandglasslaw01_SatLeast.mono : ∀ a0 a1 a2 k, LeO (sandglasslaw01_SatLeast.f k a0 a1 a2) (sandglasslaw01_SatLeast.f (k + 1) a0 a1 a2) := by
  intro a0 a1 a2 k
  have ih0 := sandglasslaw01_SatLeast.mono_l k
  unfold sandglasslaw01_SatLeast.f
  repeat' first
      | (with_reducible exact ih0 _ _ _ _)
      | (with_reducible exact LeO.refl _)
      | (with_reducible exact LeO.none _)
      | (with_reducible refine LeO.ite ?_ ?_)
      | (with_reducible refine LeO.bind ?_ (fun _ => ?_))
      | exact ih0 _ _ _ _
      | exact LeO.none _
      | refine LeO.ite ?_ ?_
      | refine LeO.bind ?_ (fun _ => ?_)
set_option maxHeartbeats 8000000 in
set_option maxRecDepth 100000 in
theorem sandglasslaw01_SatLeast.calls (k : Nat) (a0 : Int) (a1 : Int) (a2 : Int) (r : Bool) (w : World) (h : sandglasslaw01_SatLeast.f k a0 a1 a2 = some r) :
    Calls Try.prog 7 #[.int .u64 a0, .int .u64 a1, .int .u64 a2] w fun e w' => e = .returned (.bool r) ∧ Drawn0 w w' := by
  have H : (if a1 = 0 then (sandglasslaw01_SatLeast.j0 k a0 a1 a2 true) else (sandglasslaw01_SatLeast.j0 k a0 a1 a2 (a2 == 0))) = some r := h
  clear h
  have HC4 := Aside0.mk H
  clear H
  go_enter Try.func7, Try.ntmps7
  go_upto_region 1 with (fail)
  go_cut [13] (fun v13 wc => ∃ (kq : Nat) (x13_3 : Bool), v13 = .bool x13_3 ∧ Aside0 (sandglasslaw01_SatLeast.j0 kq a0 a1 a2 x13_3 = some r) ∧ Aside0 (kq ≤ k) ∧ Drawn0 w wc)
  case first =>
    have H := HC4.out
    clear HC4
    by_cases c5 : a1 = 0
    · rw [if_pos c5] at H
      have c5b0 : (a1 == 0) = true := beq_iff_eq.mpr c5
      have c5b1 : (a1 != 0) = false := bne_eq_false_iff_eq.mpr c5
      clear c5
      (first | rw [c5b0] | (simp only [i64_w, i32_w]; rw [c5b0]) | skip)
      have H' := Aside0.mk H
      clear H
      go_wp2
      go_meet
      case rel => exact ⟨_, (true), (by first | rfl | (simp; done) | (simp [*]; done)), H', ⟨by first | omega | exact Nat.le_refl _⟩, by repeat (first | exact Drawn0.refl _ | apply Drawn0.step)⟩
    · rw [if_neg c5] at H
      have c5b0 : (a1 == 0) = false := beq_eq_false_iff_ne.mpr c5
      have c5b1 : (a1 != 0) = true := bne_iff_ne.mpr c5
      (first | rw [c5b0] | (simp only [i64_w, i32_w]; rw [c5b0]) | skip)
      have H' := Aside0.mk H
      clear H
      go_wp2
      go_meet
      case rel => exact ⟨_, ((a2 == 0)), (by first | rfl | (simp; done) | (simp [*]; done)), H', ⟨by first | omega | exact Nat.le_refl _⟩, by repeat (first | exact Drawn0.refl _ | apply Drawn0.step)⟩
  case rest =>
    clear HC4
    try clear p2
    try clear c5
    try clear c5b0
    try clear c5b1
    obtain ⟨kq, x13_3, rfl, HA, HJ3, ⟨mc3, rfl⟩⟩ := hcut
    cases kq with
    | zero => exact absurd HA.out (by simp [sandglasslaw01_SatLeast.j0])
    | succ kj3 =>
      have H := HA.out
      clear HA
      simp only [sandglasslaw01_SatLeast.j0] at H
      by_cases c6 : x13_3 = true
      · subst c6
        have H1 : ((sandglasslaw01_awake.f).bind fun t192 => (some t192)) = some r := by rw [if_pos rfl] at H; exact H
        clear H
        have H := H1
        clear H1
        replace H := Option.bind_eq_some_iff.mp H
        obtain ⟨t192, A70, H⟩ := H
        replace H : (some t192) = some r := H
        have A7 := Aside0.mk A70
        clear A70
        obtain rfl := Option.some.inj H
        go_wp2_with (first | ((with_reducible refine gate_callee (f := 21) rfl ?_); refine goesL_ (some 14) rfl rfl Try.func21 (by kernel_rfl) rfl #[] rfl (by (try simp only [List.map_toArray, List.map_cons, List.map_nil]); first | done | rfl | (simp only [List.length_drop, List.length_take]; rfl)) ?_; (with_reducible refine (sandglasslaw01_awake.calls  t192 _ A7.out).mono ?_); rintro e w' ⟨rfl, ⟨nd, rfl⟩⟩; refine ⟨_, rfl, ?_⟩))
        go_ret
        exact ⟨by first | rfl | (simp; done) | (simp [*]; done), by repeat (first | exact Drawn0.refl _ | apply Drawn0.step)⟩
      · replace c6 := Bool.eq_false_iff.mpr c6
        subst c6
        have H1 : ((sat_Up.f a0 a1 a2).bind fun t193 => (if t193 = 18446744073709551615 then (if a0 > 0 then ((sandglasslaw01_awake.f).bind fun t194 => (some t194)) else (some false)) else ((sat_Down.f t193 a2 a1).bind fun t195 => (if t195 ≥ a0 then (if t193 = 0 then ((sandglasslaw01_awake.f).bind fun t196 => (some t196)) else ((sat_Down.f (IntKind.u64.wrap (t193 - 1)) a2 a1).bind fun t197 => (if t197 < a0 then ((sandglasslaw01_awake.f).bind fun t198 => (some t198)) else (some false)))) else (some false))))) = some r := by rw [if_neg (show ¬ (false = true) by decide)] at H; exact H
        clear H
        have H := H1
        clear H1
        replace H := Option.bind_eq_some_iff.mp H
        obtain ⟨t193, A80, H⟩ := H
        replace H : (if t193 = 18446744073709551615 then (if a0 > 0 then ((sandglasslaw01_awake.f).bind fun t194 => (some t194)) else (some false)) else ((sat_Down.f t193 a2 a1).bind fun t195 => (if t195 ≥ a0 then (if t193 = 0 then ((sandglasslaw01_awake.f).bind fun t196 => (some t196)) else ((sat_Down.f (IntKind.u64.wrap (t193 - 1)) a2 a1).bind fun t197 => (if t197 < a0 then ((sandglasslaw01_awake.f).bind fun t198 => (some t198)) else (some false)))) else (some false)))) = some r := H
        have A8 := Aside0.mk A80
        clear A80
        by_cases c9 : t193 = 18446744073709551615
        · rw [if_pos c9] at H
          have c9b0 : (t193 == 18446744073709551615) = true := beq_iff_eq.mpr c9
          have c9b1 : (t193 != 18446744073709551615) = false := bne_eq_false_iff_eq.mpr c9
          clear c9
          by_cases c10 : a0 > 0
          · rw [if_pos c10] at H
            have c10b0 : decide (0 < a0) = true := decide_eq_true c10
            clear c10
            replace H := Option.bind_eq_some_iff.mp H
            obtain ⟨t194, A110, H⟩ := H
            replace H : (some t194) = some r := H
            have A11 := Aside0.mk A110
            clear A110
            obtain rfl := Option.some.inj H
            go_wp2_with (first | ((with_reducible refine gate_callee (f := 17) rfl ?_); refine goesL_ (some 18) rfl rfl Try.func17 (by kernel_rfl) rfl #[.int .u64 a0, .int .u64 a1, .int .u64 a2] rfl (by (try simp only [List.map_toArray, List.map_cons, List.map_nil]); first | done | rfl | (simp only [List.length_drop, List.length_take]; rfl)) ?_; (with_reducible refine (sat_Up.calls a0 a1 a2 t193 _ A8.out).mono ?_); rintro e w' ⟨rfl, ⟨nd, rfl⟩⟩; refine ⟨_, rfl, ?_⟩) | (go_at_call 21; (with_reducible refine (sandglasslaw01_awake.calls  t194 _ A11.out).mono ?_); rintro e w' ⟨rfl, ⟨nd, rfl⟩⟩))
            go_ret
            exact ⟨by first | rfl | (simp; done) | (simp [*]; done), by repeat (first | exact Drawn0.refl _ | apply Drawn0.step)⟩
          · rw [if_neg c10] at H
            have c10b0 : decide (0 < a0) = false := decide_eq_false c10
            clear c10
            obtain rfl := Option.some.inj H
            go_wp2_with (first | ((with_reducible refine gate_callee (f := 17) rfl ?_); refine goesL_ (some 18) rfl rfl Try.func17 (by kernel_rfl) rfl #[.int .u64 a0, .int .u64 a1, .int .u64 a2] rfl (by (try simp only [List.map_toArray, List.map_cons, List.map_nil]); first | done | rfl | (simp only [List.length_drop, List.length_take]; rfl)) ?_; (with_reducible refine (sat_Up.calls a0 a1 a2 t193 _ A8.out).mono ?_); rintro e w' ⟨rfl, ⟨nd, rfl⟩⟩; refine ⟨_, rfl, ?_⟩))
            go_ret
            exact ⟨by first | rfl | (simp; done) | (simp [*]; done), by repeat (first | exact Drawn0.refl _ | apply Drawn0.step)⟩
        · rw [if_neg c9] at H
          have c9b0 : (t193 == 18446744073709551615) = false := beq_eq_false_iff_ne.mpr c9
          have c9b1 : (t193 != 18446744073709551615) = true := bne_iff_ne.mpr c9
          replace H := Option.bind_eq_some_iff.mp H
          obtain ⟨t195, A120, H⟩ := H
          replace H : (if t195 ≥ a0 then (if t193 = 0 then ((sandglasslaw01_awake.f).bind fun t196 => (some t196)) else ((sat_Down.f (IntKind.u64.wrap (t193 - 1)) a2 a1).bind fun t197 => (if t197 < a0 then ((sandglasslaw01_awake.f).bind fun t198 => (some t198)) else (some false)))) else (some false)) = some r := H
          have A12 := Aside0.mk A120
          clear A120
          by_cases c13 : t195 ≥ a0
          · rw [if_pos c13] at H
            have c13b0 : decide (a0 ≤ t195) = true := decide_eq_true c13
            clear c13
            by_cases c14 : t193 = 0
            · rw [if_pos c14] at H
              have c14b0 : (t193 == 0) = true := beq_iff_eq.mpr c14
              have c14b1 : (t193 != 0) = false := bne_eq_false_iff_eq.mpr c14
              clear c14
              replace H := Option.bind_eq_some_iff.mp H
              obtain ⟨t196, A150, H⟩ := H
              replace H : (some t196) = some r := H
              have A15 := Aside0.mk A150
              clear A150
              obtain rfl := Option.some.inj H
              go_wp2_with (first | ((with_reducible refine gate_callee (f := 17) rfl ?_); refine goesL_ (some 18) rfl rfl Try.func17 (by kernel_rfl) rfl #[.int .u64 a0, .int .u64 a1, .int .u64 a2] rfl (by (try simp only [List.map_toArray, List.map_cons, List.map_nil]); first | done | rfl | (simp only [List.length_drop, List.length_take]; rfl)) ?_; (with_reducible refine (sat_Up.calls a0 a1 a2 t193 _ A8.out).mono ?_); rintro e w' ⟨rfl, ⟨nd, rfl⟩⟩; refine ⟨_, rfl, ?_⟩) | ((with_reducible refine gate_callee (f := 15) rfl ?_); refine goesL_ (some 29) rfl rfl Try.func15 (by kernel_rfl) rfl #[.int .u64 t193, .int .u64 a2, .int .u64 a1] rfl (by (try simp only [List.map_toArray, List.map_cons, List.map_nil]); first | done | rfl | (simp only [List.length_drop, List.length_take]; rfl)) ?_; (with_reducible refine (sat_Down.calls t193 a2 a1 t195 _ A12.out).mono ?_); rintro e w' ⟨rfl, ⟨nd, rfl⟩⟩; refine ⟨_, rfl, ?_⟩) | (go_at_call 21; (with_reducible refine (sandglasslaw01_awake.calls  t196 _ A15.out).mono ?_); rintro e w' ⟨rfl, ⟨nd, rfl⟩⟩))
              go_ret
              exact ⟨by first | rfl | (simp; done) | (simp [*]; done), by repeat (first | exact Drawn0.refl _ | apply Drawn0.step)⟩
            · rw [if_neg c14] at H
              have c14b0 : (t193 == 0) = false := beq_eq_false_iff_ne.mpr c14
              have c14b1 : (t193 != 0) = true := bne_iff_ne.mpr c14
              replace H := Option.bind_eq_some_iff.mp H
              obtain ⟨t197, A160, H⟩ := H
              replace H : (if t197 < a0 then ((sandglasslaw01_awake.f).bind fun t198 => (some t198)) else (some false)) = some r := H
              have A16 := Aside0.mk A160
              clear A160
              by_cases c17 : t197 < a0
              · rw [if_pos c17] at H
                have c17b0 : decide (t197 < a0) = true := decide_eq_true c17
                clear c17
                replace H := Option.bind_eq_some_iff.mp H
                obtain ⟨t198, A180, H⟩ := H
                replace H : (some t198) = some r := H
                have A18 := Aside0.mk A180
                clear A180
                obtain rfl := Option.some.inj H
                go_wp2_with (first | ((with_reducible refine gate_callee (f := 17) rfl ?_); refine goesL_ (some 18) rfl rfl Try.func17 (by kernel_rfl) rfl #[.int .u64 a0, .int .u64 a1, .int .u64 a2] rfl (by (try simp only [List.map_toArray, List.map_cons, List.map_nil]); first | done | rfl | (simp only [List.length_drop, List.length_take]; rfl)) ?_; (with_reducible refine (sat_Up.calls a0 a1 a2 t193 _ A8.out).mono ?_); rintro e w' ⟨rfl, ⟨nd, rfl⟩⟩; refine ⟨_, rfl, ?_⟩) | ((with_reducible refine gate_callee (f := 15) rfl ?_); refine goesL_ (some 29) rfl rfl Try.func15 (by kernel_rfl) rfl #[.int .u64 t193, .int .u64 a2, .int .u64 a1] rfl (by (try simp only [List.map_toArray, List.map_cons, List.map_nil]); first | done | rfl | (simp only [List.length_drop, List.length_take]; rfl)) ?_; (with_reducible refine (sat_Down.calls t193 a2 a1 t195 _ A12.out).mono ?_); rintro e w' ⟨rfl, ⟨nd, rfl⟩⟩; refine ⟨_, rfl, ?_⟩) | (go_at_call 15; (with_reducible refine (sat_Down.calls (IntKind.u64.wrap (t193 - 1)) a2 a1 t197 _ A16.out).mono ?_); rintro e w' ⟨rfl, ⟨nd, rfl⟩⟩) | (go_at_call 21; (with_reducible refine (sandglasslaw01_awake.calls  t198 _ A18.out).mono ?_); rintro e w' ⟨rfl, ⟨nd, rfl⟩⟩))
                go_ret
                exact ⟨by first | rfl | (simp; done) | (simp [*]; done), by repeat (first | exact Drawn0.refl _ | apply Drawn0.step)⟩
              · rw [if_neg c17] at H
                have c17b0 : decide (t197 < a0) = false := decide_eq_false c17
                clear c17
                obtain rfl := Option.some.inj H
                go_wp2_with (first | ((with_reducible refine gate_callee (f := 17) rfl ?_); refine goesL_ (some 18) rfl rfl Try.func17 (by kernel_rfl) rfl #[.int .u64 a0, .int .u64 a1, .int .u64 a2] rfl (by (try simp only [List.map_toArray, List.map_cons, List.map_nil]); first | done | rfl | (simp only [List.length_drop, List.length_take]; rfl)) ?_; (with_reducible refine (sat_Up.calls a0 a1 a2 t193 _ A8.out).mono ?_); rintro e w' ⟨rfl, ⟨nd, rfl⟩⟩; refine ⟨_, rfl, ?_⟩) | ((with_reducible refine gate_callee (f := 15) rfl ?_); refine goesL_ (some 29) rfl rfl Try.func15 (by kernel_rfl) rfl #[.int .u64 t193, .int .u64 a2, .int .u64 a1] rfl (by (try simp only [List.map_toArray, List.map_cons, List.map_nil]); first | done | rfl | (simp only [List.length_drop, List.length_take]; rfl)) ?_; (with_reducible refine (sat_Down.calls t193 a2 a1 t195 _ A12.out).mono ?_); rintro e w' ⟨rfl, ⟨nd, rfl⟩⟩; refine ⟨_, rfl, ?_⟩) | (go_at_call 15; (with_reducible refine (sat_Down.calls (IntKind.u64.wrap (t193 - 1)) a2 a1 t197 _ A16.out).mono ?_); rintro e w' ⟨rfl, ⟨nd, rfl⟩⟩))
                go_ret
                exact ⟨by first | rfl | (simp; done) | (simp [*]; done), by repeat (first | exact Drawn0.refl _ | apply Drawn0.step)⟩
          · rw [if_neg c13] at H
            have c13b0 : decide (a0 ≤ t195) = false := decide_eq_false c13
            clear c13
            obtain rfl := Option.some.inj H
            go_wp2_with (first | ((with_reducible refine gate_callee (f := 17) rfl ?_); refine goesL_ (some 18) rfl rfl Try.func17 (by kernel_rfl) rfl #[.int .u64 a0, .int .u64 a1, .int .u64 a2] rfl (by (try simp only [List.map_toArray, List.map_cons, List.map_nil]); first | done | rfl | (simp only [List.length_drop, List.length_take]; rfl)) ?_; (with_reducible refine (sat_Up.calls a0 a1 a2 t193 _ A8.out).mono ?_); rintro e w' ⟨rfl, ⟨nd, rfl⟩⟩; refine ⟨_, rfl, ?_⟩) | ((with_reducible refine gate_callee (f := 15) rfl ?_); refine goesL_ (some 29) rfl rfl Try.func15 (by kernel_rfl) rfl #[.int .u64 t193, .int .u64 a2, .int .u64 a1] rfl (by (try simp only [List.map_toArray, List.map_cons, List.map_nil]); first | done | rfl | (simp only [List.length_drop, List.length_take]; rfl)) ?_; (with_reducible refine (sat_Down.calls t193 a2 a1 t195 _ A12.out).mono ?_); rintro e w' ⟨rfl, ⟨nd, rfl⟩⟩; refine ⟨_, rfl, ?_⟩))
            go_ret
            exact ⟨by first | rfl | (simp; done) | (simp [*]; done), by repeat (first | exact Drawn0.refl _ | apply Drawn0.step)⟩

/-- THE ONE PURE STATEMENT of sandglasslaw01_SatLeast: yours. -/
def sandglasslaw01_SatLeast.Pure : Prop := ∀ (a0 : Int) (a1 : Int) (a2 : Int), (Lit.int .u64 a0).wf = true → (Lit.int .u64 a1).wf = true → (Lit.int .u64 a2).wf = true → ∃ k, sandglasslaw01_SatLeast.f k a0 a1 a2 = some true
theorem sandglasslaw01_SatLeast.walk (P : sandglasslaw01_SatLeast.Pure) (a0 : Int) (a1 : Int) (a2 : Int) (w : World) (w0 : (Lit.int .u64 a0).wf = true) (w1 : (Lit.int .u64 a1).wf = true) (w2 : (Lit.int .u64 a2).wf = true) :
    Calls Try.prog 7 #[.int .u64 a0, .int .u64 a1, .int .u64 a2] w fun e w' => e = .returned (.bool true) ∧ Below w.heap.size w w' := by
  obtain ⟨k, h⟩ := P a0 a1 a2 w0 w1 w2
  refine (sandglasslaw01_SatLeast.calls k a0 a1 a2 true w h).mono ?_
  rintro e w' ⟨rfl, hd⟩
  exact ⟨rfl, hd.below⟩

/-! ### sandglasslaw01_SatClamp: function 8 -/
def sandglasslaw01_SatClamp.j0 : Nat → Int → Int → Int → Int → Bool → Option (Bool)
  | 0, _, _, _, _, _ => none
  | k + 1, x0, x1, x2, x7, x49 => if x49 = true then (some false) else ((sat_Clamp.f x7 x1 x2).bind fun t200 => (if t200 = x7 then (if x7 = x0 then ((sandglasslaw01_awake.f).bind fun t201 => (some t201)) else (if x7 = x1 then ((sandglasslaw01_awake.f).bind fun t202 => (some t202)) else (if x7 = x2 then ((sandglasslaw01_awake.f).bind fun t203 => (some t203)) else (some false)))) else (some false)))
def sandglasslaw01_SatClamp.f (k : Nat) (a0 : Int) (a1 : Int) (a2 : Int) : Option (Bool) := (sat_Clamp.f a0 a1 a2).bind fun t199 => (if t199 < a1 then (sandglasslaw01_SatClamp.j0 k a0 a1 a2 t199 true) else (if a1 ≤ a2 then (if t199 > a2 then (sandglasslaw01_SatClamp.j0 k a0 a1 a2 t199 true) else (if a1 ≤ a0 then (if a0 ≤ a2 then (if t199 = a0 then (if a1 > a2 then (sandglasslaw01_SatClamp.j0 k a0 a1 a2 t199 (t199 != a1)) else (sandglasslaw01_SatClamp.j0 k a0 a1 a2 t199 false)) else (sandglasslaw01_SatClamp.j0 k a0 a1 a2 t199 true)) else (if a1 > a2 then (sandglasslaw01_SatClamp.j0 k a0 a1 a2 t199 (t199 != a1)) else (sandglasslaw01_SatClamp.j0 k a0 a1 a2 t199 false))) else (if a1 > a2 then (sandglasslaw01_SatClamp.j0 k a0 a1 a2 t199 (t199 != a1)) else (sandglasslaw01_SatClamp.j0 k a0 a1 a2 t199 false)))) else (if a1 ≤ a0 then (if a0 ≤ a2 then (if t199 = a0 then (if a1 > a2 then (sandglasslaw01_SatClamp.j0 k a0 a1 a2 t199 (t199 != a1)) else (sandglasslaw01_SatClamp.j0 k a0 a1 a2 t199 false)) else (sandglasslaw01_SatClamp.j0 k a0 a1 a2 t199 true)) else (if a1 > a2 then (sandglasslaw01_SatClamp.j0 k a0 a1 a2 t199 (t199 != a1)) else (sandglasslaw01_SatClamp.j0 k a0 a1 a2 t199 false))) else (if a1 > a2 then (sandglasslaw01_SatClamp.j0 k a0 a1 a2 t199 (t199 != a1)) else (sandglasslaw01_SatClamp.j0 k a0 a1 a2 t199 false)))))
theorem sandglasslaw01_SatClamp.mono_l : ∀ k, (∀ y0 y1 y2 y3 y4, LeO (sandglasslaw01_SatClamp.j0 k y0 y1 y2 y3 y4) (sandglasslaw01_SatClamp.j0 (k + 1) y0 y1 y2 y3 y4))
  | 0 => fun _ _ _ _ _ r h => by simp [sandglasslaw01_SatClamp.j0] at h
  | k + 1 => by
    have ih0 := sandglasslaw01_SatClamp.mono_l k
    · intro y0 y1 y2 y3 y4
      unfold sandglasslaw01_SatClamp.j0
      repeat' first
      | (with_reducible exact ih0 _ _ _ _ _)
      | (with_reducible exact LeO.refl _)
      | (with_reducible exact LeO.none _)
      | (with_reducible refine LeO.ite ?_ ?_)
      | (with_reducible refine LeO.bind ?_ (fun _ => ?_))
      | exact ih0 _ _ _ _ _
      | exact LeO.none _
      | refine LeO.ite ?_ ?_
      | refine LeO.bind ?_ (fun _ => ?_)
theorem sandglasslaw01_SatClamp.mono : ∀ a0 a1 a2 k, LeO (sandglasslaw01_SatClamp.f k a0 a1 a2) (sandglasslaw01_SatClamp.f (k + 1) a0 a1 a2) := by
  intro a0 a1 a2 k
  have ih0 := sandglasslaw01_SatClamp.mono_l k
  unfold sandglasslaw01_SatClamp.f
  repeat' first
      | (with_reducible exact ih0 _ _ _ _ _)
      | (with_reducible exact LeO.refl _)
      | (with_reducible exact LeO.none _)
      | (with_reducible refine LeO.ite ?_ ?_)
      | (with_reducible refine LeO.bind ?_ (fun _ => ?_))
      | exact ih0 _ _ _ _ _
      | exact LeO.none _
      | refine LeO.ite ?_ ?_
      | refine LeO.bind ?_ (fun _ => ?_)
set_option maxHeartbeats 8000000 in
set_option maxRecDepth 100000 in
theorem sandglasslaw01_SatClamp.calls (k : Nat) (a0 : Int) (a1 : Int) (a2 : Int) (r : Bool) (w : World) (h : sandglasslaw01_SatClamp.f k a0 a1 a2 = some r) :
    Calls Try.prog 8 #[.int .u64 a0, .int .u64 a1, .int .u64 a2] w fun e w' => e = .returned (.bool r) ∧ Drawn0 w w' := by
  have H : ((sat_Clamp.f a0 a1 a2).bind fun t199 => (if t199 < a1 then (sandglasslaw01_SatClamp.j0 k a0 a1 a2 t199 true) else (if a1 ≤ a2 then (if t199 > a2 then (sandglasslaw01_SatClamp.j0 k a0 a1 a2 t199 true) else (if a1 ≤ a0 then (if a0 ≤ a2 then (if t199 = a0 then (if a1 > a2 then (sandglasslaw01_SatClamp.j0 k a0 a1 a2 t199 (t199 != a1)) else (sandglasslaw01_SatClamp.j0 k a0 a1 a2 t199 false)) else (sandglasslaw01_SatClamp.j0 k a0 a1 a2 t199 true)) else (if a1 > a2 then (sandglasslaw01_SatClamp.j0 k a0 a1 a2 t199 (t199 != a1)) else (sandglasslaw01_SatClamp.j0 k a0 a1 a2 t199 false))) else (if a1 > a2 then (sandglasslaw01_SatClamp.j0 k a0 a1 a2 t199 (t199 != a1)) else (sandglasslaw01_SatClamp.j0 k a0 a1 a2 t199 false)))) else (if a1 ≤ a0 then (if a0 ≤ a2 then (if t199 = a0 then (if a1 > a2 then (sandglasslaw01_SatClamp.j0 k a0 a1 a2 t199 (t199 != a1)) else (sandglasslaw01_SatClamp.j0 k a0 a1 a2 t199 false)) else (sandglasslaw01_SatClamp.j0 k a0 a1 a2 t199 true)) else (if a1 > a2 then (sandglasslaw01_SatClamp.j0 k a0 a1 a2 t199 (t199 != a1)) else (sandglasslaw01_SatClamp.j0 k a0 a1 a2 t199 false))) else (if a1 > a2 then (sandglasslaw01_SatClamp.j0 k a0 a1 a2 t199 (t199 != a1)) else (sandglasslaw01_SatClamp.j0 k a0 a1 a2 t199 false)))))) = some r := h
  clear h
  replace H := Option.bind_eq_some_iff.mp H
  obtain ⟨t199, A40, H⟩ := H
  replace H : (if t199 < a1 then (sandglasslaw01_SatClamp.j0 k a0 a1 a2 t199 true) else (if a1 ≤ a2 then (if t199 > a2 then (sandglasslaw01_SatClamp.j0 k a0 a1 a2 t199 true) else (if a1 ≤ a0 then (if a0 ≤ a2 then (if t199 = a0 then (if a1 > a2 then (sandglasslaw01_SatClamp.j0 k a0 a1 a2 t199 (t199 != a1)) else (sandglasslaw01_SatClamp.j0 k a0 a1 a2 t199 false)) else (sandglasslaw01_SatClamp.j0 k a0 a1 a2 t199 true)) else (if a1 > a2 then (sandglasslaw01_SatClamp.j0 k a0 a1 a2 t199 (t199 != a1)) else (sandglasslaw01_SatClamp.j0 k a0 a1 a2 t199 false))) else (if a1 > a2 then (sandglasslaw01_SatClamp.j0 k a0 a1 a2 t199 (t199 != a1)) else (sandglasslaw01_SatClamp.j0 k a0 a1 a2 t199 false)))) else (if a1 ≤ a0 then (if a0 ≤ a2 then (if t199 = a0 then (if a1 > a2 then (sandglasslaw01_SatClamp.j0 k a0 a1 a2 t199 (t199 != a1)) else (sandglasslaw01_SatClamp.j0 k a0 a1 a2 t199 false)) else (sandglasslaw01_SatClamp.j0 k a0 a1 a2 t199 true)) else (if a1 > a2 then (sandglasslaw01_SatClamp.j0 k a0 a1 a2 t199 (t199 != a1)) else (sandglasslaw01_SatClamp.j0 k a0 a1 a2 t199 false))) else (if a1 > a2 then (sandglasslaw01_SatClamp.j0 k a0 a1 a2 t199 (t199 != a1)) else (sandglasslaw01_SatClamp.j0 k a0 a1 a2 t199 false))))) = some r := H
  have A4 := Aside0.mk A40
  clear A40
  have HC5 := Aside0.mk H
  clear H
  go_enter Try.func8, Try.ntmps8
  go_upto_region 2 with (first | ((with_reducible refine gate_callee (f := 19) rfl ?_); refine goesL_ (some 11) rfl rfl Try.func19 (by kernel_rfl) rfl #[.int .u64 a0, .int .u64 a1, .int .u64 a2] rfl (by (try simp only [List.map_toArray, List.map_cons, List.map_nil]); first | done | rfl | (simp only [List.length_drop, List.length_take]; rfl)) ?_; (with_reducible refine (sat_Clamp.calls a0 a1 a2 t199 _ A4.out).mono ?_); rintro e w' ⟨rfl, ⟨nd, rfl⟩⟩; refine ⟨_, rfl, ?_⟩))
  (try simp only [Act.put, List.setIfInBounds_toArray, List.set_cons_zero, List.set_cons_succ])
  go_cut [49] (fun v49 wc => ∃ (kq : Nat) (x49_4 : Bool), v49 = .bool x49_4 ∧ Aside0 (sandglasslaw01_SatClamp.j0 kq a0 a1 a2 t199 x49_4 = some r) ∧ Aside0 (kq ≤ k) ∧ Drawn0 w wc)
  case first =>
    have H := HC5.out
    clear HC5
    by_cases c6 : t199 < a1
    · rw [if_pos c6] at H
      have c6b0 : decide (t199 < a1) = true := decide_eq_true c6
      clear c6
      (first | rw [c6b0] | (simp only [i64_w, i32_w]; rw [c6b0]) | skip)
      have H' := Aside0.mk H
      clear H
      go_wp2
      go_meet
      case rel => exact ⟨_, (true), (by first | rfl | (simp; done) | (simp [*]; done)), H', ⟨by first | omega | exact Nat.le_refl _⟩, by repeat (first | exact Drawn0.refl _ | apply Drawn0.step)⟩
    · rw [if_neg c6] at H
      have c6b0 : decide (t199 < a1) = false := decide_eq_false c6
      clear c6
      (first | rw [c6b0] | (simp only [i64_w, i32_w]; rw [c6b0]) | skip)
      by_cases c7 : a1 ≤ a2
      · rw [if_pos c7] at H
        have c7b0 : decide (a1 ≤ a2) = true := decide_eq_true c7
        clear c7
        by_cases c8 : t199 > a2
        · rw [if_pos c8] at H
          have c8b0 : decide (a2 < t199) = true := decide_eq_true c8
          clear c8
          have H' := Aside0.mk H
          clear H
          go_wp2
          go_meet
          case rel => exact ⟨_, (true), (by first | rfl | (simp; done) | (simp [*]; done)), H', ⟨by first | omega | exact Nat.le_refl _⟩, by repeat (first | exact Drawn0.refl _ | apply Drawn0.step)⟩
        · rw [if_neg c8] at H
          have c8b0 : decide (a2 < t199) = false := decide_eq_false c8
          clear c8
          by_cases c9 : a1 ≤ a0
          · rw [if_pos c9] at H
            have c9b0 : decide (a1 ≤ a0) = true := decide_eq_true c9
            clear c9
            by_cases c10 : a0 ≤ a2
            · rw [if_pos c10] at H
              have c10b0 : decide (a0 ≤ a2) = true := decide_eq_true c10
              clear c10
              by_cases c11 : t199 = a0
              · rw [if_pos c11] at H
                have c11b0 : (t199 == a0) = true := beq_iff_eq.mpr c11
                have c11b1 : (t199 != a0) = false := bne_eq_false_iff_eq.mpr c11
                clear c11
                by_cases c12 : a1 > a2
                · rw [if_pos c12] at H
                  have c12b0 : decide (a2 < a1) = true := decide_eq_true c12
                  clear c12
                  have H' := Aside0.mk H
                  clear H
                  go_wp2
                  go_meet
                  case rel => exact ⟨_, ((t199 != a1)), (by first | rfl | (simp; done) | (simp [*]; done)), H', ⟨by first | omega | exact Nat.le_refl _⟩, by repeat (first | exact Drawn0.refl _ | apply Drawn0.step)⟩
                · rw [if_neg c12] at H
                  have c12b0 : decide (a2 < a1) = false := decide_eq_false c12
                  clear c12
                  have H' := Aside0.mk H
                  clear H
                  go_wp2
                  go_meet
                  case rel => exact ⟨_, (false), (by first | rfl | (simp; done) | (simp [*]; done)), H', ⟨by first | omega | exact Nat.le_refl _⟩, by repeat (first | exact Drawn0.refl _ | apply Drawn0.step)⟩
              · rw [if_neg c11] at H
                have c11b0 : (t199 == a0) = false := beq_eq_false_iff_ne.mpr c11
                have c11b1 : (t199 != a0) = true := bne_iff_ne.mpr c11
                have H' := Aside0.mk H
                clear H
                go_wp2
                go_meet
                case rel => exact ⟨_, (true), (by first | rfl | (simp; done) | (simp [*]; done)), H', ⟨by first | omega | exact Nat.le_refl _⟩, by repeat (first | exact Drawn0.refl _ | apply Drawn0.step)⟩
            · rw [if_neg c10] at H
              have c10b0 : decide (a0 ≤ a2) = false := decide_eq_false c10
              clear c10
              by_cases c13 : a1 > a2
              · rw [if_pos c13] at H
                have c13b0 : decide (a2 < a1) = true := decide_eq_true c13
                clear c13
                have H' := Aside0.mk H
                clear H
                go_wp2
                go_meet
                case rel => exact ⟨_, ((t199 != a1)), (by first | rfl | (simp; done) | (simp [*]; done)), H', ⟨by first | omega | exact Nat.le_refl _⟩, by repeat (first | exact Drawn0.refl _ | apply Drawn0.step)⟩
              · rw [if_neg c13] at H
                have c13b0 : decide (a2 < a1) = false := decide_eq_false c13
                clear c13
                have H' := Aside0.mk H
                clear H
                go_wp2
                go_meet
                case rel => exact ⟨_, (false), (by first | rfl | (simp; done) | (simp [*]; done)), H', ⟨by first | omega | exact Nat.le_refl _⟩, by repeat (first | exact Drawn0.refl _ | apply Drawn0.step)⟩
          · rw [if_neg c9] at H
            have c9b0 : decide (a1 ≤ a0) = false := decide_eq_false c9
            clear c9
            by_cases c14 : a1 > a2
            · rw [if_pos c14] at H
              have c14b0 : decide (a2 < a1) = true := decide_eq_true c14
              clear c14
              have H' := Aside0.mk H
              clear H
              go_wp2
              go_meet
              case rel => exact ⟨_, ((t199 != a1)), (by first | rfl | (simp; done) | (simp [*]; done)), H', ⟨by first | omega | exact Nat.le_refl _⟩, by repeat (first | exact Drawn0.refl _ | apply Drawn0.step)⟩
            · rw [if_neg c14] at H
              have c14b0 : decide (a2 < a1) = false := decide_eq_false c14
              clear c14
              have H' := Aside0.mk H
              clear H
              go_wp2
              go_meet
              case rel => exact ⟨_, (false), (by first | rfl | (simp; done) | (simp [*]; done)), H', ⟨by first | omega | exact Nat.le_refl _⟩, by repeat (first | exact Drawn0.refl _ | apply Drawn0.step)⟩
      · rw [if_neg c7] at H
        have c7b0 : decide (a1 ≤ a2) = false := decide_eq_false c7
        clear c7
        by_cases c15 : a1 ≤ a0
        · rw [if_pos c15] at H
          have c15b0 : decide (a1 ≤ a0) = true := decide_eq_true c15
          clear c15
          by_cases c16 : a0 ≤ a2
          · rw [if_pos c16] at H
            have c16b0 : decide (a0 ≤ a2) = true := decide_eq_true c16
            clear c16
            by_cases c17 : t199 = a0
            · rw [if_pos c17] at H
              have c17b0 : (t199 == a0) = true := beq_iff_eq.mpr c17
              have c17b1 : (t199 != a0) = false := bne_eq_false_iff_eq.mpr c17
              clear c17
              by_cases c18 : a1 > a2
              · rw [if_pos c18] at H
                have c18b0 : decide (a2 < a1) = true := decide_eq_true c18
                clear c18
                have H' := Aside0.mk H
                clear H
                go_wp2
                go_meet
                case rel => exact ⟨_, ((t199 != a1)), (by first | rfl | (simp; done) | (simp [*]; done)), H', ⟨by first | omega | exact Nat.le_refl _⟩, by repeat (first | exact Drawn0.refl _ | apply Drawn0.step)⟩
              · rw [if_neg c18] at H
                have c18b0 : decide (a2 < a1) = false := decide_eq_false c18
                clear c18
                have H' := Aside0.mk H
                clear H
                go_wp2
                go_meet
                case rel => exact ⟨_, (false), (by first | rfl | (simp; done) | (simp [*]; done)), H', ⟨by first | omega | exact Nat.le_refl _⟩, by repeat (first | exact Drawn0.refl _ | apply Drawn0.step)⟩
            · rw [if_neg c17] at H
              have c17b0 : (t199 == a0) = false := beq_eq_false_iff_ne.mpr c17
              have c17b1 : (t199 != a0) = true := bne_iff_ne.mpr c17
              have H' := Aside0.mk H
              clear H
              go_wp2
              go_meet
              case rel => exact ⟨_, (true), (by first | rfl | (simp; done) | (simp [*]; done)), H', ⟨by first | omega | exact Nat.le_refl _⟩, by repeat (first | exact Drawn0.refl _ | apply Drawn0.step)⟩
          · rw [if_neg c16] at H
            have c16b0 : decide (a0 ≤ a2) = false := decide_eq_false c16
            clear c16
            by_cases c19 : a1 > a2
            · rw [if_pos c19] at H
              have c19b0 : decide (a2 < a1) = true := decide_eq_true c19
              clear c19
              have H' := Aside0.mk H
              clear H
              go_wp2
              go_meet
              case rel => exact ⟨_, ((t199 != a1)), (by first | rfl | (simp; done) | (simp [*]; done)), H', ⟨by first | omega | exact Nat.le_refl _⟩, by repeat (first | exact Drawn0.refl _ | apply Drawn0.step)⟩
            · rw [if_neg c19] at H
              have c19b0 : decide (a2 < a1) = false := decide_eq_false c19
              clear c19
              have H' := Aside0.mk H
              clear H
              go_wp2
              go_meet
              case rel => exact ⟨_, (false), (by first | rfl | (simp; done) | (simp [*]; done)), H', ⟨by first | omega | exact Nat.le_refl _⟩, by repeat (first | exact Drawn0.refl _ | apply Drawn0.step)⟩
        · rw [if_neg c15] at H
          have c15b0 : decide (a1 ≤ a0) = false := decide_eq_false c15
          clear c15
          by_cases c20 : a1 > a2
          · rw [if_pos c20] at H
            have c20b0 : decide (a2 < a1) = true := decide_eq_true c20
            clear c20
            have H' := Aside0.mk H
            clear H
            go_wp2
            go_meet
            case rel => exact ⟨_, ((t199 != a1)), (by first | rfl | (simp; done) | (simp [*]; done)), H', ⟨by first | omega | exact Nat.le_refl _⟩, by repeat (first | exact Drawn0.refl _ | apply Drawn0.step)⟩
          · rw [if_neg c20] at H
            have c20b0 : decide (a2 < a1) = false := decide_eq_false c20
            clear c20
            have H' := Aside0.mk H
            clear H
            go_wp2
            go_meet
            case rel => exact ⟨_, (false), (by first | rfl | (simp; done) | (simp [*]; done)), H', ⟨by first | omega | exact Nat.le_refl _⟩, by repeat (first | exact Drawn0.refl _ | apply Drawn0.step)⟩
  case rest =>
    clear HC5
    try clear c1
    try clear c2
    try clear p2
    try clear c6
    try clear c6b0
    try clear c7
    try clear c7b0
    try clear c8
    try clear c8b0
    try clear c9
    try clear c9b0
    try clear c10
    try clear c10b0
    try clear c11
    try clear c11b0
    try clear c11b1
    try clear c12
    try clear c12b0
    try clear c13
    try clear c13b0
    try clear c14
    try clear c14b0
    try clear c15
    try clear c15b0
    try clear c16
    try clear c16b0
    try clear c17
    try clear c17b0
    try clear c17b1
    try clear c18
    try clear c18b0
    try clear c19
    try clear c19b0
    try clear c20
    try clear c20b0
    obtain ⟨kq, x49_4, rfl, HA, HJ4, ⟨mc4, rfl⟩⟩ := hcut
    cases kq with
    | zero => exact absurd HA.out (by simp [sandglasslaw01_SatClamp.j0])
    | succ kj4 =>
      have H := HA.out
      clear HA
      simp only [sandglasslaw01_SatClamp.j0] at H
      by_cases c21 : x49_4 = true
      · subst c21
        have H1 : (some false) = some r := by rw [if_pos rfl] at H; exact H
        clear H
        have H := H1
        clear H1
        obtain rfl := Option.some.inj H
        go_wp2
        go_ret
        exact ⟨by first | rfl | (simp; done) | (simp [*]; done), by repeat (first | exact Drawn0.refl _ | apply Drawn0.step)⟩
      · replace c21 := Bool.eq_false_iff.mpr c21
        subst c21
        have H1 : ((sat_Clamp.f t199 a1 a2).bind fun t200 => (if t200 = t199 then (if t199 = a0 then ((sandglasslaw01_awake.f).bind fun t201 => (some t201)) else (if t199 = a1 then ((sandglasslaw01_awake.f).bind fun t202 => (some t202)) else (if t199 = a2 then ((sandglasslaw01_awake.f).bind fun t203 => (some t203)) else (some false)))) else (some false))) = some r := by rw [if_neg (show ¬ (false = true) by decide)] at H; exact H
        clear H
        have H := H1
        clear H1
        replace H := Option.bind_eq_some_iff.mp H
        obtain ⟨t200, A220, H⟩ := H
        replace H : (if t200 = t199 then (if t199 = a0 then ((sandglasslaw01_awake.f).bind fun t201 => (some t201)) else (if t199 = a1 then ((sandglasslaw01_awake.f).bind fun t202 => (some t202)) else (if t199 = a2 then ((sandglasslaw01_awake.f).bind fun t203 => (some t203)) else (some false)))) else (some false)) = some r := H
        have A22 := Aside0.mk A220
        clear A220
        by_cases c23 : t200 = t199
        · rw [if_pos c23] at H
          have c23b0 : (t200 == t199) = true := beq_iff_eq.mpr c23
          have c23b1 : (t200 != t199) = false := bne_eq_false_iff_eq.mpr c23
          clear c23
          by_cases c24 : t199 = a0
          · rw [if_pos c24] at H
            have c24b0 : (t199 == a0) = true := beq_iff_eq.mpr c24
            have c24b1 : (t199 != a0) = false := bne_eq_false_iff_eq.mpr c24
            clear c24
            replace H := Option.bind_eq_some_iff.mp H
            obtain ⟨t201, A250, H⟩ := H
            replace H : (some t201) = some r := H
            have A25 := Aside0.mk A250
            clear A250
            obtain rfl := Option.some.inj H
            go_wp2_with (first | ((with_reducible refine gate_callee (f := 19) rfl ?_); refine goesL_ (some 53) rfl rfl Try.func19 (by kernel_rfl) rfl #[.int .u64 t199, .int .u64 a1, .int .u64 a2] rfl (by (try simp only [List.map_toArray, List.map_cons, List.map_nil]); first | done | rfl | (simp only [List.length_drop, List.length_take]; rfl)) ?_; (with_reducible refine (sat_Clamp.calls t199 a1 a2 t200 _ A22.out).mono ?_); rintro e w' ⟨rfl, ⟨nd, rfl⟩⟩; refine ⟨_, rfl, ?_⟩) | (go_at_call 21; (with_reducible refine (sandglasslaw01_awake.calls  t201 _ A25.out).mono ?_); rintro e w' ⟨rfl, ⟨nd, rfl⟩⟩))
            go_ret
            exact ⟨by first | rfl | (simp; done) | (simp [*]; done), by repeat (first | exact Drawn0.refl _ | apply Drawn0.step)⟩
          · rw [if_neg c24] at H
            have c24b0 : (t199 == a0) = false := beq_eq_false_iff_ne.mpr c24
            have c24b1 : (t199 != a0) = true := bne_iff_ne.mpr c24
            by_cases c26 : t199 = a1
            · rw [if_pos c26] at H
              have c26b0 : (t199 == a1) = true := beq_iff_eq.mpr c26
              have c26b1 : (t199 != a1) = false := bne_eq_false_iff_eq.mpr c26
              clear c26
              replace H := Option.bind_eq_some_iff.mp H
              obtain ⟨t202, A270, H⟩ := H
              replace H : (some t202) = some r := H
              have A27 := Aside0.mk A270
              clear A270
              obtain rfl := Option.some.inj H
              go_wp2_with (first | ((with_reducible refine gate_callee (f := 19) rfl ?_); refine goesL_ (some 53) rfl rfl Try.func19 (by kernel_rfl) rfl #[.int .u64 t199, .int .u64 a1, .int .u64 a2] rfl (by (try simp only [List.map_toArray, List.map_cons, List.map_nil]); first | done | rfl | (simp only [List.length_drop, List.length_take]; rfl)) ?_; (with_reducible refine (sat_Clamp.calls t199 a1 a2 t200 _ A22.out).mono ?_); rintro e w' ⟨rfl, ⟨nd, rfl⟩⟩; refine ⟨_, rfl, ?_⟩) | (go_at_call 21; (with_reducible refine (sandglasslaw01_awake.calls  t202 _ A27.out).mono ?_); rintro e w' ⟨rfl, ⟨nd, rfl⟩⟩))
              go_ret
              exact ⟨by first | rfl | (simp; done) | (simp [*]; done), by repeat (first | exact Drawn0.refl _ | apply Drawn0.step)⟩
            · rw [if_neg c26] at H
              have c26b0 : (t199 == a1) = false := beq_eq_false_iff_ne.mpr c26
              have c26b1 : (t199 != a1) = true := bne_iff_ne.mpr c26
              by_cases c28 : t199 = a2
              · rw [if_pos c28] at H
                have c28b0 : (t199 == a2) = true := beq_iff_eq.mpr c28
                have c28b1 : (t199 != a2) = false := bne_eq_false_iff_eq.mpr c28
                clear c28
                replace H := Option.bind_eq_some_iff.mp H
                obtain ⟨t203, A290, H⟩ := H
                replace H : (some t203) = some r := H
                have A29 := Aside0.mk A290
                clear A290
                obtain rfl := Option.some.inj H
                go_wp2_with (first | ((with_reducible refine gate_callee (f := 19) rfl ?_); refine goesL_ (some 53) rfl rfl Try.func19 (by kernel_rfl) rfl #[.int .u64 t199, .int .u64 a1, .int .u64 a2] rfl (by (try simp only [List.map_toArray, List.map_cons, List.map_nil]); first | done | rfl | (simp only [List.length_drop, List.length_take]; rfl)) ?_; (with_reducible refine (sat_Clamp.calls t199 a1 a2 t200 _ A22.out).mono ?_); rintro e w' ⟨rfl, ⟨nd, rfl⟩⟩; refine ⟨_, rfl, ?_⟩) | (go_at_call 21; (with_reducible refine (sandglasslaw01_awake.calls  t203 _ A29.out).mono ?_); rintro e w' ⟨rfl, ⟨nd, rfl⟩⟩))
                go_ret
                exact ⟨by first | rfl | (simp; done) | (simp [*]; done), by repeat (first | exact Drawn0.refl _ | apply Drawn0.step)⟩
              · rw [if_neg c28] at H
                have c28b0 : (t199 == a2) = false := beq_eq_false_iff_ne.mpr c28
                have c28b1 : (t199 != a2) = true := bne_iff_ne.mpr c28
                obtain rfl := Option.some.inj H
                go_wp2_with (first | ((with_reducible refine gate_callee (f := 19) rfl ?_); refine goesL_ (some 53) rfl rfl Try.func19 (by kernel_rfl) rfl #[.int .u64 t199, .int .u64 a1, .int .u64 a2] rfl (by (try simp only [List.map_toArray, List.map_cons, List.map_nil]); first | done | rfl | (simp only [List.length_drop, List.length_take]; rfl)) ?_; (with_reducible refine (sat_Clamp.calls t199 a1 a2 t200 _ A22.out).mono ?_); rintro e w' ⟨rfl, ⟨nd, rfl⟩⟩; refine ⟨_, rfl, ?_⟩))
                go_ret
                exact ⟨by first | rfl | (simp; done) | (simp [*]; done), by repeat (first | exact Drawn0.refl _ | apply Drawn0.step)⟩
        · rw [if_neg c23] at H
          have c23b0 : (t200 == t199) = false := beq_eq_false_iff_ne.mpr c23
          have c23b1 : (t200 != t199) = true := bne_iff_ne.mpr c23
          obtain rfl := Option.some.inj H
          go_wp2_with (first | ((with_reducible refine gate_callee (f := 19) rfl ?_); refine goesL_ (some 53) rfl rfl Try.func19 (by kernel_rfl) rfl #[.int .u64 t199, .int .u64 a1, .int .u64 a2] rfl (by (try simp only [List.map_toArray, List.map_cons, List.map_nil]); first | done | rfl | (simp only [List.length_drop, List.length_take]; rfl)) ?_; (with_reducible refine (sat_Clamp.calls t199 a1 a2 t200 _ A22.out).mono ?_); rintro e w' ⟨rfl, ⟨nd, rfl⟩⟩; refine ⟨_, rfl, ?_⟩))
          go_ret
          exact ⟨by first | rfl | (simp; done) | (simp [*]; done), by repeat (first | exact Drawn0.refl _ | apply Drawn0.step)⟩

/-- THE ONE PURE STATEMENT of sandglasslaw01_SatClamp: yours. -/
def sandglasslaw01_SatClamp.Pure : Prop := ∀ (a0 : Int) (a1 : Int) (a2 : Int), (Lit.int .u64 a0).wf = true → (Lit.int .u64 a1).wf = true → (Lit.int .u64 a2).wf = true → ∃ k, sandglasslaw01_SatClamp.f k a0 a1 a2 = some true
theorem sandglasslaw01_SatClamp.walk (P : sandglasslaw01_SatClamp.Pure) (a0 : Int) (a1 : Int) (a2 : Int) (w : World) (w0 : (Lit.int .u64 a0).wf = true) (w1 : (Lit.int .u64 a1).wf = true) (w2 : (Lit.int .u64 a2).wf = true) :
    Calls Try.prog 8 #[.int .u64 a0, .int .u64 a1, .int .u64 a2] w fun e w' => e = .returned (.bool true) ∧ Below w.heap.size w w' := by
  obtain ⟨k, h⟩ := P a0 a1 a2 w0 w1 w2
  refine (sandglasslaw01_SatClamp.calls k a0 a1 a2 true w h).mono ?_
  rintro e w' ⟨rfl, hd⟩
  exact ⟨rfl, hd.below⟩

end Go.Proofs.Ytihnjbpjikekpaa.PSat
