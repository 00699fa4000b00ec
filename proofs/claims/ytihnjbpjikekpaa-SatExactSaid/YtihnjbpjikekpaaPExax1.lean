/- One text of a proof that a law answers true for every input. No condition. Printed by p2.py (wip/tools of this repo), which drives the print of the kit; Lean checks it. -/
import Derived.Test.YtihnjbpjikekpaaPExax0
namespace Go.Proofs.Ytihnjbpjikekpaa.PExa
open Go.RowKit Go.Proofs.Ytihnjbpjikekpaa.Ext Go.Proofs.YtihnjbpjikekpaaW.PrintWords Go.Proofs.YtihnjbpjikekpaaW.PrintLast Go.Proofs.YtihnjbpjikekpaaW.PrintMore
attribute [local go_sem] max2_int min2_int max_two min_two max_three min_three max_four min_four   -- for this text's walks alone
set_option linter.unusedVariables false
set_option linter.unusedSimpArgs false

/-! ### sandglasslaw01_awake: function 21 -/
def sandglasslaw01_awake.f  : Option (Bool) := (sat_Add.f 18446744073709551615 1).bind fun t101 => (if t101 = 18446744073709551615 then ((sat_Sub.f 3 5).bind fun t102 => (if t102 = 0 then ((sat_Mul.f 4294967296 4294967296).bind fun t103 => (if t103 = 18446744073709551615 then ((sat_Down.f 10 10 3).bind fun t104 => (if t104 = 33 then ((sat_Up.f 10 10 3).bind fun t105 => (if t105 = 34 then ((sat_Down.f 18446744073709551615 18446744073709551615 18446744073709551615).bind fun t106 => (if t106 = 18446744073709551615 then ((sat_Down.f 1 1 0).bind fun t107 => (if t107 = 18446744073709551615 then ((sat_Down.f 0 5 7).bind fun t108 => (if t108 = 0 then ((sat_Clamp.f 5 7 3).bind fun t109 => (some (t109 == 7))) else (some false))) else (some false))) else (some false))) else (some false))) else (some false))) else (some false))) else (some false))) else (some false))
set_option maxHeartbeats 8000000 in
set_option maxRecDepth 100000 in
theorem sandglasslaw01_awake.calls  (r : Bool) (w : World) (h : sandglasslaw01_awake.f  = some r) :
    Calls Try.prog 21 #[] w fun e w' => e = .returned (.bool r) ∧ Drawn0 w w' := by
  have H : ((sat_Add.f 18446744073709551615 1).bind fun t101 => (if t101 = 18446744073709551615 then ((sat_Sub.f 3 5).bind fun t102 => (if t102 = 0 then ((sat_Mul.f 4294967296 4294967296).bind fun t103 => (if t103 = 18446744073709551615 then ((sat_Down.f 10 10 3).bind fun t104 => (if t104 = 33 then ((sat_Up.f 10 10 3).bind fun t105 => (if t105 = 34 then ((sat_Down.f 18446744073709551615 18446744073709551615 18446744073709551615).bind fun t106 => (if t106 = 18446744073709551615 then ((sat_Down.f 1 1 0).bind fun t107 => (if t107 = 18446744073709551615 then ((sat_Down.f 0 5 7).bind fun t108 => (if t108 = 0 then ((sat_Clamp.f 5 7 3).bind fun t109 => (some (t109 == 7))) else (some false))) else (some false))) else (some false))) else (some false))) else (some false))) else (some false))) else (some false))) else (some false))) = some r := h
  clear h
  replace H := Option.bind_eq_some_iff.mp H
  obtain ⟨t101, A10, H⟩ := H
  replace H : (if t101 = 18446744073709551615 then ((sat_Sub.f 3 5).bind fun t102 => (if t102 = 0 then ((sat_Mul.f 4294967296 4294967296).bind fun t103 => (if t103 = 18446744073709551615 then ((sat_Down.f 10 10 3).bind fun t104 => (if t104 = 33 then ((sat_Up.f 10 10 3).bind fun t105 => (if t105 = 34 then ((sat_Down.f 18446744073709551615 18446744073709551615 18446744073709551615).bind fun t106 => (if t106 = 18446744073709551615 then ((sat_Down.f 1 1 0).bind fun t107 => (if t107 = 18446744073709551615 then ((sat_Down.f 0 5 7).bind fun t108 => (if t108 = 0 then ((sat_Clamp.f 5 7 3).bind fun t109 => (some (t109 == 7))) else (some false))) else (some false))) else (some false))) else (some false))) else (some false))) else (some false))) else (some false))) else (some false)) = some r := H
  have A1 := Aside0.mk A10
  clear A10
  by_cases c2 : t101 = 18446744073709551615
  · rw [if_pos c2] at H
    have c2b0 : (t101 == 18446744073709551615) = true := beq_iff_eq.mpr c2
    have c2b1 : (t101 != 18446744073709551615) = false := bne_eq_false_iff_eq.mpr c2
    clear c2
    replace H := Option.bind_eq_some_iff.mp H
    obtain ⟨t102, A30, H⟩ := H
    replace H : (if t102 = 0 then ((sat_Mul.f 4294967296 4294967296).bind fun t103 => (if t103 = 18446744073709551615 then ((sat_Down.f 10 10 3).bind fun t104 => (if t104 = 33 then ((sat_Up.f 10 10 3).bind fun t105 => (if t105 = 34 then ((sat_Down.f 18446744073709551615 18446744073709551615 18446744073709551615).bind fun t106 => (if t106 = 18446744073709551615 then ((sat_Down.f 1 1 0).bind fun t107 => (if t107 = 18446744073709551615 then ((sat_Down.f 0 5 7).bind fun t108 => (if t108 = 0 then ((sat_Clamp.f 5 7 3).bind fun t109 => (some (t109 == 7))) else (some false))) else (some false))) else (some false))) else (some false))) else (some false))) else (some false))) else (some false)) = some r := H
    have A3 := Aside0.mk A30
    clear A30
    by_cases c4 : t102 = 0
    · rw [if_pos c4] at H
      have c4b0 : (t102 == 0) = true := beq_iff_eq.mpr c4
      have c4b1 : (t102 != 0) = false := bne_eq_false_iff_eq.mpr c4
      clear c4
      replace H := Option.bind_eq_some_iff.mp H
      obtain ⟨t103, A50, H⟩ := H
      replace H : (if t103 = 18446744073709551615 then ((sat_Down.f 10 10 3).bind fun t104 => (if t104 = 33 then ((sat_Up.f 10 10 3).bind fun t105 => (if t105 = 34 then ((sat_Down.f 18446744073709551615 18446744073709551615 18446744073709551615).bind fun t106 => (if t106 = 18446744073709551615 then ((sat_Down.f 1 1 0).bind fun t107 => (if t107 = 18446744073709551615 then ((sat_Down.f 0 5 7).bind fun t108 => (if t108 = 0 then ((sat_Clamp.f 5 7 3).bind fun t109 => (some (t109 == 7))) else (some false))) else (some false))) else (some false))) else (some false))) else (some false))) else (some false)) = some r := H
      have A5 := Aside0.mk A50
      clear A50
      by_cases c6 : t103 = 18446744073709551615
      · rw [if_pos c6] at H
        have c6b0 : (t103 == 18446744073709551615) = true := beq_iff_eq.mpr c6
        have c6b1 : (t103 != 18446744073709551615) = false := bne_eq_false_iff_eq.mpr c6
        clear c6
        replace H := Option.bind_eq_some_iff.mp H
        obtain ⟨t104, A70, H⟩ := H
        replace H : (if t104 = 33 then ((sat_Up.f 10 10 3).bind fun t105 => (if t105 = 34 then ((sat_Down.f 18446744073709551615 18446744073709551615 18446744073709551615).bind fun t106 => (if t106 = 18446744073709551615 then ((sat_Down.f 1 1 0).bind fun t107 => (if t107 = 18446744073709551615 then ((sat_Down.f 0 5 7).bind fun t108 => (if t108 = 0 then ((sat_Clamp.f 5 7 3).bind fun t109 => (some (t109 == 7))) else (some false))) else (some false))) else (some false))) else (some false))) else (some false)) = some r := H
        have A7 := Aside0.mk A70
        clear A70
        by_cases c8 : t104 = 33
        · rw [if_pos c8] at H
          have c8b0 : (t104 == 33) = true := beq_iff_eq.mpr c8
          have c8b1 : (t104 != 33) = false := bne_eq_false_iff_eq.mpr c8
          clear c8
          replace H := Option.bind_eq_some_iff.mp H
          obtain ⟨t105, A90, H⟩ := H
          replace H : (if t105 = 34 then ((sat_Down.f 18446744073709551615 18446744073709551615 18446744073709551615).bind fun t106 => (if t106 = 18446744073709551615 then ((sat_Down.f 1 1 0).bind fun t107 => (if t107 = 18446744073709551615 then ((sat_Down.f 0 5 7).bind fun t108 => (if t108 = 0 then ((sat_Clamp.f 5 7 3).bind fun t109 => (some (t109 == 7))) else (some false))) else (some false))) else (some false))) else (some false)) = some r := H
          have A9 := Aside0.mk A90
          clear A90
          by_cases c10 : t105 = 34
          · rw [if_pos c10] at H
            have c10b0 : (t105 == 34) = true := beq_iff_eq.mpr c10
            have c10b1 : (t105 != 34) = false := bne_eq_false_iff_eq.mpr c10
            clear c10
            replace H := Option.bind_eq_some_iff.mp H
            obtain ⟨t106, A110, H⟩ := H
            replace H : (if t106 = 18446744073709551615 then ((sat_Down.f 1 1 0).bind fun t107 => (if t107 = 18446744073709551615 then ((sat_Down.f 0 5 7).bind fun t108 => (if t108 = 0 then ((sat_Clamp.f 5 7 3).bind fun t109 => (some (t109 == 7))) else (some false))) else (some false))) else (some false)) = some r := H
            have A11 := Aside0.mk A110
            clear A110
            by_cases c12 : t106 = 18446744073709551615
            · rw [if_pos c12] at H
              have c12b0 : (t106 == 18446744073709551615) = true := beq_iff_eq.mpr c12
              have c12b1 : (t106 != 18446744073709551615) = false := bne_eq_false_iff_eq.mpr c12
              clear c12
              replace H := Option.bind_eq_some_iff.mp H
              obtain ⟨t107, A130, H⟩ := H
              replace H : (if t107 = 18446744073709551615 then ((sat_Down.f 0 5 7).bind fun t108 => (if t108 = 0 then ((sat_Clamp.f 5 7 3).bind fun t109 => (some (t109 == 7))) else (some false))) else (some false)) = some r := H
              have A13 := Aside0.mk A130
              clear A130
              by_cases c14 : t107 = 18446744073709551615
              · rw [if_pos c14] at H
                have c14b0 : (t107 == 18446744073709551615) = true := beq_iff_eq.mpr c14
                have c14b1 : (t107 != 18446744073709551615) = false := bne_eq_false_iff_eq.mpr c14
                clear c14
                replace H := Option.bind_eq_some_iff.mp H
                obtain ⟨t108, A150, H⟩ := H
                replace H : (if t108 = 0 then ((sat_Clamp.f 5 7 3).bind fun t109 => (some (t109 == 7))) else (some false)) = some r := H
                have A15 := Aside0.mk A150
                clear A150
                by_cases c16 : t108 = 0
                · rw [if_pos c16] at H
                  have c16b0 : (t108 == 0) = true := beq_iff_eq.mpr c16
                  have c16b1 : (t108 != 0) = false := bne_eq_false_iff_eq.mpr c16
                  clear c16
                  replace H := Option.bind_eq_some_iff.mp H
                  obtain ⟨t109, A170, H⟩ := H
                  replace H : (some (t109 == 7)) = some r := H
                  have A17 := Aside0.mk A170
                  clear A170
                  obtain rfl := Option.some.inj H
                  go_enter Try.func21, Try.ntmps21
                  go_wp2_with (first | ((with_reducible refine gate_callee (f := 9) rfl ?_); refine goesL_ (some 1) rfl rfl Try.func9 (by kernel_rfl) rfl #[.int .u64 18446744073709551615, .int .u64 1] rfl (by (try simp only [List.map_toArray, List.map_cons, List.map_nil]); first | done | rfl | (simp only [List.length_drop, List.length_take]; rfl)) ?_; (with_reducible refine (sat_Add.calls 18446744073709551615 1 t101 _ A1.out).mono ?_); rintro e w' ⟨rfl, ⟨nd, rfl⟩⟩; refine ⟨_, rfl, ?_⟩) | (go_at_call 11; (with_reducible refine (sat_Sub.calls 3 5 t102 _ A3.out).mono ?_); rintro e w' ⟨rfl, ⟨nd, rfl⟩⟩) | (go_at_call 13; (with_reducible refine (sat_Mul.calls 4294967296 4294967296 t103 _ A5.out).mono ?_); rintro e w' ⟨rfl, ⟨nd, rfl⟩⟩) | (go_at_call 15; (with_reducible refine (sat_Down.calls 10 10 3 t104 _ A7.out).mono ?_); rintro e w' ⟨rfl, ⟨nd, rfl⟩⟩) | (go_at_call 17; (with_reducible refine (sat_Up.calls 10 10 3 t105 _ A9.out).mono ?_); rintro e w' ⟨rfl, ⟨nd, rfl⟩⟩) | (go_at_call 15; (with_reducible refine (sat_Down.calls 18446744073709551615 18446744073709551615 18446744073709551615 t106 _ A11.out).mono ?_); rintro e w' ⟨rfl, ⟨nd, rfl⟩⟩) | (go_at_call 15; (with_reducible refine (sat_Down.calls 1 1 0 t107 _ A13.out).mono ?_); rintro e w' ⟨rfl, ⟨nd, rfl⟩⟩) | (go_at_call 15; (with_reducible refine (sat_Down.calls 0 5 7 t108 _ A15.out).mono ?_); rintro e w' ⟨rfl, ⟨nd, rfl⟩⟩) | (go_at_call 19; (with_reducible refine (sat_Clamp.calls 5 7 3 t109 _ A17.out).mono ?_); rintro e w' ⟨rfl, ⟨nd, rfl⟩⟩))
                  go_ret
                  exact ⟨by first | rfl | (simp; done) | (simp [*]; done), by repeat (first | exact Drawn0.refl _ | apply Drawn0.step)⟩
                · rw [if_neg c16] at H
                  have c16b0 : (t108 == 0) = false := beq_eq_false_iff_ne.mpr c16
                  have c16b1 : (t108 != 0) = true := bne_iff_ne.mpr c16
                  obtain rfl := Option.some.inj H
                  go_enter Try.func21, Try.ntmps21
                  go_wp2_with (first | ((with_reducible refine gate_callee (f := 9) rfl ?_); refine goesL_ (some 1) rfl rfl Try.func9 (by kernel_rfl) rfl #[.int .u64 18446744073709551615, .int .u64 1] rfl (by (try simp only [List.map_toArray, List.map_cons, List.map_nil]); first | done | rfl | (simp only [List.length_drop, List.length_take]; rfl)) ?_; (with_reducible refine (sat_Add.calls 18446744073709551615 1 t101 _ A1.out).mono ?_); rintro e w' ⟨rfl, ⟨nd, rfl⟩⟩; refine ⟨_, rfl, ?_⟩) | (go_at_call 11; (with_reducible refine (sat_Sub.calls 3 5 t102 _ A3.out).mono ?_); rintro e w' ⟨rfl, ⟨nd, rfl⟩⟩) | (go_at_call 13; (with_reducible refine (sat_Mul.calls 4294967296 4294967296 t103 _ A5.out).mono ?_); rintro e w' ⟨rfl, ⟨nd, rfl⟩⟩) | (go_at_call 15; (with_reducible refine (sat_Down.calls 10 10 3 t104 _ A7.out).mono ?_); rintro e w' ⟨rfl, ⟨nd, rfl⟩⟩) | (go_at_call 17; (with_reducible refine (sat_Up.calls 10 10 3 t105 _ A9.out).mono ?_); rintro e w' ⟨rfl, ⟨nd, rfl⟩⟩) | (go_at_call 15; (with_reducible refine (sat_Down.calls 18446744073709551615 18446744073709551615 18446744073709551615 t106 _ A11.out).mono ?_); rintro e w' ⟨rfl, ⟨nd, rfl⟩⟩) | (go_at_call 15; (with_reducible refine (sat_Down.calls 1 1 0 t107 _ A13.out).mono ?_); rintro e w' ⟨rfl, ⟨nd, rfl⟩⟩) | (go_at_call 15; (with_reducible refine (sat_Down.calls 0 5 7 t108 _ A15.out).mono ?_); rintro e w' ⟨rfl, ⟨nd, rfl⟩⟩))
                  go_ret
                  exact ⟨by first | rfl | (simp; done) | (simp [*]; done), by repeat (first | exact Drawn0.refl _ | apply Drawn0.step)⟩
              · rw [if_neg c14] at H
                have c14b0 : (t107 == 18446744073709551615) = false := beq_eq_false_iff_ne.mpr c14
                have c14b1 : (t107 != 18446744073709551615) = true := bne_iff_ne.mpr c14
                obtain rfl := Option.some.inj H
                go_enter Try.func21, Try.ntmps21
                go_wp2_with (first | ((with_reducible refine gate_callee (f := 9) rfl ?_); refine goesL_ (some 1) rfl rfl Try.func9 (by kernel_rfl) rfl #[.int .u64 18446744073709551615, .int .u64 1] rfl (by (try simp only [List.map_toArray, List.map_cons, List.map_nil]); first | done | rfl | (simp only [List.length_drop, List.length_take]; rfl)) ?_; (with_reducible refine (sat_Add.calls 18446744073709551615 1 t101 _ A1.out).mono ?_); rintro e w' ⟨rfl, ⟨nd, rfl⟩⟩; refine ⟨_, rfl, ?_⟩) | (go_at_call 11; (with_reducible refine (sat_Sub.calls 3 5 t102 _ A3.out).mono ?_); rintro e w' ⟨rfl, ⟨nd, rfl⟩⟩) | (go_at_call 13; (with_reducible refine (sat_Mul.calls 4294967296 4294967296 t103 _ A5.out).mono ?_); rintro e w' ⟨rfl, ⟨nd, rfl⟩⟩) | (go_at_call 15; (with_reducible refine (sat_Down.calls 10 10 3 t104 _ A7.out).mono ?_); rintro e w' ⟨rfl, ⟨nd, rfl⟩⟩) | (go_at_call 17; (with_reducible refine (sat_Up.calls 10 10 3 t105 _ A9.out).mono ?_); rintro e w' ⟨rfl, ⟨nd, rfl⟩⟩) | (go_at_call 15; (with_reducible refine (sat_Down.calls 18446744073709551615 18446744073709551615 18446744073709551615 t106 _ A11.out).mono ?_); rintro e w' ⟨rfl, ⟨nd, rfl⟩⟩) | (go_at_call 15; (with_reducible refine (sat_Down.calls 1 1 0 t107 _ A13.out).mono ?_); rintro e w' ⟨rfl, ⟨nd, rfl⟩⟩))
                go_ret
                exact ⟨by first | rfl | (simp; done) | (simp [*]; done), by repeat (first | exact Drawn0.refl _ | apply Drawn0.step)⟩
            · rw [if_neg c12] at H
              have c12b0 : (t106 == 18446744073709551615) = false := beq_eq_false_iff_ne.mpr c12
              have c12b1 : (t106 != 18446744073709551615) = true := bne_iff_ne.mpr c12
              obtain rfl := Option.some.inj H
              go_enter Try.func21, Try.ntmps21
              go_wp2_with (first | ((with_reducible refine gate_callee (f := 9) rfl ?_); refine goesL_ (some 1) rfl rfl Try.func9 (by kernel_rfl) rfl #[.int .u64 18446744073709551615, .int .u64 1] rfl (by (try simp only [List.map_toArray, List.map_cons, List.map_nil]); first | done | rfl | (simp only [List.length_drop, List.length_take]; rfl)) ?_; (with_reducible refine (sat_Add.calls 18446744073709551615 1 t101 _ A1.out).mono ?_); rintro e w' ⟨rfl, ⟨nd, rfl⟩⟩; refine ⟨_, rfl, ?_⟩) | (go_at_call 11; (with_reducible refine (sat_Sub.calls 3 5 t102 _ A3.out).mono ?_); rintro e w' ⟨rfl, ⟨nd, rfl⟩⟩) | (go_at_call 13; (with_reducible refine (sat_Mul.calls 4294967296 4294967296 t103 _ A5.out).mono ?_); rintro e w' ⟨rfl, ⟨nd, rfl⟩⟩) | (go_at_call 15; (with_reducible refine (sat_Down.calls 10 10 3 t104 _ A7.out).mono ?_); rintro e w' ⟨rfl, ⟨nd, rfl⟩⟩) | (go_at_call 17; (with_reducible refine (sat_Up.calls 10 10 3 t105 _ A9.out).mono ?_); rintro e w' ⟨rfl, ⟨nd, rfl⟩⟩) | (go_at_call 15; (with_reducible refine (sat_Down.calls 18446744073709551615 18446744073709551615 18446744073709551615 t106 _ A11.out).mono ?_); rintro e w' ⟨rfl, ⟨nd, rfl⟩⟩))
              go_ret
              exact ⟨by first | rfl | (simp; done) | (simp [*]; done), by repeat (first | exact Drawn0.refl _ | apply Drawn0.step)⟩
          · rw [if_neg c10] at H
            have c10b0 : (t105 == 34) = false := beq_eq_false_iff_ne.mpr c10
            have c10b1 : (t105 != 34) = true := bne_iff_ne.mpr c10
            obtain rfl := Option.some.inj H
            go_enter Try.func21, Try.ntmps21
            go_wp2_with (first | ((with_reducible refine gate_callee (f := 9) rfl ?_); refine goesL_ (some 1) rfl rfl Try.func9 (by kernel_rfl) rfl #[.int .u64 18446744073709551615, .int .u64 1] rfl (by (try simp only [List.map_toArray, List.map_cons, List.map_nil]); first | done | rfl | (simp only [List.length_drop, List.length_take]; rfl)) ?_; (with_reducible refine (sat_Add.calls 18446744073709551615 1 t101 _ A1.out).mono ?_); rintro e w' ⟨rfl, ⟨nd, rfl⟩⟩; refine ⟨_, rfl, ?_⟩) | (go_at_call 11; (with_reducible refine (sat_Sub.calls 3 5 t102 _ A3.out).mono ?_); rintro e w' ⟨rfl, ⟨nd, rfl⟩⟩) | (go_at_call 13; (with_reducible refine (sat_Mul.calls 4294967296 4294967296 t103 _ A5.out).mono ?_); rintro e w' ⟨rfl, ⟨nd, rfl⟩⟩) | (go_at_call 15; (with_reducible refine (sat_Down.calls 10 10 3 t104 _ A7.out).mono ?_); rintro e w' ⟨rfl, ⟨nd, rfl⟩⟩) | (go_at_call 17; (with_reducible refine (sat_Up.calls 10 10 3 t105 _ A9.out).mono ?_); rintro e w' ⟨rfl, ⟨nd, rfl⟩⟩))
            go_ret
            exact ⟨by first | rfl | (simp; done) | (simp [*]; done), by repeat (first | exact Drawn0.refl _ | apply Drawn0.step)⟩
        · rw [if_neg c8] at H
          have c8b0 : (t104 == 33) = false := beq_eq_false_iff_ne.mpr c8
          have c8b1 : (t104 != 33) = true := bne_iff_ne.mpr c8
          obtain rfl := Option.some.inj H
          go_enter Try.func21, Try.ntmps21
          go_wp2_with (first | ((with_reducible refine gate_callee (f := 9) rfl ?_); refine goesL_ (some 1) rfl rfl Try.func9 (by kernel_rfl) rfl #[.int .u64 18446744073709551615, .int .u64 1] rfl (by (try simp only [List.map_toArray, List.map_cons, List.map_nil]); first | done | rfl | (simp only [List.length_drop, List.length_take]; rfl)) ?_; (with_reducible refine (sat_Add.calls 18446744073709551615 1 t101 _ A1.out).mono ?_); rintro e w' ⟨rfl, ⟨nd, rfl⟩⟩; refine ⟨_, rfl, ?_⟩) | (go_at_call 11; (with_reducible refine (sat_Sub.calls 3 5 t102 _ A3.out).mono ?_); rintro e w' ⟨rfl, ⟨nd, rfl⟩⟩) | (go_at_call 13; (with_reducible refine (sat_Mul.calls 4294967296 4294967296 t103 _ A5.out).mono ?_); rintro e w' ⟨rfl, ⟨nd, rfl⟩⟩) | (go_at_call 15; (with_reducible refine (sat_Down.calls 10 10 3 t104 _ A7.out).mono ?_); rintro e w' ⟨rfl, ⟨nd, rfl⟩⟩))
          go_ret
          exact ⟨by first | rfl | (simp; done) | (simp [*]; done), by repeat (first | exact Drawn0.refl _ | apply Drawn0.step)⟩
      · rw [if_neg c6] at H
        have c6b0 : (t103 == 18446744073709551615) = false := beq_eq_false_iff_ne.mpr c6
        have c6b1 : (t103 != 18446744073709551615) = true := bne_iff_ne.mpr c6
        obtain rfl := Option.some.inj H
        go_enter Try.func21, Try.ntmps21
        go_wp2_with (first | ((with_reducible refine gate_callee (f := 9) rfl ?_); refine goesL_ (some 1) rfl rfl Try.func9 (by kernel_rfl) rfl #[.int .u64 18446744073709551615, .int .u64 1] rfl (by (try simp only [List.map_toArray, List.map_cons, List.map_nil]); first | done | rfl | (simp only [List.length_drop, List.length_take]; rfl)) ?_; (with_reducible refine (sat_Add.calls 18446744073709551615 1 t101 _ A1.out).mono ?_); rintro e w' ⟨rfl, ⟨nd, rfl⟩⟩; refine ⟨_, rfl, ?_⟩) | (go_at_call 11; (with_reducible refine (sat_Sub.calls 3 5 t102 _ A3.out).mono ?_); rintro e w' ⟨rfl, ⟨nd, rfl⟩⟩) | (go_at_call 13; (with_reducible refine (sat_Mul.calls 4294967296 4294967296 t103 _ A5.out).mono ?_); rintro e w' ⟨rfl, ⟨nd, rfl⟩⟩))
        go_ret
        exact ⟨by first | rfl | (simp; done) | (simp [*]; done), by repeat (first | exact Drawn0.refl _ | apply Drawn0.step)⟩
    · rw [if_neg c4] at H
      have c4b0 : (t102 == 0) = false := beq_eq_false_iff_ne.mpr c4
      have c4b1 : (t102 != 0) = true := bne_iff_ne.mpr c4
      obtain rfl := Option.some.inj H
      go_enter Try.func21, Try.ntmps21
      go_wp2_with (first | ((with_reducible refine gate_callee (f := 9) rfl ?_); refine goesL_ (some 1) rfl rfl Try.func9 (by kernel_rfl) rfl #[.int .u64 18446744073709551615, .int .u64 1] rfl (by (try simp only [List.map_toArray, List.map_cons, List.map_nil]); first | done | rfl | (simp only [List.length_drop, List.length_take]; rfl)) ?_; (with_reducible refine (sat_Add.calls 18446744073709551615 1 t101 _ A1.out).mono ?_); rintro e w' ⟨rfl, ⟨nd, rfl⟩⟩; refine ⟨_, rfl, ?_⟩) | (go_at_call 11; (with_reducible refine (sat_Sub.calls 3 5 t102 _ A3.out).mono ?_); rintro e w' ⟨rfl, ⟨nd, rfl⟩⟩))
      go_ret
      exact ⟨by first | rfl | (simp; done) | (simp [*]; done), by repeat (first | exact Drawn0.refl _ | apply Drawn0.step)⟩
  · rw [if_neg c2] at H
    have c2b0 : (t101 == 18446744073709551615) = false := beq_eq_false_iff_ne.mpr c2
    have c2b1 : (t101 != 18446744073709551615) = true := bne_iff_ne.mpr c2
    obtain rfl := Option.some.inj H
    go_enter Try.func21, Try.ntmps21
    go_wp2_with (first | ((with_reducible refine gate_callee (f := 9) rfl ?_); refine goesL_ (some 1) rfl rfl Try.func9 (by kernel_rfl) rfl #[.int .u64 18446744073709551615, .int .u64 1] rfl (by (try simp only [List.map_toArray, List.map_cons, List.map_nil]); first | done | rfl | (simp only [List.length_drop, List.length_take]; rfl)) ?_; (with_reducible refine (sat_Add.calls 18446744073709551615 1 t101 _ A1.out).mono ?_); rintro e w' ⟨rfl, ⟨nd, rfl⟩⟩; refine ⟨_, rfl, ?_⟩))
    go_ret
    exact ⟨by first | rfl | (simp; done) | (simp [*]; done), by repeat (first | exact Drawn0.refl _ | apply Drawn0.step)⟩

/-! ### sandglasslaw01_long: function 22 -/
def sandglasslaw01_long.f (a0 : Int) (a1 : Int) : Option (Int × Int) := some (IntKind.u64.wrap ((IntKind.u64.wrap ((IntKind.u64.wrap ((IntKind.u64.wrap (Int.tdiv a0 4294967296)) * (IntKind.u64.wrap (Int.tdiv a1 4294967296)))) + (IntKind.u64.wrap (Int.tdiv (IntKind.u64.wrap ((IntKind.u64.wrap ((IntKind.u64.wrap (Int.tdiv a0 4294967296)) * (Int.tmod a1 4294967296))) + (IntKind.u64.wrap (Int.tdiv (IntKind.u64.wrap ((Int.tmod a0 4294967296) * (Int.tmod a1 4294967296))) 4294967296)))) 4294967296)))) + (IntKind.u64.wrap (Int.tdiv (IntKind.u64.wrap ((IntKind.u64.wrap ((Int.tmod a0 4294967296) * (IntKind.u64.wrap (Int.tdiv a1 4294967296)))) + (Int.tmod (IntKind.u64.wrap ((IntKind.u64.wrap ((IntKind.u64.wrap (Int.tdiv a0 4294967296)) * (Int.tmod a1 4294967296))) + (IntKind.u64.wrap (Int.tdiv (IntKind.u64.wrap ((Int.tmod a0 4294967296) * (Int.tmod a1 4294967296))) 4294967296)))) 4294967296))) 4294967296))), IntKind.u64.wrap ((IntKind.u64.wrap ((IntKind.u64.wrap ((IntKind.u64.wrap ((Int.tmod a0 4294967296) * (IntKind.u64.wrap (Int.tdiv a1 4294967296)))) + (Int.tmod (IntKind.u64.wrap ((IntKind.u64.wrap ((IntKind.u64.wrap (Int.tdiv a0 4294967296)) * (Int.tmod a1 4294967296))) + (IntKind.u64.wrap (Int.tdiv (IntKind.u64.wrap ((Int.tmod a0 4294967296) * (Int.tmod a1 4294967296))) 4294967296)))) 4294967296))) * 4294967296)) + (Int.tmod (IntKind.u64.wrap ((Int.tmod a0 4294967296) * (Int.tmod a1 4294967296))) 4294967296)))
set_option maxHeartbeats 8000000 in
set_option maxRecDepth 100000 in
theorem sandglasslaw01_long.calls (a0 : Int) (a1 : Int) (r1 : Int) (r2 : Int) (w : World) (h : sandglasslaw01_long.f a0 a1 = some (r1, r2)) :
    Calls Try.prog 22 #[.int .u64 a0, .int .u64 a1] w fun e w' => e = .returned (.tuple #[.int .u64 r1, .int .u64 r2]) ∧ Drawn0 w w' := by
  have H : (some (IntKind.u64.wrap ((IntKind.u64.wrap ((IntKind.u64.wrap ((IntKind.u64.wrap (Int.tdiv a0 4294967296)) * (IntKind.u64.wrap (Int.tdiv a1 4294967296)))) + (IntKind.u64.wrap (Int.tdiv (IntKind.u64.wrap ((IntKind.u64.wrap ((IntKind.u64.wrap (Int.tdiv a0 4294967296)) * (Int.tmod a1 4294967296))) + (IntKind.u64.wrap (Int.tdiv (IntKind.u64.wrap ((Int.tmod a0 4294967296) * (Int.tmod a1 4294967296))) 4294967296)))) 4294967296)))) + (IntKind.u64.wrap (Int.tdiv (IntKind.u64.wrap ((IntKind.u64.wrap ((Int.tmod a0 4294967296) * (IntKind.u64.wrap (Int.tdiv a1 4294967296)))) + (Int.tmod (IntKind.u64.wrap ((IntKind.u64.wrap ((IntKind.u64.wrap (Int.tdiv a0 4294967296)) * (Int.tmod a1 4294967296))) + (IntKind.u64.wrap (Int.tdiv (IntKind.u64.wrap ((Int.tmod a0 4294967296) * (Int.tmod a1 4294967296))) 4294967296)))) 4294967296))) 4294967296))), IntKind.u64.wrap ((IntKind.u64.wrap ((IntKind.u64.wrap ((IntKind.u64.wrap ((Int.tmod a0 4294967296) * (IntKind.u64.wrap (Int.tdiv a1 4294967296)))) + (Int.tmod (IntKind.u64.wrap ((IntKind.u64.wrap ((IntKind.u64.wrap (Int.tdiv a0 4294967296)) * (Int.tmod a1 4294967296))) + (IntKind.u64.wrap (Int.tdiv (IntKind.u64.wrap ((Int.tmod a0 4294967296) * (Int.tmod a1 4294967296))) 4294967296)))) 4294967296))) * 4294967296)) + (Int.tmod (IntKind.u64.wrap ((Int.tmod a0 4294967296) * (Int.tmod a1 4294967296))) 4294967296)))) = some (r1, r2) := h
  clear h
  simp only [Option.some.injEq, Prod.mk.injEq] at H
  obtain ⟨rfl, rfl⟩ := H
  go_enter Try.func22, Try.ntmps22
  go_wp2
  go_ret2
  exact ⟨by first | rfl | (simp; done) | (simp [*]; done), by repeat (first | exact Drawn0.refl _ | apply Drawn0.step)⟩

/-! ### sandglasslaw01_more: function 23 -/
def sandglasslaw01_more.f (a0 : Int) (a1 : Int) (a2 : Int) : Option (Int × Int) := if (IntKind.u64.wrap (a1 + a2)) < a1 then (some (IntKind.u64.wrap (a0 + 1), IntKind.u64.wrap (a1 + a2))) else (some (a0, IntKind.u64.wrap (a1 + a2)))
set_option maxHeartbeats 8000000 in
set_option maxRecDepth 100000 in
theorem sandglasslaw01_more.calls (a0 : Int) (a1 : Int) (a2 : Int) (r1 : Int) (r2 : Int) (w : World) (h : sandglasslaw01_more.f a0 a1 a2 = some (r1, r2)) :
    Calls Try.prog 23 #[.int .u64 a0, .int .u64 a1, .int .u64 a2] w fun e w' => e = .returned (.tuple #[.int .u64 r1, .int .u64 r2]) ∧ Drawn0 w w' := by
  have H : (if (IntKind.u64.wrap (a1 + a2)) < a1 then (some (IntKind.u64.wrap (a0 + 1), IntKind.u64.wrap (a1 + a2))) else (some (a0, IntKind.u64.wrap (a1 + a2)))) = some (r1, r2) := h
  clear h
  by_cases c4 : (IntKind.u64.wrap (a1 + a2)) < a1
  · rw [if_pos c4] at H
    have c4b0 : decide ((IntKind.u64.wrap (a1 + a2)) < a1) = true := decide_eq_true c4
    clear c4
    simp only [Option.some.injEq, Prod.mk.injEq] at H
    obtain ⟨rfl, rfl⟩ := H
    go_enter Try.func23, Try.ntmps23
    go_wp2
    go_ret2
    exact ⟨by first | rfl | (simp; done) | (simp [*]; done), by repeat (first | exact Drawn0.refl _ | apply Drawn0.step)⟩
  · rw [if_neg c4] at H
    have c4b0 : decide ((IntKind.u64.wrap (a1 + a2)) < a1) = false := decide_eq_false c4
    clear c4
    simp only [Option.some.injEq, Prod.mk.injEq] at H
    obtain ⟨rfl, rfl⟩ := H
    go_enter Try.func23, Try.ntmps23
    go_wp2
    go_ret2
    exact ⟨by first | rfl | (simp; done) | (simp [*]; done), by repeat (first | exact Drawn0.refl _ | apply Drawn0.step)⟩

/-! ### sandglasslaw01_SatExact: function 4 -/
mutual
def sandglasslaw01_SatExact.j0 : Nat → Int → Int → Int → Int → Int → Int → Int → Bool → Option (Bool)
  | 0, _, _, _, _, _, _, _, _ => none
  | k + 1, x2, x7, x8, x9, x10, x11, x12, x59 => if x59 = true then (some false) else (if x7 = 18446744073709551615 then (if x8 = 18446744073709551615 then ((sandglasslaw01_awake.f).bind fun t117 => (some t117)) else (some false)) else ((sandglasslaw01_more.f x11 x12 (IntKind.u64.wrap (x10 - x12))).bind fun bt118 => (if bt118.1 = x9 then (if bt118.2 = x10 then (sandglasslaw01_SatExact.j1 k x7 x8 (IntKind.u64.wrap (x10 - x12)) (decide ((IntKind.u64.wrap (x10 - x12)) ≥ x2))) else (sandglasslaw01_SatExact.j1 k x7 x8 (IntKind.u64.wrap (x10 - x12)) true)) else (sandglasslaw01_SatExact.j1 k x7 x8 (IntKind.u64.wrap (x10 - x12)) true))))
def sandglasslaw01_SatExact.j1 : Nat → Int → Int → Int → Bool → Option (Bool)
  | 0, _, _, _, _ => none
  | k + 1, x7, x8, x13, x89 => if x89 = true then (some false) else (if x13 = 0 then (if x8 = x7 then ((sandglasslaw01_awake.f).bind fun t120 => (some t120)) else (some false)) else (if x8 = (IntKind.u64.wrap (x7 + 1)) then ((sandglasslaw01_awake.f).bind fun t121 => (some t121)) else (some false)))
end
def sandglasslaw01_SatExact.f (k : Nat) (a0 : Int) (a1 : Int) (a2 : Int) : Option (Bool) := (sat_Down.f a0 a1 a2).bind fun t110 => ((sat_Up.f a0 a1 a2).bind fun t111 => (if a2 = 0 then (if t110 = 18446744073709551615 then (if t111 = 18446744073709551615 then ((sandglasslaw01_awake.f).bind fun t112 => (some t112)) else (some false)) else (some false)) else ((sandglasslaw01_long.f a0 a1).bind fun bt113 => ((sandglasslaw01_long.f t110 a2).bind fun bt115 => (if bt115.1 > bt113.1 then (sandglasslaw01_SatExact.j0 k a2 t110 t111 bt113.1 bt113.2 bt115.1 bt115.2 true) else (if bt115.1 = bt113.1 then (sandglasslaw01_SatExact.j0 k a2 t110 t111 bt113.1 bt113.2 bt115.1 bt115.2 (decide (bt115.2 > bt113.2))) else (sandglasslaw01_SatExact.j0 k a2 t110 t111 bt113.1 bt113.2 bt115.1 bt115.2 false)))))))
theorem sandglasslaw01_SatExact.mono_l : ∀ k, (∀ y0 y1 y2 y3 y4 y5 y6 y7, LeO (sandglasslaw01_SatExact.j0 k y0 y1 y2 y3 y4 y5 y6 y7) (sandglasslaw01_SatExact.j0 (k + 1) y0 y1 y2 y3 y4 y5 y6 y7)) ∧ (∀ y0 y1 y2 y3, LeO (sandglasslaw01_SatExact.j1 k y0 y1 y2 y3) (sandglasslaw01_SatExact.j1 (k + 1) y0 y1 y2 y3))
  | 0 => ⟨fun _ _ _ _ _ _ _ _ r h => by simp [sandglasslaw01_SatExact.j0] at h, fun _ _ _ _ r h => by simp [sandglasslaw01_SatExact.j1] at h⟩
  | k + 1 => by
    obtain ⟨ih0, ih1⟩ := sandglasslaw01_SatExact.mono_l k
    refine ⟨?_, ?_⟩
    · intro y0 y1 y2 y3 y4 y5 y6 y7
      unfold sandglasslaw01_SatExact.j0
      repeat' first
      | (with_reducible exact ih0 _ _ _ _ _ _ _ _)
      | (with_reducible exact ih1 _ _ _ _)
      | (with_reducible exact LeO.refl _)
      | (with_reducible exact LeO.none _)
      | (with_reducible refine LeO.ite ?_ ?_)
      | (with_reducible refine LeO.bind ?_ (fun _ => ?_))
      | exact ih0 _ _ _ _ _ _ _ _
      | exact ih1 _ _ _ _
      | exact LeO.none _
      | refine LeO.ite ?_ ?_
      | refine LeO.bind ?_ (fun _ => ?_)
    · intro y0 y1 y2 y3
      unfold sandglasslaw01_SatExact.j1
      repeat' first
      | (with_reducible exact ih0 _ _ _ _ _ _ _ _)
      | (with_reducible exact ih1 _ _ _ _)
      | (with_reducible exact LeO.refl _)
      | (with_reducible exact LeO.none _)
      | (with_reducible refine LeO.ite ?_ ?_)
      | (with_reducible refine LeO.bind ?_ (fun _ => ?_))
      | exact ih0 _ _ _ _ _ _ _ _
      | exact ih1 _ _ _ _
      | exact LeO.none _
      | refine LeO.ite ?_ ?_
      | refine LeO.bind ?_ (fun _ => ?_)
theorem sandglasslaw01_SatExact.mono : ∀ a0 a1 a2 k, LeO (sandglasslaw01_SatExact.f k a0 a1 a2) (sandglasslaw01_SatExact.f (k + 1) a0 a1 a2) := by
  intro a0 a1 a2 k
  obtain ⟨ih0, ih1⟩ := sandglasslaw01_SatExact.mono_l k
  unfold sandglasslaw01_SatExact.f
  repeat' first
      | (with_reducible exact ih0 _ _ _ _ _ _ _ _)
      | (with_reducible exact ih1 _ _ _ _)
      | (with_reducible exact LeO.refl _)
      | (with_reducible exact LeO.none _)
      | (with_reducible refine LeO.ite ?_ ?_)
      | (with_reducible refine LeO.bind ?_ (fun _ => ?_))
      | exact ih0 _ _ _ _ _ _ _ _
      | exact ih1 _ _ _ _
      | exact LeO.none _
      | refine LeO.ite ?_ ?_
      | refine LeO.bind ?_ (fun _ => ?_)
set_option maxHeartbeats 8000000 in
set_option maxRecDepth 100000 in
theorem sandglasslaw01_SatExact.calls (k : Nat) (a0 : Int) (a1 : Int) (a2 : Int) (r : Bool) (w : World) (h : sandglasslaw01_SatExact.f k a0 a1 a2 = some r) :
    Calls Try.prog 4 #[.int .u64 a0, .int .u64 a1, .int .u64 a2] w fun e w' => e = .returned (.bool r) ∧ Drawn0 w w' := by
  have H : ((sat_Down.f a0 a1 a2).bind fun t110 => ((sat_Up.f a0 a1 a2).bind fun t111 => (if a2 = 0 then (if t110 = 18446744073709551615 then (if t111 = 18446744073709551615 then ((sandglasslaw01_awake.f).bind fun t112 => (some t112)) else (some false)) else (some false)) else ((sandglasslaw01_long.f a0 a1).bind fun bt113 => ((sandglasslaw01_long.f t110 a2).bind fun bt115 => (if bt115.1 > bt113.1 then (sandglasslaw01_SatExact.j0 k a2 t110 t111 bt113.1 bt113.2 bt115.1 bt115.2 true) else (if bt115.1 = bt113.1 then (sandglasslaw01_SatExact.j0 k a2 t110 t111 bt113.1 bt113.2 bt115.1 bt115.2 (decide (bt115.2 > bt113.2))) else (sandglasslaw01_SatExact.j0 k a2 t110 t111 bt113.1 bt113.2 bt115.1 bt115.2 false)))))))) = some r := h
  clear h
  replace H := Option.bind_eq_some_iff.mp H
  obtain ⟨t110, A40, H⟩ := H
  replace H : ((sat_Up.f a0 a1 a2).bind fun t111 => (if a2 = 0 then (if t110 = 18446744073709551615 then (if t111 = 18446744073709551615 then ((sandglasslaw01_awake.f).bind fun t112 => (some t112)) else (some false)) else (some false)) else ((sandglasslaw01_long.f a0 a1).bind fun bt113 => ((sandglasslaw01_long.f t110 a2).bind fun bt115 => (if bt115.1 > bt113.1 then (sandglasslaw01_SatExact.j0 k a2 t110 t111 bt113.1 bt113.2 bt115.1 bt115.2 true) else (if bt115.1 = bt113.1 then (sandglasslaw01_SatExact.j0 k a2 t110 t111 bt113.1 bt113.2 bt115.1 bt115.2 (decide (bt115.2 > bt113.2))) else (sandglasslaw01_SatExact.j0 k a2 t110 t111 bt113.1 bt113.2 bt115.1 bt115.2 false))))))) = some r := H
  have A4 := Aside0.mk A40
  clear A40
  replace H := Option.bind_eq_some_iff.mp H
  obtain ⟨t111, A50, H⟩ := H
  replace H : (if a2 = 0 then (if t110 = 18446744073709551615 then (if t111 = 18446744073709551615 then ((sandglasslaw01_awake.f).bind fun t112 => (some t112)) else (some false)) else (some false)) else ((sandglasslaw01_long.f a0 a1).bind fun bt113 => ((sandglasslaw01_long.f t110 a2).bind fun bt115 => (if bt115.1 > bt113.1 then (sandglasslaw01_SatExact.j0 k a2 t110 t111 bt113.1 bt113.2 bt115.1 bt115.2 true) else (if bt115.1 = bt113.1 then (sandglasslaw01_SatExact.j0 k a2 t110 t111 bt113.1 bt113.2 bt115.1 bt115.2 (decide (bt115.2 > bt113.2))) else (sandglasslaw01_SatExact.j0 k a2 t110 t111 bt113.1 bt113.2 bt115.1 bt115.2 false)))))) = some r := H
  have A5 := Aside0.mk A50
  clear A50
  by_cases c6 : a2 = 0
  · rw [if_pos c6] at H
    have c6b0 : (a2 == 0) = true := beq_iff_eq.mpr c6
    have c6b1 : (a2 != 0) = false := bne_eq_false_iff_eq.mpr c6
    clear c6
    by_cases c7 : t110 = 18446744073709551615
    · rw [if_pos c7] at H
      have c7b0 : (t110 == 18446744073709551615) = true := beq_iff_eq.mpr c7
      have c7b1 : (t110 != 18446744073709551615) = false := bne_eq_false_iff_eq.mpr c7
      clear c7
      by_cases c8 : t111 = 18446744073709551615
      · rw [if_pos c8] at H
        have c8b0 : (t111 == 18446744073709551615) = true := beq_iff_eq.mpr c8
        have c8b1 : (t111 != 18446744073709551615) = false := bne_eq_false_iff_eq.mpr c8
        clear c8
        replace H := Option.bind_eq_some_iff.mp H
        obtain ⟨t112, A90, H⟩ := H
        replace H : (some t112) = some r := H
        have A9 := Aside0.mk A90
        clear A90
        obtain rfl := Option.some.inj H
        go_enter Try.func4, Try.ntmps4
        go_wp2_with (first | ((with_reducible refine gate_callee (f := 15) rfl ?_); refine goesL_ (some 19) rfl rfl Try.func15 (by kernel_rfl) rfl #[.int .u64 a0, .int .u64 a1, .int .u64 a2] rfl (by (try simp only [List.map_toArray, List.map_cons, List.map_nil]); first | done | rfl | (simp only [List.length_drop, List.length_take]; rfl)) ?_; (with_reducible refine (sat_Down.calls a0 a1 a2 t110 _ A4.out).mono ?_); rintro e w' ⟨rfl, ⟨nd, rfl⟩⟩; refine ⟨_, rfl, ?_⟩) | ((with_reducible refine gate_callee (f := 17) rfl ?_); refine goesL_ (some 23) rfl rfl Try.func17 (by kernel_rfl) rfl #[.int .u64 a0, .int .u64 a1, .int .u64 a2] rfl (by (try simp only [List.map_toArray, List.map_cons, List.map_nil]); first | done | rfl | (simp only [List.length_drop, List.length_take]; rfl)) ?_; (with_reducible refine (sat_Up.calls a0 a1 a2 t111 _ A5.out).mono ?_); rintro e w' ⟨rfl, ⟨nd, rfl⟩⟩; refine ⟨_, rfl, ?_⟩) | (go_at_call 21; (with_reducible refine (sandglasslaw01_awake.calls  t112 _ A9.out).mono ?_); rintro e w' ⟨rfl, ⟨nd, rfl⟩⟩))
        go_ret
        exact ⟨by first | rfl | (simp; done) | (simp [*]; done), by repeat (first | exact Drawn0.refl _ | apply Drawn0.step)⟩
      · rw [if_neg c8] at H
        have c8b0 : (t111 == 18446744073709551615) = false := beq_eq_false_iff_ne.mpr c8
        have c8b1 : (t111 != 18446744073709551615) = true := bne_iff_ne.mpr c8
        obtain rfl := Option.some.inj H
        go_enter Try.func4, Try.ntmps4
        go_wp2_with (first | ((with_reducible refine gate_callee (f := 15) rfl ?_); refine goesL_ (some 19) rfl rfl Try.func15 (by kernel_rfl) rfl #[.int .u64 a0, .int .u64 a1, .int .u64 a2] rfl (by (try simp only [List.map_toArray, List.map_cons, List.map_nil]); first | done | rfl | (simp only [List.length_drop, List.length_take]; rfl)) ?_; (with_reducible refine (sat_Down.calls a0 a1 a2 t110 _ A4.out).mono ?_); rintro e w' ⟨rfl, ⟨nd, rfl⟩⟩; refine ⟨_, rfl, ?_⟩) | ((with_reducible refine gate_callee (f := 17) rfl ?_); refine goesL_ (some 23) rfl rfl Try.func17 (by kernel_rfl) rfl #[.int .u64 a0, .int .u64 a1, .int .u64 a2] rfl (by (try simp only [List.map_toArray, List.map_cons, List.map_nil]); first | done | rfl | (simp only [List.length_drop, List.length_take]; rfl)) ?_; (with_reducible refine (sat_Up.calls a0 a1 a2 t111 _ A5.out).mono ?_); rintro e w' ⟨rfl, ⟨nd, rfl⟩⟩; refine ⟨_, rfl, ?_⟩))
        go_ret
        exact ⟨by first | rfl | (simp; done) | (simp [*]; done), by repeat (first | exact Drawn0.refl _ | apply Drawn0.step)⟩
    · rw [if_neg c7] at H
      have c7b0 : (t110 == 18446744073709551615) = false := beq_eq_false_iff_ne.mpr c7
      have c7b1 : (t110 != 18446744073709551615) = true := bne_iff_ne.mpr c7
      obtain rfl := Option.some.inj H
      go_enter Try.func4, Try.ntmps4
      go_wp2_with (first | ((with_reducible refine gate_callee (f := 15) rfl ?_); refine goesL_ (some 19) rfl rfl Try.func15 (by kernel_rfl) rfl #[.int .u64 a0, .int .u64 a1, .int .u64 a2] rfl (by (try simp only [List.map_toArray, List.map_cons, List.map_nil]); first | done | rfl | (simp only [List.length_drop, List.length_take]; rfl)) ?_; (with_reducible refine (sat_Down.calls a0 a1 a2 t110 _ A4.out).mono ?_); rintro e w' ⟨rfl, ⟨nd, rfl⟩⟩; refine ⟨_, rfl, ?_⟩) | ((with_reducible refine gate_callee (f := 17) rfl ?_); refine goesL_ (some 23) rfl rfl Try.func17 (by kernel_rfl) rfl #[.int .u64 a0, .int .u64 a1, .int .u64 a2] rfl (by (try simp only [List.map_toArray, List.map_cons, List.map_nil]); first | done | rfl | (simp only [List.length_drop, List.length_take]; rfl)) ?_; (with_reducible refine (sat_Up.calls a0 a1 a2 t111 _ A5.out).mono ?_); rintro e w' ⟨rfl, ⟨nd, rfl⟩⟩; refine ⟨_, rfl, ?_⟩))
      go_ret
      exact ⟨by first | rfl | (simp; done) | (simp [*]; done), by repeat (first | exact Drawn0.refl _ | apply Drawn0.step)⟩
  · rw [if_neg c6] at H
    have c6b0 : (a2 == 0) = false := beq_eq_false_iff_ne.mpr c6
    have c6b1 : (a2 != 0) = true := bne_iff_ne.mpr c6
    replace H := Option.bind_eq_some_iff.mp H
    obtain ⟨⟨t113, t114⟩, A100, H⟩ := H
    replace H : ((sandglasslaw01_long.f t110 a2).bind fun bt115 => (if bt115.1 > t113 then (sandglasslaw01_SatExact.j0 k a2 t110 t111 t113 t114 bt115.1 bt115.2 true) else (if bt115.1 = t113 then (sandglasslaw01_SatExact.j0 k a2 t110 t111 t113 t114 bt115.1 bt115.2 (decide (bt115.2 > t114))) else (sandglasslaw01_SatExact.j0 k a2 t110 t111 t113 t114 bt115.1 bt115.2 false)))) = some r := H
    have A10 := Aside0.mk A100
    clear A100
    replace H := Option.bind_eq_some_iff.mp H
    obtain ⟨⟨t115, t116⟩, A110, H⟩ := H
    replace H : (if t115 > t113 then (sandglasslaw01_SatExact.j0 k a2 t110 t111 t113 t114 t115 t116 true) else (if t115 = t113 then (sandglasslaw01_SatExact.j0 k a2 t110 t111 t113 t114 t115 t116 (decide (t116 > t114))) else (sandglasslaw01_SatExact.j0 k a2 t110 t111 t113 t114 t115 t116 false))) = some r := H
    have A11 := Aside0.mk A110
    clear A110
    have HC12 := Aside0.mk H
    clear H
    go_enter Try.func4, Try.ntmps4
    go_upto_region 6 with (first | ((with_reducible refine gate_callee (f := 15) rfl ?_); refine goesL_ (some 19) rfl rfl Try.func15 (by kernel_rfl) rfl #[.int .u64 a0, .int .u64 a1, .int .u64 a2] rfl (by (try simp only [List.map_toArray, List.map_cons, List.map_nil]); first | done | rfl | (simp only [List.length_drop, List.length_take]; rfl)) ?_; (with_reducible refine (sat_Down.calls a0 a1 a2 t110 _ A4.out).mono ?_); rintro e w' ⟨rfl, ⟨nd, rfl⟩⟩; refine ⟨_, rfl, ?_⟩) | ((with_reducible refine gate_callee (f := 17) rfl ?_); refine goesL_ (some 23) rfl rfl Try.func17 (by kernel_rfl) rfl #[.int .u64 a0, .int .u64 a1, .int .u64 a2] rfl (by (try simp only [List.map_toArray, List.map_cons, List.map_nil]); first | done | rfl | (simp only [List.length_drop, List.length_take]; rfl)) ?_; (with_reducible refine (sat_Up.calls a0 a1 a2 t111 _ A5.out).mono ?_); rintro e w' ⟨rfl, ⟨nd, rfl⟩⟩; refine ⟨_, rfl, ?_⟩) | ((with_reducible refine gate_callee (f := 22) rfl ?_); refine goesL_ (some 38) rfl rfl Try.func22 (by kernel_rfl) rfl #[.int .u64 a0, .int .u64 a1] rfl (by (try simp only [List.map_toArray, List.map_cons, List.map_nil]); first | done | rfl | (simp only [List.length_drop, List.length_take]; rfl)) ?_; (with_reducible refine (sandglasslaw01_long.calls a0 a1 t113 t114 _ A10.out).mono ?_); rintro e w' ⟨rfl, ⟨nd, rfl⟩⟩; refine ⟨_, rfl, ?_⟩) | ((with_reducible refine gate_callee (f := 22) rfl ?_); refine goesL_ (some 44) rfl rfl Try.func22 (by kernel_rfl) rfl #[.int .u64 t110, .int .u64 a2] rfl (by (try simp only [List.map_toArray, List.map_cons, List.map_nil]); first | done | rfl | (simp only [List.length_drop, List.length_take]; rfl)) ?_; (with_reducible refine (sandglasslaw01_long.calls t110 a2 t115 t116 _ A11.out).mono ?_); rintro e w' ⟨rfl, ⟨nd, rfl⟩⟩; refine ⟨_, rfl, ?_⟩))
    (try simp only [Act.put, List.setIfInBounds_toArray, List.set_cons_zero, List.set_cons_succ])
    go_cut [59] (fun v59 wc => ∃ (kq : Nat) (x59_11 : Bool), v59 = .bool x59_11 ∧ Aside0 (sandglasslaw01_SatExact.j0 kq a2 t110 t111 t113 t114 t115 t116 x59_11 = some r) ∧ Aside0 (kq ≤ k) ∧ Drawn0 w wc)
    case first =>
      have H := HC12.out
      clear HC12
      by_cases c13 : t115 > t113
      · rw [if_pos c13] at H
        have c13b0 : decide (t113 < t115) = true := decide_eq_true c13
        clear c13
        (first | rw [c13b0] | (simp only [i64_w, i32_w]; rw [c13b0]) | skip)
        have H' := Aside0.mk H
        clear H
        go_wp2
        go_meet
        case rel => exact ⟨_, (true), (by first | rfl | (simp; done) | (simp [*]; done)), H', ⟨by first | omega | exact Nat.le_refl _⟩, by repeat (first | exact Drawn0.refl _ | apply Drawn0.step)⟩
      · rw [if_neg c13] at H
        have c13b0 : decide (t113 < t115) = false := decide_eq_false c13
        clear c13
        (first | rw [c13b0] | (simp only [i64_w, i32_w]; rw [c13b0]) | skip)
        by_cases c14 : t115 = t113
        · rw [if_pos c14] at H
          have c14b0 : (t115 == t113) = true := beq_iff_eq.mpr c14
          have c14b1 : (t115 != t113) = false := bne_eq_false_iff_eq.mpr c14
          clear c14
          have H' := Aside0.mk H
          clear H
          go_wp2
          go_meet
          case rel => exact ⟨_, (decide (t116 > t114)), (by first | rfl | (simp; done) | (simp [*]; done)), H', ⟨by first | omega | exact Nat.le_refl _⟩, by repeat (first | exact Drawn0.refl _ | apply Drawn0.step)⟩
        · rw [if_neg c14] at H
          have c14b0 : (t115 == t113) = false := beq_eq_false_iff_ne.mpr c14
          have c14b1 : (t115 != t113) = true := bne_iff_ne.mpr c14
          have H' := Aside0.mk H
          clear H
          go_wp2
          go_meet
          case rel => exact ⟨_, (false), (by first | rfl | (simp; done) | (simp [*]; done)), H', ⟨by first | omega | exact Nat.le_refl _⟩, by repeat (first | exact Drawn0.refl _ | apply Drawn0.step)⟩
    case rest =>
      clear HC12
      try clear c1
      try clear c2
      try clear p2
      try clear c4
      try clear c6
      try clear c6b0
      try clear c6b1
      try clear c7
      try clear c7b0
      try clear c7b1
      try clear c8
      try clear c8b0
      try clear c8b1
      try clear c13
      try clear c13b0
      try clear c14
      try clear c14b0
      try clear c14b1
      obtain ⟨kq, x59_11, rfl, HA, HJ11, ⟨mc11, rfl⟩⟩ := hcut
      cases kq with
      | zero => exact absurd HA.out (by simp [sandglasslaw01_SatExact.j0])
      | succ kj11 =>
        have H := HA.out
        clear HA
        simp only [sandglasslaw01_SatExact.j0] at H
        by_cases c15 : x59_11 = true
        · subst c15
          have H1 : (some false) = some r := by rw [if_pos rfl] at H; exact H
          clear H
          have H := H1
          clear H1
          obtain rfl := Option.some.inj H
          go_wp2
          go_ret
          exact ⟨by first | rfl | (simp; done) | (simp [*]; done), by repeat (first | exact Drawn0.refl _ | apply Drawn0.step)⟩
        · replace c15 := Bool.eq_false_iff.mpr c15
          subst c15
          have H1 : (if t110 = 18446744073709551615 then (if t111 = 18446744073709551615 then ((sandglasslaw01_awake.f).bind fun t117 => (some t117)) else (some false)) else ((sandglasslaw01_more.f t115 t116 (IntKind.u64.wrap (t114 - t116))).bind fun bt118 => (if bt118.1 = t113 then (if bt118.2 = t114 then (sandglasslaw01_SatExact.j1 kj11 t110 t111 (IntKind.u64.wrap (t114 - t116)) (decide ((IntKind.u64.wrap (t114 - t116)) ≥ a2))) else (sandglasslaw01_SatExact.j1 kj11 t110 t111 (IntKind.u64.wrap (t114 - t116)) true)) else (sandglasslaw01_SatExact.j1 kj11 t110 t111 (IntKind.u64.wrap (t114 - t116)) true)))) = some r := by rw [if_neg (show ¬ (false = true) by decide)] at H; exact H
          clear H
          have H := H1
          clear H1
          by_cases c16 : t110 = 18446744073709551615
          · rw [if_pos c16] at H
            have c16b0 : (t110 == 18446744073709551615) = true := beq_iff_eq.mpr c16
            have c16b1 : (t110 != 18446744073709551615) = false := bne_eq_false_iff_eq.mpr c16
            clear c16
            by_cases c17 : t111 = 18446744073709551615
            · rw [if_pos c17] at H
              have c17b0 : (t111 == 18446744073709551615) = true := beq_iff_eq.mpr c17
              have c17b1 : (t111 != 18446744073709551615) = false := bne_eq_false_iff_eq.mpr c17
              clear c17
              replace H := Option.bind_eq_some_iff.mp H
              obtain ⟨t117, A180, H⟩ := H
              replace H : (some t117) = some r := H
              have A18 := Aside0.mk A180
              clear A180
              obtain rfl := Option.some.inj H
              go_wp2_with (first | (go_at_call 21; (with_reducible refine (sandglasslaw01_awake.calls  t117 _ A18.out).mono ?_); rintro e w' ⟨rfl, ⟨nd, rfl⟩⟩))
              go_ret
              exact ⟨by first | rfl | (simp; done) | (simp [*]; done), by repeat (first | exact Drawn0.refl _ | apply Drawn0.step)⟩
            · rw [if_neg c17] at H
              have c17b0 : (t111 == 18446744073709551615) = false := beq_eq_false_iff_ne.mpr c17
              have c17b1 : (t111 != 18446744073709551615) = true := bne_iff_ne.mpr c17
              obtain rfl := Option.some.inj H
              go_wp2
              go_ret
              exact ⟨by first | rfl | (simp; done) | (simp [*]; done), by repeat (first | exact Drawn0.refl _ | apply Drawn0.step)⟩
          · rw [if_neg c16] at H
            have c16b0 : (t110 == 18446744073709551615) = false := beq_eq_false_iff_ne.mpr c16
            have c16b1 : (t110 != 18446744073709551615) = true := bne_iff_ne.mpr c16
            replace H := Option.bind_eq_some_iff.mp H
            obtain ⟨⟨t118, t119⟩, A190, H⟩ := H
            replace H : (if t118 = t113 then (if t119 = t114 then (sandglasslaw01_SatExact.j1 kj11 t110 t111 (IntKind.u64.wrap (t114 - t116)) (decide ((IntKind.u64.wrap (t114 - t116)) ≥ a2))) else (sandglasslaw01_SatExact.j1 kj11 t110 t111 (IntKind.u64.wrap (t114 - t116)) true)) else (sandglasslaw01_SatExact.j1 kj11 t110 t111 (IntKind.u64.wrap (t114 - t116)) true)) = some r := H
            have A19 := Aside0.mk A190
            clear A190
            have HC20 := Aside0.mk H
            clear H
            go_upto_region 12 with (first | ((with_reducible refine gate_callee (f := 23) rfl ?_); refine goesL_ (some 74) rfl rfl Try.func23 (by kernel_rfl) rfl #[.int .u64 t115, .int .u64 t116, .int .u64 (IntKind.u64.wrap (t114 - t116))] rfl (by (try simp only [List.map_toArray, List.map_cons, List.map_nil]); first | done | rfl | (simp only [List.length_drop, List.length_take]; rfl)) ?_; (with_reducible refine (sandglasslaw01_more.calls t115 t116 (IntKind.u64.wrap (t114 - t116)) t118 t119 _ A19.out).mono ?_); rintro e w' ⟨rfl, ⟨nd, rfl⟩⟩; refine ⟨_, rfl, ?_⟩))
            (try simp only [Act.put, List.setIfInBounds_toArray, List.set_cons_zero, List.set_cons_succ])
            go_cut [89] (fun v89 wc => ∃ (kq : Nat) (x89_19 : Bool), v89 = .bool x89_19 ∧ Aside0 (sandglasslaw01_SatExact.j1 kq t110 t111 (IntKind.u64.wrap (t114 - t116)) x89_19 = some r) ∧ Aside0 (kq ≤ kj11) ∧ Drawn0 w wc)
            case first =>
              have H := HC20.out
              clear HC20
              by_cases c21 : t118 = t113
              · rw [if_pos c21] at H
                have c21b0 : (t118 == t113) = true := beq_iff_eq.mpr c21
                have c21b1 : (t118 != t113) = false := bne_eq_false_iff_eq.mpr c21
                clear c21
                (first | rw [c21b0] | (simp only [i64_w, i32_w]; rw [c21b0]) | skip)
                by_cases c22 : t119 = t114
                · rw [if_pos c22] at H
                  have c22b0 : (t119 == t114) = true := beq_iff_eq.mpr c22
                  have c22b1 : (t119 != t114) = false := bne_eq_false_iff_eq.mpr c22
                  clear c22
                  have H' := Aside0.mk H
                  clear H
                  go_wp2
                  go_meet
                  case rel => exact ⟨_, (decide ((IntKind.u64.wrap (t114 - t116)) ≥ a2)), (by first | rfl | (simp; done) | (simp [*]; done)), H', ⟨by have := HJ11.out; first | omega | exact Nat.le_refl _⟩, by repeat (first | exact Drawn0.refl _ | apply Drawn0.step)⟩
                · rw [if_neg c22] at H
                  have c22b0 : (t119 == t114) = false := beq_eq_false_iff_ne.mpr c22
                  have c22b1 : (t119 != t114) = true := bne_iff_ne.mpr c22
                  have H' := Aside0.mk H
                  clear H
                  go_wp2
                  go_meet
                  case rel => exact ⟨_, (true), (by first | rfl | (simp; done) | (simp [*]; done)), H', ⟨by have := HJ11.out; first | omega | exact Nat.le_refl _⟩, by repeat (first | exact Drawn0.refl _ | apply Drawn0.step)⟩
              · rw [if_neg c21] at H
                have c21b0 : (t118 == t113) = false := beq_eq_false_iff_ne.mpr c21
                have c21b1 : (t118 != t113) = true := bne_iff_ne.mpr c21
                (first | rw [c21b0] | (simp only [i64_w, i32_w]; rw [c21b0]) | skip)
                have H' := Aside0.mk H
                clear H
                go_wp2
                go_meet
                case rel => exact ⟨_, (true), (by first | rfl | (simp; done) | (simp [*]; done)), H', ⟨by have := HJ11.out; first | omega | exact Nat.le_refl _⟩, by repeat (first | exact Drawn0.refl _ | apply Drawn0.step)⟩
            case rest =>
              clear HC20
              try clear c1
              try clear c2
              try clear p2
              try clear c4
              try clear c6
              try clear c6b0
              try clear c6b1
              try clear c7
              try clear c7b0
              try clear c7b1
              try clear c8
              try clear c8b0
              try clear c8b1
              try clear c11
              try clear c13
              try clear c13b0
              try clear c14
              try clear c14b0
              try clear c14b1
              try clear c15
              try clear c16
              try clear c16b0
              try clear c16b1
              try clear c17
              try clear c17b0
              try clear c17b1
              try clear c21
              try clear c21b0
              try clear c21b1
              try clear c22
              try clear c22b0
              try clear c22b1
              try clear p2
              obtain ⟨kq, x89_19, rfl, HA, HJ19, ⟨mc19, rfl⟩⟩ := hcut
              cases kq with
              | zero => exact absurd HA.out (by simp [sandglasslaw01_SatExact.j1])
              | succ kj19 =>
                have H := HA.out
                clear HA
                simp only [sandglasslaw01_SatExact.j1] at H
                by_cases c23 : x89_19 = true
                · subst c23
                  have H1 : (some false) = some r := by rw [if_pos rfl] at H; exact H
                  clear H
                  have H := H1
                  clear H1
                  obtain rfl := Option.some.inj H
                  go_wp2
                  go_ret
                  exact ⟨by first | rfl | (simp; done) | (simp [*]; done), by repeat (first | exact Drawn0.refl _ | apply Drawn0.step)⟩
                · replace c23 := Bool.eq_false_iff.mpr c23
                  subst c23
                  have H1 : (if (IntKind.u64.wrap (t114 - t116)) = 0 then (if t111 = t110 then ((sandglasslaw01_awake.f).bind fun t120 => (some t120)) else (some false)) else (if t111 = (IntKind.u64.wrap (t110 + 1)) then ((sandglasslaw01_awake.f).bind fun t121 => (some t121)) else (some false))) = some r := by rw [if_neg (show ¬ (false = true) by decide)] at H; exact H
                  clear H
                  have H := H1
                  clear H1
                  by_cases c24 : (IntKind.u64.wrap (t114 - t116)) = 0
                  · rw [if_pos c24] at H
                    have c24b0 : ((IntKind.u64.wrap (t114 - t116)) == 0) = true := beq_iff_eq.mpr c24
                    have c24b1 : ((IntKind.u64.wrap (t114 - t116)) != 0) = false := bne_eq_false_iff_eq.mpr c24
                    clear c24
                    by_cases c25 : t111 = t110
                    · rw [if_pos c25] at H
                      have c25b0 : (t111 == t110) = true := beq_iff_eq.mpr c25
                      have c25b1 : (t111 != t110) = false := bne_eq_false_iff_eq.mpr c25
                      clear c25
                      replace H := Option.bind_eq_some_iff.mp H
                      obtain ⟨t120, A260, H⟩ := H
                      replace H : (some t120) = some r := H
                      have A26 := Aside0.mk A260
                      clear A260
                      obtain rfl := Option.some.inj H
                      go_wp2_with (first | (go_at_call 21; (with_reducible refine (sandglasslaw01_awake.calls  t120 _ A26.out).mono ?_); rintro e w' ⟨rfl, ⟨nd, rfl⟩⟩))
                      go_ret
                      exact ⟨by first | rfl | (simp; done) | (simp [*]; done), by repeat (first | exact Drawn0.refl _ | apply Drawn0.step)⟩
                    · rw [if_neg c25] at H
                      have c25b0 : (t111 == t110) = false := beq_eq_false_iff_ne.mpr c25
                      have c25b1 : (t111 != t110) = true := bne_iff_ne.mpr c25
                      obtain rfl := Option.some.inj H
                      go_wp2
                      go_ret
                      exact ⟨by first | rfl | (simp; done) | (simp [*]; done), by repeat (first | exact Drawn0.refl _ | apply Drawn0.step)⟩
                  · rw [if_neg c24] at H
                    have c24b0 : ((IntKind.u64.wrap (t114 - t116)) == 0) = false := beq_eq_false_iff_ne.mpr c24
                    have c24b1 : ((IntKind.u64.wrap (t114 - t116)) != 0) = true := bne_iff_ne.mpr c24
                    by_cases c27 : t111 = (IntKind.u64.wrap (t110 + 1))
                    · rw [if_pos c27] at H
                      have c27b0 : (t111 == (IntKind.u64.wrap (t110 + 1))) = true := beq_iff_eq.mpr c27
                      have c27b1 : (t111 != (IntKind.u64.wrap (t110 + 1))) = false := bne_eq_false_iff_eq.mpr c27
                      clear c27
                      replace H := Option.bind_eq_some_iff.mp H
                      obtain ⟨t121, A280, H⟩ := H
                      replace H : (some t121) = some r := H
                      have A28 := Aside0.mk A280
                      clear A280
                      obtain rfl := Option.some.inj H
                      go_wp2_with (first | (go_at_call 21; (with_reducible refine (sandglasslaw01_awake.calls  t121 _ A28.out).mono ?_); rintro e w' ⟨rfl, ⟨nd, rfl⟩⟩))
                      go_ret
                      exact ⟨by first | rfl | (simp; done) | (simp [*]; done), by repeat (first | exact Drawn0.refl _ | apply Drawn0.step)⟩
                    · rw [if_neg c27] at H
                      have c27b0 : (t111 == (IntKind.u64.wrap (t110 + 1))) = false := beq_eq_false_iff_ne.mpr c27
                      have c27b1 : (t111 != (IntKind.u64.wrap (t110 + 1))) = true := bne_iff_ne.mpr c27
                      obtain rfl := Option.some.inj H
                      go_wp2
                      go_ret
                      exact ⟨by first | rfl | (simp; done) | (simp [*]; done), by repeat (first | exact Drawn0.refl _ | apply Drawn0.step)⟩

/-- THE ONE PURE STATEMENT of sandglasslaw01_SatExact: yours. -/
def sandglasslaw01_SatExact.Pure : Prop := ∀ (a0 : Int) (a1 : Int) (a2 : Int), (Lit.int .u64 a0).wf = true → (Lit.int .u64 a1).wf = true → (Lit.int .u64 a2).wf = true → ∃ k, sandglasslaw01_SatExact.f k a0 a1 a2 = some true
theorem sandglasslaw01_SatExact.walk (P : sandglasslaw01_SatExact.Pure) (a0 : Int) (a1 : Int) (a2 : Int) (w : World) (w0 : (Lit.int .u64 a0).wf = true) (w1 : (Lit.int .u64 a1).wf = true) (w2 : (Lit.int .u64 a2).wf = true) :
    Calls Try.prog 4 #[.int .u64 a0, .int .u64 a1, .int .u64 a2] w fun e w' => e = .returned (.bool true) ∧ Below w.heap.size w w' := by
  obtain ⟨k, h⟩ := P a0 a1 a2 w0 w1 w2
  refine (sandglasslaw01_SatExact.calls k a0 a1 a2 true w h).mono ?_
  rintro e w' ⟨rfl, hd⟩
  exact ⟨rfl, hd.below⟩

end Go.Proofs.Ytihnjbpjikekpaa.PExa
