/- One text of a proof that a law answers true for every input. No condition. Printed by p2.py (wip/tools of this repo), which drives the print of the kit; Lean checks it. -/
import Derived.Test.YtihnjbpjikekpaaPTelx0
namespace Go.Proofs.Ytihnjbpjikekpaa.PTel
open Go.RowKit Go.Proofs.Ytihnjbpjikekpaa.Ext Go.Proofs.YtihnjbpjikekpaaW.PrintWords Go.Proofs.YtihnjbpjikekpaaW.PrintLast Go.Proofs.YtihnjbpjikekpaaW.PrintMore
attribute [local go_sem] max2_int min2_int max_two min_two max_three min_three max_four min_four   -- for this text's walks alone
set_option linter.unusedVariables false
set_option linter.unusedSimpArgs false

/-! ### sandglasslaw01_awake: function 21 -/
def sandglasslaw01_awake.f  : Option (Bool) := (sat_Add.f 18446744073709551615 1).bind fun t101 => (if t101 = 18446744073709551615 then ((sat_Sub.f 3 5).bind fun t102 => (if t102 = 0 then ((sat_Mul.f 4294967296 4294967296).bind fun t103 => (if t103 = 18446744073709551615 then ((sat_Down.f 10 10 3).bind fun t104 => (if t104 = 33 then ((sat_Up.f 10 10 3).bind fun t105 => (if t105 = 34 then ((sat_Down.f 18446744073709551615 18446744073709551615 18446744073709551615).bind fun t106 => (if t106 = 18446744073709551615 then ((sat_Down.f 1 1 0).bind fun t107 => (if t107 = 18446744073709551615 then ((sat_Down.f 0 5 7).bind fun t108 => (if t108 = 0 then ((sat_Clamp.f 5 7 3).bind fun t109 => (some (t109 == 7))) else (some false))) else (some false))) else (some false))) else (some false))) else (some false))) else (some false))) else (some false))) else (some false))
set_option maxHeartbeats 8000000 in
set_option maxRecDepth 100000 in
theorem sandglasslaw01_awake.calls  (r : Bool) (w : World) (h : sandglasslaw01_awake.f  = some r) :
    Calls Try.prog 21 #[] w fun e w' => e = .returned (.bool r) ∧ Drawn0 w w' := by
  have H : ((sat_Add.f 18446744073709551615 1).bind fun t101 => (if t101 = 18446744073709551615 then ((sat_Sub.f 3 5).bind fun t102 => (if t102 = 0 then ((sat_Mul.f 4294967296 4294967296).bind fun t103 => (if t103 = 18446744073709551615 then ((sat_Down.f 10 10 3).bind fun t104 => (if t104 = 33 then ((sat_Up.f 10 10 3).bind fun t105 => (if t105 = 34 then ((sat_Down.f 18446744073709551615 18446744073709551615 18446744073709551615).bind fun t106 => (if t106 = 18446744073709551615 then ((sat_Down.f 1 1 0).bind fun t107 => (if t107 = 18446744073709551615 then ((sat_Down.f 0 5 7).bind fun t108 => (if t108 = 0 then ((sat_Clamp.f 5 7 3).bind fun t109 => (some (t109 == 7))) else (some false))) else (some false))) else (some false))) else (some false))) else (some false))) else (some false))) else (some false))) else (some false))) = some r := h
  clear h
  replace H := Option.bind_eq_some_iff.mp H
  obtain ⟨t101, A10, H⟩ := H
  replace H : (if t101 = 18446744073709551615 then ((sat_Sub.f 3 5).bind fun t102 => (if t102 = 0 then ((sat_Mul.f 4294967296 4294967296).bind fun t103 => (if t103 = 18446744073709551615 then ((sat_Down.f 10 10 3).bind fun t104 => (if t104 = 33 then ((sat_Up.f 10 10 3).bind fun t105 => (if t105 = 34 then ((sat_Down.f 18446744073709551615 18446744073709551615 18446744073709551615).bind fun t106 => (if t106 = 18446744073709551615 then ((sat_Down.f 1 1 0).bind fun t107 => (if t107 = 18446744073709551615 then ((sat_Down.f 0 5 7).bind fun t108 => (if t108 = 0 then ((sat_Clamp.f 5 7 3).bind fun t109 => (some (t109 == 7))) else (some false))) else (some false))) else (some false))) else (some false))) else (some false))) else (some false))) else (some false))) else (some false)) = some r := H
  have A1 := Aside0.mk A10
  clear A10
  by_cases c2 : t101 = 18446744073709551615
  · rw [if_pos c2] at H
    have c2b0 : (t101 == 18446744073709551615) = true := beq_iff_eq.mpr c2
    have c2b1 : (t101 != 18446744073709551615) = false := bne_eq_false_iff_eq.mpr c2
    clear c2
    replace H := Option.bind_eq_some_iff.mp H
    obtain ⟨t102, A30, H⟩ := H
    replace H : (if t102 = 0 then ((sat_Mul.f 4294967296 4294967296).bind fun t103 => (if t103 = 18446744073709551615 then ((sat_Down.f 10 10 3).bind fun t104 => (if t104 = 33 then ((sat_Up.f 10 10 3).bind fun t105 => (if t105 = 34 then ((sat_Down.f 18446744073709551615 18446744073709551615 18446744073709551615).bind fun t106 => (if t106 = 18446744073709551615 then ((sat_Down.f 1 1 0).bind fun t107 => (if t107 = 18446744073709551615 then ((sat_Down.f 0 5 7).bind fun t108 => (if t108 = 0 then ((sat_Clamp.f 5 7 3).bind fun t109 => (some (t109 == 7))) else (some false))) else (some false))) else (some false))) else (some false))) else (some false))) else (some false))) else (some false)) = some r := H
    have A3 := Aside0.mk A30
    clear A30
    by_cases c4 : t102 = 0
    · rw [if_pos c4] at H
      have c4b0 : (t102 == 0) = true := beq_iff_eq.mpr c4
      have c4b1 : (t102 != 0) = false := bne_eq_false_iff_eq.mpr c4
      clear c4
      replace H := Option.bind_eq_some_iff.mp H
      obtain ⟨t103, A50, H⟩ := H
      replace H : (if t103 = 18446744073709551615 then ((sat_Down.f 10 10 3).bind fun t104 => (if t104 = 33 then ((sat_Up.f 10 10 3).bind fun t105 => (if t105 = 34 then ((sat_Down.f 18446744073709551615 18446744073709551615 18446744073709551615).bind fun t106 => (if t106 = 18446744073709551615 then ((sat_Down.f 1 1 0).bind fun t107 => (if t107 = 18446744073709551615 then ((sat_Down.f 0 5 7).bind fun t108 => (if t108 = 0 then ((sat_Clamp.f 5 7 3).bind fun t109 => (some (t109 == 7))) else (some false))) else (some false))) else (some false))) else (some false))) else (some false))) else (some false)) = some r := H
      have A5 := Aside0.mk A50
      clear A50
      by_cases c6 : t103 = 18446744073709551615
      · rw [if_pos c6] at H
        have c6b0 : (t103 == 18446744073709551615) = true := beq_iff_eq.mpr c6
        have c6b1 : (t103 != 18446744073709551615) = false := bne_eq_false_iff_eq.mpr c6
        clear c6
        replace H := Option.bind_eq_some_iff.mp H
        obtain ⟨t104, A70, H⟩ := H
        replace H : (if t104 = 33 then ((sat_Up.f 10 10 3).bind fun t105 => (if t105 = 34 then ((sat_Down.f 18446744073709551615 18446744073709551615 18446744073709551615).bind fun t106 => (if t106 = 18446744073709551615 then ((sat_Down.f 1 1 0).bind fun t107 => (if t107 = 18446744073709551615 then ((sat_Down.f 0 5 7).bind fun t108 => (if t108 = 0 then ((sat_Clamp.f 5 7 3).bind fun t109 => (some (t109 == 7))) else (some false))) else (some false))) else (some false))) else (some false))) else (some false)) = some r := H
        have A7 := Aside0.mk A70
        clear A70
        by_cases c8 : t104 = 33
        · rw [if_pos c8] at H
          have c8b0 : (t104 == 33) = true := beq_iff_eq.mpr c8
          have c8b1 : (t104 != 33) = false := bne_eq_false_iff_eq.mpr c8
          clear c8
          replace H := Option.bind_eq_some_iff.mp H
          obtain ⟨t105, A90, H⟩ := H
          replace H : (if t105 = 34 then ((sat_Down.f 18446744073709551615 18446744073709551615 18446744073709551615).bind fun t106 => (if t106 = 18446744073709551615 then ((sat_Down.f 1 1 0).bind fun t107 => (if t107 = 18446744073709551615 then ((sat_Down.f 0 5 7).bind fun t108 => (if t108 = 0 then ((sat_Clamp.f 5 7 3).bind fun t109 => (some (t109 == 7))) else (some false))) else (some false))) else (some false))) else (some false)) = some r := H
          have A9 := Aside0.mk A90
          clear A90
          by_cases c10 : t105 = 34
          · rw [if_pos c10] at H
            have c10b0 : (t105 == 34) = true := beq_iff_eq.mpr c10
            have c10b1 : (t105 != 34) = false := bne_eq_false_iff_eq.mpr c10
            clear c10
            replace H := Option.bind_eq_some_iff.mp H
            obtain ⟨t106, A110, H⟩ := H
            replace H : (if t106 = 18446744073709551615 then ((sat_Down.f 1 1 0).bind fun t107 => (if t107 = 18446744073709551615 then ((sat_Down.f 0 5 7).bind fun t108 => (if t108 = 0 then ((sat_Clamp.f 5 7 3).bind fun t109 => (some (t109 == 7))) else (some false))) else (some false))) else (some false)) = some r := H
            have A11 := Aside0.mk A110
            clear A110
            by_cases c12 : t106 = 18446744073709551615
            · rw [if_pos c12] at H
              have c12b0 : (t106 == 18446744073709551615) = true := beq_iff_eq.mpr c12
              have c12b1 : (t106 != 18446744073709551615) = false := bne_eq_false_iff_eq.mpr c12
              clear c12
              replace H := Option.bind_eq_some_iff.mp H
              obtain ⟨t107, A130, H⟩ := H
              replace H : (if t107 = 18446744073709551615 then ((sat_Down.f 0 5 7).bind fun t108 => (if t108 = 0 then ((sat_Clamp.f 5 7 3).bind fun t109 => (some (t109 == 7))) else (some false))) else (some false)) = some r := H
              have A13 := Aside0.mk A130
              clear A130
              by_cases c14 : t107 = 18446744073709551615
              · rw [if_pos c14] at H
                have c14b0 : (t107 == 18446744073709551615) = true := beq_iff_eq.mpr c14
                have c14b1 : (t107 != 18446744073709551615) = false := bne_eq_false_iff_eq.mpr c14
                clear c14
                replace H := Option.bind_eq_some_iff.mp H
                obtain ⟨t108, A150, H⟩ := H
                replace H : (if t108 = 0 then ((sat_Clamp.f 5 7 3).bind fun t109 => (some (t109 == 7))) else (some false)) = some r := H
                have A15 := Aside0.mk A150
                clear A150
                by_cases c16 : t108 = 0
                · rw [if_pos c16] at H
                  have c16b0 : (t108 == 0) = true := beq_iff_eq.mpr c16
                  have c16b1 : (t108 != 0) = false := bne_eq_false_iff_eq.mpr c16
                  clear c16
                  replace H := Option.bind_eq_some_iff.mp H
                  obtain ⟨t109, A170, H⟩ := H
                  replace H : (some (t109 == 7)) = some r := H
                  have A17 := Aside0.mk A170
                  clear A170
                  obtain rfl := Option.some.inj H
                  go_enter Try.func21, Try.ntmps21
                  go_wp2_with (first | ((with_reducible refine gate_callee (f := 9) rfl ?_); refine goesL_ (some 1) rfl rfl Try.func9 (by kernel_rfl) rfl #[.int .u64 18446744073709551615, .int .u64 1] rfl (by (try simp only [List.map_toArray, List.map_cons, List.map_nil]); first | done | rfl | (simp only [List.length_drop, List.length_take]; rfl)) ?_; (with_reducible refine (sat_Add.calls 18446744073709551615 1 t101 _ A1.out).mono ?_); rintro e w' ⟨rfl, ⟨nd, rfl⟩⟩; refine ⟨_, rfl, ?_⟩) | (go_at_call 11; (with_reducible refine (sat_Sub.calls 3 5 t102 _ A3.out).mono ?_); rintro e w' ⟨rfl, ⟨nd, rfl⟩⟩) | (go_at_call 13; (with_reducible refine (sat_Mul.calls 4294967296 4294967296 t103 _ A5.out).mono ?_); rintro e w' ⟨rfl, ⟨nd, rfl⟩⟩) | (go_at_call 15; (with_reducible refine (sat_Down.calls 10 10 3 t104 _ A7.out).mono ?_); rintro e w' ⟨rfl, ⟨nd, rfl⟩⟩) | (go_at_call 17; (with_reducible refine (sat_Up.calls 10 10 3 t105 _ A9.out).mono ?_); rintro e w' ⟨rfl, ⟨nd, rfl⟩⟩) | (go_at_call 15; (with_reducible refine (sat_Down.calls 18446744073709551615 18446744073709551615 18446744073709551615 t106 _ A11.out).mono ?_); rintro e w' ⟨rfl, ⟨nd, rfl⟩⟩) | (go_at_call 15; (with_reducible refine (sat_Down.calls 1 1 0 t107 _ A13.out).mono ?_); rintro e w' ⟨rfl, ⟨nd, rfl⟩⟩) | (go_at_call 15; (with_reducible refine (sat_Down.calls 0 5 7 t108 _ A15.out).mono ?_); rintro e w' ⟨rfl, ⟨nd, rfl⟩⟩) | (go_at_call 19; (with_reducible refine (sat_Clamp.calls 5 7 3 t109 _ A17.out).mono ?_); rintro e w' ⟨rfl, ⟨nd, rfl⟩⟩))
                  go_ret
                  exact ⟨by first | rfl | (simp; done) | (simp [*]; done), by repeat (first | exact Drawn0.refl _ | apply Drawn0.step)⟩
                · rw [if_neg c16] at H
                  have c16b0 : (t108 == 0) = false := beq_eq_false_iff_ne.mpr c16
                  have c16b1 : (t108 != 0) = true := bne_iff_ne.mpr c16
                  obtain rfl := Option.some.inj H
                  go_enter Try.func21, Try.ntmps21
                  go_wp2_with (first | ((with_reducible refine gate_callee (f := 9) rfl ?_); refine goesL_ (some 1) rfl rfl Try.func9 (by kernel_rfl) rfl #[.int .u64 18446744073709551615, .int .u64 1] rfl (by (try simp only [List.map_toArray, List.map_cons, List.map_nil]); first | done | rfl | (simp only [List.length_drop, List.length_take]; rfl)) ?_; (with_reducible refine (sat_Add.calls 18446744073709551615 1 t101 _ A1.out).mono ?_); rintro e w' ⟨rfl, ⟨nd, rfl⟩⟩; refine ⟨_, rfl, ?_⟩) | (go_at_call 11; (with_reducible refine (sat_Sub.calls 3 5 t102 _ A3.out).mono ?_); rintro e w' ⟨rfl, ⟨nd, rfl⟩⟩) | (go_at_call 13; (with_reducible refine (sat_Mul.calls 4294967296 4294967296 t103 _ A5.out).mono ?_); rintro e w' ⟨rfl, ⟨nd, rfl⟩⟩) | (go_at_call 15; (with_reducible refine (sat_Down.calls 10 10 3 t104 _ A7.out).mono ?_); rintro e w' ⟨rfl, ⟨nd, rfl⟩⟩) | (go_at_call 17; (with_reducible refine (sat_Up.calls 10 10 3 t105 _ A9.out).mono ?_); rintro e w' ⟨rfl, ⟨nd, rfl⟩⟩) | (go_at_call 15; (with_reducible refine (sat_Down.calls 18446744073709551615 18446744073709551615 18446744073709551615 t106 _ A11.out).mono ?_); rintro e w' ⟨rfl, ⟨nd, rfl⟩⟩) | (go_at_call 15; (with_reducible refine (sat_Down.calls 1 1 0 t107 _ A13.out).mono ?_); rintro e w' ⟨rfl, ⟨nd, rfl⟩⟩) | (go_at_call 15; (with_reducible refine (sat_Down.calls 0 5 7 t108 _ A15.out).mono ?_); rintro e w' ⟨rfl, ⟨nd, rfl⟩⟩))
                  go_ret
                  exact ⟨by first | rfl | (simp; done) | (simp [*]; done), by repeat (first | exact Drawn0.refl _ | apply Drawn0.step)⟩
              · rw [if_neg c14] at H
                have c14b0 : (t107 == 18446744073709551615) = false := beq_eq_false_iff_ne.mpr c14
                have c14b1 : (t107 != 18446744073709551615) = true := bne_iff_ne.mpr c14
                obtain rfl := Option.some.inj H
                go_enter Try.func21, Try.ntmps21
                go_wp2_with (first | ((with_reducible refine gate_callee (f := 9) rfl ?_); refine goesL_ (some 1) rfl rfl Try.func9 (by kernel_rfl) rfl #[.int .u64 18446744073709551615, .int .u64 1] rfl (by (try simp only [List.map_toArray, List.map_cons, List.map_nil]); first | done | rfl | (simp only [List.length_drop, List.length_take]; rfl)) ?_; (with_reducible refine (sat_Add.calls 18446744073709551615 1 t101 _ A1.out).mono ?_); rintro e w' ⟨rfl, ⟨nd, rfl⟩⟩; refine ⟨_, rfl, ?_⟩) | (go_at_call 11; (with_reducible refine (sat_Sub.calls 3 5 t102 _ A3.out).mono ?_); rintro e w' ⟨rfl, ⟨nd, rfl⟩⟩) | (go_at_call 13; (with_reducible refine (sat_Mul.calls 4294967296 4294967296 t103 _ A5.out).mono ?_); rintro e w' ⟨rfl, ⟨nd, rfl⟩⟩) | (go_at_call 15; (with_reducible refine (sat_Down.calls 10 10 3 t104 _ A7.out).mono ?_); rintro e w' ⟨rfl, ⟨nd, rfl⟩⟩) | (go_at_call 17; (with_reducible refine (sat_Up.calls 10 10 3 t105 _ A9.out).mono ?_); rintro e w' ⟨rfl, ⟨nd, rfl⟩⟩) | (go_at_call 15; (with_reducible refine (sat_Down.calls 18446744073709551615 18446744073709551615 18446744073709551615 t106 _ A11.out).mono ?_); rintro e w' ⟨rfl, ⟨nd, rfl⟩⟩) | (go_at_call 15; (with_reducible refine (sat_Down.calls 1 1 0 t107 _ A13.out).mono ?_); rintro e w' ⟨rfl, ⟨nd, rfl⟩⟩))
                go_ret
                exact ⟨by first | rfl | (simp; done) | (simp [*]; done), by repeat (first | exact Drawn0.refl _ | apply Drawn0.step)⟩
            · rw [if_neg c12] at H
              have c12b0 : (t106 == 18446744073709551615) = false := beq_eq_false_iff_ne.mpr c12
              have c12b1 : (t106 != 18446744073709551615) = true := bne_iff_ne.mpr c12
              obtain rfl := Option.some.inj H
              go_enter Try.func21, Try.ntmps21
              go_wp2_with (first | ((with_reducible refine gate_callee (f := 9) rfl ?_); refine goesL_ (some 1) rfl rfl Try.func9 (by kernel_rfl) rfl #[.int .u64 18446744073709551615, .int .u64 1] rfl (by (try simp only [List.map_toArray, List.map_cons, List.map_nil]); first | done | rfl | (simp only [List.length_drop, List.length_take]; rfl)) ?_; (with_reducible refine (sat_Add.calls 18446744073709551615 1 t101 _ A1.out).mono ?_); rintro e w' ⟨rfl, ⟨nd, rfl⟩⟩; refine ⟨_, rfl, ?_⟩) | (go_at_call 11; (with_reducible refine (sat_Sub.calls 3 5 t102 _ A3.out).mono ?_); rintro e w' ⟨rfl, ⟨nd, rfl⟩⟩) | (go_at_call 13; (with_reducible refine (sat_Mul.calls 4294967296 4294967296 t103 _ A5.out).mono ?_); rintro e w' ⟨rfl, ⟨nd, rfl⟩⟩) | (go_at_call 15; (with_reducible refine (sat_Down.calls 10 10 3 t104 _ A7.out).mono ?_); rintro e w' ⟨rfl, ⟨nd, rfl⟩⟩) | (go_at_call 17; (with_reducible refine (sat_Up.calls 10 10 3 t105 _ A9.out).mono ?_); rintro e w' ⟨rfl, ⟨nd, rfl⟩⟩) | (go_at_call 15; (with_reducible refine (sat_Down.calls 18446744073709551615 18446744073709551615 18446744073709551615 t106 _ A11.out).mono ?_); rintro e w' ⟨rfl, ⟨nd, rfl⟩⟩))
              go_ret
              exact ⟨by first | rfl | (simp; done) | (simp [*]; done), by repeat (first | exact Drawn0.refl _ | apply Drawn0.step)⟩
          · rw [if_neg c10] at H
            have c10b0 : (t105 == 34) = false := beq_eq_false_iff_ne.mpr c10
            have c10b1 : (t105 != 34) = true := bne_iff_ne.mpr c10
            obtain rfl := Option.some.inj H
            go_enter Try.func21, Try.ntmps21
            go_wp2_with (first | ((with_reducible refine gate_callee (f := 9) rfl ?_); refine goesL_ (some 1) rfl rfl Try.func9 (by kernel_rfl) rfl #[.int .u64 18446744073709551615, .int .u64 1] rfl (by (try simp only [List.map_toArray, List.map_cons, List.map_nil]); first | done | rfl | (simp only [List.length_drop, List.length_take]; rfl)) ?_; (with_reducible refine (sat_Add.calls 18446744073709551615 1 t101 _ A1.out).mono ?_); rintro e w' ⟨rfl, ⟨nd, rfl⟩⟩; refine ⟨_, rfl, ?_⟩) | (go_at_call 11; (with_reducible refine (sat_Sub.calls 3 5 t102 _ A3.out).mono ?_); rintro e w' ⟨rfl, ⟨nd, rfl⟩⟩) | (go_at_call 13; (with_reducible refine (sat_Mul.calls 4294967296 4294967296 t103 _ A5.out).mono ?_); rintro e w' ⟨rfl, ⟨nd, rfl⟩⟩) | (go_at_call 15; (with_reducible refine (sat_Down.calls 10 10 3 t104 _ A7.out).mono ?_); rintro e w' ⟨rfl, ⟨nd, rfl⟩⟩) | (go_at_call 17; (with_reducible refine (sat_Up.calls 10 10 3 t105 _ A9.out).mono ?_); rintro e w' ⟨rfl, ⟨nd, rfl⟩⟩))
            go_ret
            exact ⟨by first | rfl | (simp; done) | (simp [*]; done), by repeat (first | exact Drawn0.refl _ | apply Drawn0.step)⟩
        · rw [if_neg c8] at H
          have c8b0 : (t104 == 33) = false := beq_eq_false_iff_ne.mpr c8
          have c8b1 : (t104 != 33) = true := bne_iff_ne.mpr c8
          obtain rfl := Option.some.inj H
          go_enter Try.func21, Try.ntmps21
          go_wp2_with (first | ((with_reducible refine gate_callee (f := 9) rfl ?_); refine goesL_ (some 1) rfl rfl Try.func9 (by kernel_rfl) rfl #[.int .u64 18446744073709551615, .int .u64 1] rfl (by (try simp only [List.map_toArray, List.map_cons, List.map_nil]); first | done | rfl | (simp only [List.length_drop, List.length_take]; rfl)) ?_; (with_reducible refine (sat_Add.calls 18446744073709551615 1 t101 _ A1.out).mono ?_); rintro e w' ⟨rfl, ⟨nd, rfl⟩⟩; refine ⟨_, rfl, ?_⟩) | (go_at_call 11; (with_reducible refine (sat_Sub.calls 3 5 t102 _ A3.out).mono ?_); rintro e w' ⟨rfl, ⟨nd, rfl⟩⟩) | (go_at_call 13; (with_reducible refine (sat_Mul.calls 4294967296 4294967296 t103 _ A5.out).mono ?_); rintro e w' ⟨rfl, ⟨nd, rfl⟩⟩) | (go_at_call 15; (with_reducible refine (sat_Down.calls 10 10 3 t104 _ A7.out).mono ?_); rintro e w' ⟨rfl, ⟨nd, rfl⟩⟩))
          go_ret
          exact ⟨by first | rfl | (simp; done) | (simp [*]; done), by repeat (first | exact Drawn0.refl _ | apply Drawn0.step)⟩
      · rw [if_neg c6] at H
        have c6b0 : (t103 == 18446744073709551615) = false := beq_eq_false_iff_ne.mpr c6
        have c6b1 : (t103 != 18446744073709551615) = true := bne_iff_ne.mpr c6
        obtain rfl := Option.some.inj H
        go_enter Try.func21, Try.ntmps21
        go_wp2_with (first | ((with_reducible refine gate_callee (f := 9) rfl ?_); refine goesL_ (some 1) rfl rfl Try.func9 (by kernel_rfl) rfl #[.int .u64 18446744073709551615, .int .u64 1] rfl (by (try simp only [List.map_toArray, List.map_cons, List.map_nil]); first | done | rfl | (simp only [List.length_drop, List.length_take]; rfl)) ?_; (with_reducible refine (sat_Add.calls 18446744073709551615 1 t101 _ A1.out).mono ?_); rintro e w' ⟨rfl, ⟨nd, rfl⟩⟩; refine ⟨_, rfl, ?_⟩) | (go_at_call 11; (with_reducible refine (sat_Sub.calls 3 5 t102 _ A3.out).mono ?_); rintro e w' ⟨rfl, ⟨nd, rfl⟩⟩) | (go_at_call 13; (with_reducible refine (sat_Mul.calls 4294967296 4294967296 t103 _ A5.out).mono ?_); rintro e w' ⟨rfl, ⟨nd, rfl⟩⟩))
        go_ret
        exact ⟨by first | rfl | (simp; done) | (simp [*]; done), by repeat (first | exact Drawn0.refl _ | apply Drawn0.step)⟩
    · rw [if_neg c4] at H
      have c4b0 : (t102 == 0) = false := beq_eq_false_iff_ne.mpr c4
      have c4b1 : (t102 != 0) = true := bne_iff_ne.mpr c4
      obtain rfl := Option.some.inj H
      go_enter Try.func21, Try.ntmps21
      go_wp2_with (first | ((with_reducible refine gate_callee (f := 9) rfl ?_); refine goesL_ (some 1) rfl rfl Try.func9 (by kernel_rfl) rfl #[.int .u64 18446744073709551615, .int .u64 1] rfl (by (try simp only [List.map_toArray, List.map_cons, List.map_nil]); first | done | rfl | (simp only [List.length_drop, List.length_take]; rfl)) ?_; (with_reducible refine (sat_Add.calls 18446744073709551615 1 t101 _ A1.out).mono ?_); rintro e w' ⟨rfl, ⟨nd, rfl⟩⟩; refine ⟨_, rfl, ?_⟩) | (go_at_call 11; (with_reducible refine (sat_Sub.calls 3 5 t102 _ A3.out).mono ?_); rintro e w' ⟨rfl, ⟨nd, rfl⟩⟩))
      go_ret
      exact ⟨by first | rfl | (simp; done) | (simp [*]; done), by repeat (first | exact Drawn0.refl _ | apply Drawn0.step)⟩
  · rw [if_neg c2] at H
    have c2b0 : (t101 == 18446744073709551615) = false := beq_eq_false_iff_ne.mpr c2
    have c2b1 : (t101 != 18446744073709551615) = true := bne_iff_ne.mpr c2
    obtain rfl := Option.some.inj H
    go_enter Try.func21, Try.ntmps21
    go_wp2_with (first | ((with_reducible refine gate_callee (f := 9) rfl ?_); refine goesL_ (some 1) rfl rfl Try.func9 (by kernel_rfl) rfl #[.int .u64 18446744073709551615, .int .u64 1] rfl (by (try simp only [List.map_toArray, List.map_cons, List.map_nil]); first | done | rfl | (simp only [List.length_drop, List.length_take]; rfl)) ?_; (with_reducible refine (sat_Add.calls 18446744073709551615 1 t101 _ A1.out).mono ?_); rintro e w' ⟨rfl, ⟨nd, rfl⟩⟩; refine ⟨_, rfl, ?_⟩))
    go_ret
    exact ⟨by first | rfl | (simp; done) | (simp [*]; done), by repeat (first | exact Drawn0.refl _ | apply Drawn0.step)⟩

/-! ### sandglasslaw01_SatTells: function 3 -/
def sandglasslaw01_SatTells.f (a0 : Int) (a1 : Int) (a2 : Int) : Option (Bool) := (sat_Add.f a0 a1).bind fun t110 => ((sandglassref01_Add.f a0 a1).bind fun t111 => (if t110 = t111 then ((sat_Sub.f a0 a1).bind fun t112 => ((sandglassref01_Sub.f a0 a1).bind fun t113 => (if t112 = t113 then ((sat_Mul.f a0 a1).bind fun t114 => ((sandglassref01_Mul.f a0 a1).bind fun t115 => (if t114 = t115 then ((sat_Down.f a0 a1 a2).bind fun t116 => ((sandglassref01_Down.f a0 a1 a2).bind fun t117 => (if t116 = t117 then ((sat_Up.f a0 a1 a2).bind fun t118 => ((sandglassref01_Up.f a0 a1 a2).bind fun t119 => (if t118 = t119 then ((sat_Clamp.f a0 a1 a2).bind fun t120 => ((sandglassref01_Clamp.f a0 a1 a2).bind fun t121 => (if t120 = t121 then ((sandglasslaw01_awake.f).bind fun t122 => (some t122)) else (some false)))) else (some false)))) else (some false)))) else (some false)))) else (some false)))) else (some false)))
set_option maxHeartbeats 8000000 in
set_option maxRecDepth 100000 in
theorem sandglasslaw01_SatTells.calls (a0 : Int) (a1 : Int) (a2 : Int) (r : Bool) (w : World) (h : sandglasslaw01_SatTells.f a0 a1 a2 = some r) :
    Calls Try.prog 3 #[.int .u64 a0, .int .u64 a1, .int .u64 a2] w fun e w' => e = .returned (.bool r) ∧ Drawn0 w w' := by
  have H : ((sat_Add.f a0 a1).bind fun t110 => ((sandglassref01_Add.f a0 a1).bind fun t111 => (if t110 = t111 then ((sat_Sub.f a0 a1).bind fun t112 => ((sandglassref01_Sub.f a0 a1).bind fun t113 => (if t112 = t113 then ((sat_Mul.f a0 a1).bind fun t114 => ((sandglassref01_Mul.f a0 a1).bind fun t115 => (if t114 = t115 then ((sat_Down.f a0 a1 a2).bind fun t116 => ((sandglassref01_Down.f a0 a1 a2).bind fun t117 => (if t116 = t117 then ((sat_Up.f a0 a1 a2).bind fun t118 => ((sandglassref01_Up.f a0 a1 a2).bind fun t119 => (if t118 = t119 then ((sat_Clamp.f a0 a1 a2).bind fun t120 => ((sandglassref01_Clamp.f a0 a1 a2).bind fun t121 => (if t120 = t121 then ((sandglasslaw01_awake.f).bind fun t122 => (some t122)) else (some false)))) else (some false)))) else (some false)))) else (some false)))) else (some false)))) else (some false)))) = some r := h
  clear h
  replace H := Option.bind_eq_some_iff.mp H
  obtain ⟨t110, A40, H⟩ := H
  replace H : ((sandglassref01_Add.f a0 a1).bind fun t111 => (if t110 = t111 then ((sat_Sub.f a0 a1).bind fun t112 => ((sandglassref01_Sub.f a0 a1).bind fun t113 => (if t112 = t113 then ((sat_Mul.f a0 a1).bind fun t114 => ((sandglassref01_Mul.f a0 a1).bind fun t115 => (if t114 = t115 then ((sat_Down.f a0 a1 a2).bind fun t116 => ((sandglassref01_Down.f a0 a1 a2).bind fun t117 => (if t116 = t117 then ((sat_Up.f a0 a1 a2).bind fun t118 => ((sandglassref01_Up.f a0 a1 a2).bind fun t119 => (if t118 = t119 then ((sat_Clamp.f a0 a1 a2).bind fun t120 => ((sandglassref01_Clamp.f a0 a1 a2).bind fun t121 => (if t120 = t121 then ((sandglasslaw01_awake.f).bind fun t122 => (some t122)) else (some false)))) else (some false)))) else (some false)))) else (some false)))) else (some false)))) else (some false))) = some r := H
  have A4 := Aside0.mk A40
  clear A40
  replace H := Option.bind_eq_some_iff.mp H
  obtain ⟨t111, A50, H⟩ := H
  replace H : (if t110 = t111 then ((sat_Sub.f a0 a1).bind fun t112 => ((sandglassref01_Sub.f a0 a1).bind fun t113 => (if t112 = t113 then ((sat_Mul.f a0 a1).bind fun t114 => ((sandglassref01_Mul.f a0 a1).bind fun t115 => (if t114 = t115 then ((sat_Down.f a0 a1 a2).bind fun t116 => ((sandglassref01_Down.f a0 a1 a2).bind fun t117 => (if t116 = t117 then ((sat_Up.f a0 a1 a2).bind fun t118 => ((sandglassref01_Up.f a0 a1 a2).bind fun t119 => (if t118 = t119 then ((sat_Clamp.f a0 a1 a2).bind fun t120 => ((sandglassref01_Clamp.f a0 a1 a2).bind fun t121 => (if t120 = t121 then ((sandglasslaw01_awake.f).bind fun t122 => (some t122)) else (some false)))) else (some false)))) else (some false)))) else (some false)))) else (some false)))) else (some false)) = some r := H
  have A5 := Aside0.mk A50
  clear A50
  by_cases c6 : t110 = t111
  · rw [if_pos c6] at H
    have c6b0 : (t110 == t111) = true := beq_iff_eq.mpr c6
    have c6b1 : (t110 != t111) = false := bne_eq_false_iff_eq.mpr c6
    clear c6
    replace H := Option.bind_eq_some_iff.mp H
    obtain ⟨t112, A70, H⟩ := H
    replace H : ((sandglassref01_Sub.f a0 a1).bind fun t113 => (if t112 = t113 then ((sat_Mul.f a0 a1).bind fun t114 => ((sandglassref01_Mul.f a0 a1).bind fun t115 => (if t114 = t115 then ((sat_Down.f a0 a1 a2).bind fun t116 => ((sandglassref01_Down.f a0 a1 a2).bind fun t117 => (if t116 = t117 then ((sat_Up.f a0 a1 a2).bind fun t118 => ((sandglassref01_Up.f a0 a1 a2).bind fun t119 => (if t118 = t119 then ((sat_Clamp.f a0 a1 a2).bind fun t120 => ((sandglassref01_Clamp.f a0 a1 a2).bind fun t121 => (if t120 = t121 then ((sandglasslaw01_awake.f).bind fun t122 => (some t122)) else (some false)))) else (some false)))) else (some false)))) else (some false)))) else (some false))) = some r := H
    have A7 := Aside0.mk A70
    clear A70
    replace H := Option.bind_eq_some_iff.mp H
    obtain ⟨t113, A80, H⟩ := H
    replace H : (if t112 = t113 then ((sat_Mul.f a0 a1).bind fun t114 => ((sandglassref01_Mul.f a0 a1).bind fun t115 => (if t114 = t115 then ((sat_Down.f a0 a1 a2).bind fun t116 => ((sandglassref01_Down.f a0 a1 a2).bind fun t117 => (if t116 = t117 then ((sat_Up.f a0 a1 a2).bind fun t118 => ((sandglassref01_Up.f a0 a1 a2).bind fun t119 => (if t118 = t119 then ((sat_Clamp.f a0 a1 a2).bind fun t120 => ((sandglassref01_Clamp.f a0 a1 a2).bind fun t121 => (if t120 = t121 then ((sandglasslaw01_awake.f).bind fun t122 => (some t122)) else (some false)))) else (some false)))) else (some false)))) else (some false)))) else (some false)) = some r := H
    have A8 := Aside0.mk A80
    clear A80
    by_cases c9 : t112 = t113
    · rw [if_pos c9] at H
      have c9b0 : (t112 == t113) = true := beq_iff_eq.mpr c9
      have c9b1 : (t112 != t113) = false := bne_eq_false_iff_eq.mpr c9
      clear c9
      replace H := Option.bind_eq_some_iff.mp H
      obtain ⟨t114, A100, H⟩ := H
      replace H : ((sandglassref01_Mul.f a0 a1).bind fun t115 => (if t114 = t115 then ((sat_Down.f a0 a1 a2).bind fun t116 => ((sandglassref01_Down.f a0 a1 a2).bind fun t117 => (if t116 = t117 then ((sat_Up.f a0 a1 a2).bind fun t118 => ((sandglassref01_Up.f a0 a1 a2).bind fun t119 => (if t118 = t119 then ((sat_Clamp.f a0 a1 a2).bind fun t120 => ((sandglassref01_Clamp.f a0 a1 a2).bind fun t121 => (if t120 = t121 then ((sandglasslaw01_awake.f).bind fun t122 => (some t122)) else (some false)))) else (some false)))) else (some false)))) else (some false))) = some r := H
      have A10 := Aside0.mk A100
      clear A100
      replace H := Option.bind_eq_some_iff.mp H
      obtain ⟨t115, A110, H⟩ := H
      replace H : (if t114 = t115 then ((sat_Down.f a0 a1 a2).bind fun t116 => ((sandglassref01_Down.f a0 a1 a2).bind fun t117 => (if t116 = t117 then ((sat_Up.f a0 a1 a2).bind fun t118 => ((sandglassref01_Up.f a0 a1 a2).bind fun t119 => (if t118 = t119 then ((sat_Clamp.f a0 a1 a2).bind fun t120 => ((sandglassref01_Clamp.f a0 a1 a2).bind fun t121 => (if t120 = t121 then ((sandglasslaw01_awake.f).bind fun t122 => (some t122)) else (some false)))) else (some false)))) else (some false)))) else (some false)) = some r := H
      have A11 := Aside0.mk A110
      clear A110
      by_cases c12 : t114 = t115
      · rw [if_pos c12] at H
        have c12b0 : (t114 == t115) = true := beq_iff_eq.mpr c12
        have c12b1 : (t114 != t115) = false := bne_eq_false_iff_eq.mpr c12
        clear c12
        replace H := Option.bind_eq_some_iff.mp H
        obtain ⟨t116, A130, H⟩ := H
        replace H : ((sandglassref01_Down.f a0 a1 a2).bind fun t117 => (if t116 = t117 then ((sat_Up.f a0 a1 a2).bind fun t118 => ((sandglassref01_Up.f a0 a1 a2).bind fun t119 => (if t118 = t119 then ((sat_Clamp.f a0 a1 a2).bind fun t120 => ((sandglassref01_Clamp.f a0 a1 a2).bind fun t121 => (if t120 = t121 then ((sandglasslaw01_awake.f).bind fun t122 => (some t122)) else (some false)))) else (some false)))) else (some false))) = some r := H
        have A13 := Aside0.mk A130
        clear A130
        replace H := Option.bind_eq_some_iff.mp H
        obtain ⟨t117, A140, H⟩ := H
        replace H : (if t116 = t117 then ((sat_Up.f a0 a1 a2).bind fun t118 => ((sandglassref01_Up.f a0 a1 a2).bind fun t119 => (if t118 = t119 then ((sat_Clamp.f a0 a1 a2).bind fun t120 => ((sandglassref01_Clamp.f a0 a1 a2).bind fun t121 => (if t120 = t121 then ((sandglasslaw01_awake.f).bind fun t122 => (some t122)) else (some false)))) else (some false)))) else (some false)) = some r := H
        have A14 := Aside0.mk A140
        clear A140
        by_cases c15 : t116 = t117
        · rw [if_pos c15] at H
          have c15b0 : (t116 == t117) = true := beq_iff_eq.mpr c15
          have c15b1 : (t116 != t117) = false := bne_eq_false_iff_eq.mpr c15
          clear c15
          replace H := Option.bind_eq_some_iff.mp H
          obtain ⟨t118, A160, H⟩ := H
          replace H : ((sandglassref01_Up.f a0 a1 a2).bind fun t119 => (if t118 = t119 then ((sat_Clamp.f a0 a1 a2).bind fun t120 => ((sandglassref01_Clamp.f a0 a1 a2).bind fun t121 => (if t120 = t121 then ((sandglasslaw01_awake.f).bind fun t122 => (some t122)) else (some false)))) else (some false))) = some r := H
          have A16 := Aside0.mk A160
          clear A160
          replace H := Option.bind_eq_some_iff.mp H
          obtain ⟨t119, A170, H⟩ := H
          replace H : (if t118 = t119 then ((sat_Clamp.f a0 a1 a2).bind fun t120 => ((sandglassref01_Clamp.f a0 a1 a2).bind fun t121 => (if t120 = t121 then ((sandglasslaw01_awake.f).bind fun t122 => (some t122)) else (some false)))) else (some false)) = some r := H
          have A17 := Aside0.mk A170
          clear A170
          by_cases c18 : t118 = t119
          · rw [if_pos c18] at H
            have c18b0 : (t118 == t119) = true := beq_iff_eq.mpr c18
            have c18b1 : (t118 != t119) = false := bne_eq_false_iff_eq.mpr c18
            clear c18
            replace H := Option.bind_eq_some_iff.mp H
            obtain ⟨t120, A190, H⟩ := H
            replace H : ((sandglassref01_Clamp.f a0 a1 a2).bind fun t121 => (if t120 = t121 then ((sandglasslaw01_awake.f).bind fun t122 => (some t122)) else (some false))) = some r := H
            have A19 := Aside0.mk A190
            clear A190
            replace H := Option.bind_eq_some_iff.mp H
            obtain ⟨t121, A200, H⟩ := H
            replace H : (if t120 = t121 then ((sandglasslaw01_awake.f).bind fun t122 => (some t122)) else (some false)) = some r := H
            have A20 := Aside0.mk A200
            clear A200
            by_cases c21 : t120 = t121
            · rw [if_pos c21] at H
              have c21b0 : (t120 == t121) = true := beq_iff_eq.mpr c21
              have c21b1 : (t120 != t121) = false := bne_eq_false_iff_eq.mpr c21
              clear c21
              replace H := Option.bind_eq_some_iff.mp H
              obtain ⟨t122, A220, H⟩ := H
              replace H : (some t122) = some r := H
              have A22 := Aside0.mk A220
              clear A220
              obtain rfl := Option.some.inj H
              go_enter Try.func3, Try.ntmps3
              go_wp2_with (first | ((with_reducible refine gate_callee (f := 9) rfl ?_); refine goesL_ (some 9) rfl rfl Try.func9 (by kernel_rfl) rfl #[.int .u64 a0, .int .u64 a1] rfl (by (try simp only [List.map_toArray, List.map_cons, List.map_nil]); first | done | rfl | (simp only [List.length_drop, List.length_take]; rfl)) ?_; (with_reducible refine (sat_Add.calls a0 a1 t110 _ A4.out).mono ?_); rintro e w' ⟨rfl, ⟨nd, rfl⟩⟩; refine ⟨_, rfl, ?_⟩) | ((with_reducible refine gate_callee (f := 10) rfl ?_); refine goesL_ (some 12) rfl rfl Try.func10 (by kernel_rfl) rfl #[.int .u64 a0, .int .u64 a1] rfl (by (try simp only [List.map_toArray, List.map_cons, List.map_nil]); first | done | rfl | (simp only [List.length_drop, List.length_take]; rfl)) ?_; (with_reducible refine (sandglassref01_Add.calls a0 a1 t111 _ A5.out).mono ?_); rintro e w' ⟨rfl, ⟨nd, rfl⟩⟩; refine ⟨_, rfl, ?_⟩) | (go_at_call 11; (with_reducible refine (sat_Sub.calls a0 a1 t112 _ A7.out).mono ?_); rintro e w' ⟨rfl, ⟨nd, rfl⟩⟩) | (go_at_call 12; (with_reducible refine (sandglassref01_Sub.calls a0 a1 t113 _ A8.out).mono ?_); rintro e w' ⟨rfl, ⟨nd, rfl⟩⟩) | (go_at_call 13; (with_reducible refine (sat_Mul.calls a0 a1 t114 _ A10.out).mono ?_); rintro e w' ⟨rfl, ⟨nd, rfl⟩⟩) | (go_at_call 14; (with_reducible refine (sandglassref01_Mul.calls a0 a1 t115 _ A11.out).mono ?_); rintro e w' ⟨rfl, ⟨nd, rfl⟩⟩) | (go_at_call 15; (with_reducible refine (sat_Down.calls a0 a1 a2 t116 _ A13.out).mono ?_); rintro e w' ⟨rfl, ⟨nd, rfl⟩⟩) | (go_at_call 16; (with_reducible refine (sandglassref01_Down.calls a0 a1 a2 t117 _ A14.out).mono ?_); rintro e w' ⟨rfl, ⟨nd, rfl⟩⟩) | (go_at_call 17; (with_reducible refine (sat_Up.calls a0 a1 a2 t118 _ A16.out).mono ?_); rintro e w' ⟨rfl, ⟨nd, rfl⟩⟩) | (go_at_call 18; (with_reducible refine (sandglassref01_Up.calls a0 a1 a2 t119 _ A17.out).mono ?_); rintro e w' ⟨rfl, ⟨nd, rfl⟩⟩) | (go_at_call 19; (with_reducible refine (sat_Clamp.calls a0 a1 a2 t120 _ A19.out).mono ?_); rintro e w' ⟨rfl, ⟨nd, rfl⟩⟩) | (go_at_call 20; (with_reducible refine (sandglassref01_Clamp.calls a0 a1 a2 t121 _ A20.out).mono ?_); rintro e w' ⟨rfl, ⟨nd, rfl⟩⟩) | (go_at_call 21; (with_reducible refine (sandglasslaw01_awake.calls  t122 _ A22.out).mono ?_); rintro e w' ⟨rfl, ⟨nd, rfl⟩⟩))
              go_ret
              exact ⟨by first | rfl | (simp; done) | (simp [*]; done), by repeat (first | exact Drawn0.refl _ | apply Drawn0.step)⟩
            · rw [if_neg c21] at H
              have c21b0 : (t120 == t121) = false := beq_eq_false_iff_ne.mpr c21
              have c21b1 : (t120 != t121) = true := bne_iff_ne.mpr c21
              obtain rfl := Option.some.inj H
              go_enter Try.func3, Try.ntmps3
              go_wp2_with (first | ((with_reducible refine gate_callee (f := 9) rfl ?_); refine goesL_ (some 9) rfl rfl Try.func9 (by kernel_rfl) rfl #[.int .u64 a0, .int .u64 a1] rfl (by (try simp only [List.map_toArray, List.map_cons, List.map_nil]); first | done | rfl | (simp only [List.length_drop, List.length_take]; rfl)) ?_; (with_reducible refine (sat_Add.calls a0 a1 t110 _ A4.out).mono ?_); rintro e w' ⟨rfl, ⟨nd, rfl⟩⟩; refine ⟨_, rfl, ?_⟩) | ((with_reducible refine gate_callee (f := 10) rfl ?_); refine goesL_ (some 12) rfl rfl Try.func10 (by kernel_rfl) rfl #[.int .u64 a0, .int .u64 a1] rfl (by (try simp only [List.map_toArray, List.map_cons, List.map_nil]); first | done | rfl | (simp only [List.length_drop, List.length_take]; rfl)) ?_; (with_reducible refine (sandglassref01_Add.calls a0 a1 t111 _ A5.out).mono ?_); rintro e w' ⟨rfl, ⟨nd, rfl⟩⟩; refine ⟨_, rfl, ?_⟩) | (go_at_call 11; (with_reducible refine (sat_Sub.calls a0 a1 t112 _ A7.out).mono ?_); rintro e w' ⟨rfl, ⟨nd, rfl⟩⟩) | (go_at_call 12; (with_reducible refine (sandglassref01_Sub.calls a0 a1 t113 _ A8.out).mono ?_); rintro e w' ⟨rfl, ⟨nd, rfl⟩⟩) | (go_at_call 13; (with_reducible refine (sat_Mul.calls a0 a1 t114 _ A10.out).mono ?_); rintro e w' ⟨rfl, ⟨nd, rfl⟩⟩) | (go_at_call 14; (with_reducible refine (sandglassref01_Mul.calls a0 a1 t115 _ A11.out).mono ?_); rintro e w' ⟨rfl, ⟨nd, rfl⟩⟩) | (go_at_call 15; (with_reducible refine (sat_Down.calls a0 a1 a2 t116 _ A13.out).mono ?_); rintro e w' ⟨rfl, ⟨nd, rfl⟩⟩) | (go_at_call 16; (with_reducible refine (sandglassref01_Down.calls a0 a1 a2 t117 _ A14.out).mono ?_); rintro e w' ⟨rfl, ⟨nd, rfl⟩⟩) | (go_at_call 17; (with_reducible refine (sat_Up.calls a0 a1 a2 t118 _ A16.out).mono ?_); rintro e w' ⟨rfl, ⟨nd, rfl⟩⟩) | (go_at_call 18; (with_reducible refine (sandglassref01_Up.calls a0 a1 a2 t119 _ A17.out).mono ?_); rintro e w' ⟨rfl, ⟨nd, rfl⟩⟩) | (go_at_call 19; (with_reducible refine (sat_Clamp.calls a0 a1 a2 t120 _ A19.out).mono ?_); rintro e w' ⟨rfl, ⟨nd, rfl⟩⟩) | (go_at_call 20; (with_reducible refine (sandglassref01_Clamp.calls a0 a1 a2 t121 _ A20.out).mono ?_); rintro e w' ⟨rfl, ⟨nd, rfl⟩⟩))
              go_ret
              exact ⟨by first | rfl | (simp; done) | (simp [*]; done), by repeat (first | exact Drawn0.refl _ | apply Drawn0.step)⟩
          · rw [if_neg c18] at H
            have c18b0 : (t118 == t119) = false := beq_eq_false_iff_ne.mpr c18
            have c18b1 : (t118 != t119) = true := bne_iff_ne.mpr c18
            obtain rfl := Option.some.inj H
            go_enter Try.func3, Try.ntmps3
            go_wp2_with (first | ((with_reducible refine gate_callee (f := 9) rfl ?_); refine goesL_ (some 9) rfl rfl Try.func9 (by kernel_rfl) rfl #[.int .u64 a0, .int .u64 a1] rfl (by (try simp only [List.map_toArray, List.map_cons, List.map_nil]); first | done | rfl | (simp only [List.length_drop, List.length_take]; rfl)) ?_; (with_reducible refine (sat_Add.calls a0 a1 t110 _ A4.out).mono ?_); rintro e w' ⟨rfl, ⟨nd, rfl⟩⟩; refine ⟨_, rfl, ?_⟩) | ((with_reducible refine gate_callee (f := 10) rfl ?_); refine goesL_ (some 12) rfl rfl Try.func10 (by kernel_rfl) rfl #[.int .u64 a0, .int .u64 a1] rfl (by (try simp only [List.map_toArray, List.map_cons, List.map_nil]); first | done | rfl | (simp only [List.length_drop, List.length_take]; rfl)) ?_; (with_reducible refine (sandglassref01_Add.calls a0 a1 t111 _ A5.out).mono ?_); rintro e w' ⟨rfl, ⟨nd, rfl⟩⟩; refine ⟨_, rfl, ?_⟩) | (go_at_call 11; (with_reducible refine (sat_Sub.calls a0 a1 t112 _ A7.out).mono ?_); rintro e w' ⟨rfl, ⟨nd, rfl⟩⟩) | (go_at_call 12; (with_reducible refine (sandglassref01_Sub.calls a0 a1 t113 _ A8.out).mono ?_); rintro e w' ⟨rfl, ⟨nd, rfl⟩⟩) | (go_at_call 13; (with_reducible refine (sat_Mul.calls a0 a1 t114 _ A10.out).mono ?_); rintro e w' ⟨rfl, ⟨nd, rfl⟩⟩) | (go_at_call 14; (with_reducible refine (sandglassref01_Mul.calls a0 a1 t115 _ A11.out).mono ?_); rintro e w' ⟨rfl, ⟨nd, rfl⟩⟩) | (go_at_call 15; (with_reducible refine (sat_Down.calls a0 a1 a2 t116 _ A13.out).mono ?_); rintro e w' ⟨rfl, ⟨nd, rfl⟩⟩) | (go_at_call 16; (with_reducible refine (sandglassref01_Down.calls a0 a1 a2 t117 _ A14.out).mono ?_); rintro e w' ⟨rfl, ⟨nd, rfl⟩⟩) | (go_at_call 17; (with_reducible refine (sat_Up.calls a0 a1 a2 t118 _ A16.out).mono ?_); rintro e w' ⟨rfl, ⟨nd, rfl⟩⟩) | (go_at_call 18; (with_reducible refine (sandglassref01_Up.calls a0 a1 a2 t119 _ A17.out).mono ?_); rintro e w' ⟨rfl, ⟨nd, rfl⟩⟩))
            go_ret
            exact ⟨by first | rfl | (simp; done) | (simp [*]; done), by repeat (first | exact Drawn0.refl _ | apply Drawn0.step)⟩
        · rw [if_neg c15] at H
          have c15b0 : (t116 == t117) = false := beq_eq_false_iff_ne.mpr c15
          have c15b1 : (t116 != t117) = true := bne_iff_ne.mpr c15
          obtain rfl := Option.some.inj H
          go_enter Try.func3, Try.ntmps3
          go_wp2_with (first | ((with_reducible refine gate_callee (f := 9) rfl ?_); refine goesL_ (some 9) rfl rfl Try.func9 (by kernel_rfl) rfl #[.int .u64 a0, .int .u64 a1] rfl (by (try simp only [List.map_toArray, List.map_cons, List.map_nil]); first | done | rfl | (simp only [List.length_drop, List.length_take]; rfl)) ?_; (with_reducible refine (sat_Add.calls a0 a1 t110 _ A4.out).mono ?_); rintro e w' ⟨rfl, ⟨nd, rfl⟩⟩; refine ⟨_, rfl, ?_⟩) | ((with_reducible refine gate_callee (f := 10) rfl ?_); refine goesL_ (some 12) rfl rfl Try.func10 (by kernel_rfl) rfl #[.int .u64 a0, .int .u64 a1] rfl (by (try simp only [List.map_toArray, List.map_cons, List.map_nil]); first | done | rfl | (simp only [List.length_drop, List.length_take]; rfl)) ?_; (with_reducible refine (sandglassref01_Add.calls a0 a1 t111 _ A5.out).mono ?_); rintro e w' ⟨rfl, ⟨nd, rfl⟩⟩; refine ⟨_, rfl, ?_⟩) | (go_at_call 11; (with_reducible refine (sat_Sub.calls a0 a1 t112 _ A7.out).mono ?_); rintro e w' ⟨rfl, ⟨nd, rfl⟩⟩) | (go_at_call 12; (with_reducible refine (sandglassref01_Sub.calls a0 a1 t113 _ A8.out).mono ?_); rintro e w' ⟨rfl, ⟨nd, rfl⟩⟩) | (go_at_call 13; (with_reducible refine (sat_Mul.calls a0 a1 t114 _ A10.out).mono ?_); rintro e w' ⟨rfl, ⟨nd, rfl⟩⟩) | (go_at_call 14; (with_reducible refine (sandglassref01_Mul.calls a0 a1 t115 _ A11.out).mono ?_); rintro e w' ⟨rfl, ⟨nd, rfl⟩⟩) | (go_at_call 15; (with_reducible refine (sat_Down.calls a0 a1 a2 t116 _ A13.out).mono ?_); rintro e w' ⟨rfl, ⟨nd, rfl⟩⟩) | (go_at_call 16; (with_reducible refine (sandglassref01_Down.calls a0 a1 a2 t117 _ A14.out).mono ?_); rintro e w' ⟨rfl, ⟨nd, rfl⟩⟩))
          go_ret
          exact ⟨by first | rfl | (simp; done) | (simp [*]; done), by repeat (first | exact Drawn0.refl _ | apply Drawn0.step)⟩
      · rw [if_neg c12] at H
        have c12b0 : (t114 == t115) = false := beq_eq_false_iff_ne.mpr c12
        have c12b1 : (t114 != t115) = true := bne_iff_ne.mpr c12
        obtain rfl := Option.some.inj H
        go_enter Try.func3, Try.ntmps3
        go_wp2_with (first | ((with_reducible refine gate_callee (f := 9) rfl ?_); refine goesL_ (some 9) rfl rfl Try.func9 (by kernel_rfl) rfl #[.int .u64 a0, .int .u64 a1] rfl (by (try simp only [List.map_toArray, List.map_cons, List.map_nil]); first | done | rfl | (simp only [List.length_drop, List.length_take]; rfl)) ?_; (with_reducible refine (sat_Add.calls a0 a1 t110 _ A4.out).mono ?_); rintro e w' ⟨rfl, ⟨nd, rfl⟩⟩; refine ⟨_, rfl, ?_⟩) | ((with_reducible refine gate_callee (f := 10) rfl ?_); refine goesL_ (some 12) rfl rfl Try.func10 (by kernel_rfl) rfl #[.int .u64 a0, .int .u64 a1] rfl (by (try simp only [List.map_toArray, List.map_cons, List.map_nil]); first | done | rfl | (simp only [List.length_drop, List.length_take]; rfl)) ?_; (with_reducible refine (sandglassref01_Add.calls a0 a1 t111 _ A5.out).mono ?_); rintro e w' ⟨rfl, ⟨nd, rfl⟩⟩; refine ⟨_, rfl, ?_⟩) | (go_at_call 11; (with_reducible refine (sat_Sub.calls a0 a1 t112 _ A7.out).mono ?_); rintro e w' ⟨rfl, ⟨nd, rfl⟩⟩) | (go_at_call 12; (with_reducible refine (sandglassref01_Sub.calls a0 a1 t113 _ A8.out).mono ?_); rintro e w' ⟨rfl, ⟨nd, rfl⟩⟩) | (go_at_call 13; (with_reducible refine (sat_Mul.calls a0 a1 t114 _ A10.out).mono ?_); rintro e w' ⟨rfl, ⟨nd, rfl⟩⟩) | (go_at_call 14; (with_reducible refine (sandglassref01_Mul.calls a0 a1 t115 _ A11.out).mono ?_); rintro e w' ⟨rfl, ⟨nd, rfl⟩⟩))
        go_ret
        exact ⟨by first | rfl | (simp; done) | (simp [*]; done), by repeat (first | exact Drawn0.refl _ | apply Drawn0.step)⟩
    · rw [if_neg c9] at H
      have c9b0 : (t112 == t113) = false := beq_eq_false_iff_ne.mpr c9
      have c9b1 : (t112 != t113) = true := bne_iff_ne.mpr c9
      obtain rfl := Option.some.inj H
      go_enter Try.func3, Try.ntmps3
      go_wp2_with (first | ((with_reducible refine gate_callee (f := 9) rfl ?_); refine goesL_ (some 9) rfl rfl Try.func9 (by kernel_rfl) rfl #[.int .u64 a0, .int .u64 a1] rfl (by (try simp only [List.map_toArray, List.map_cons, List.map_nil]); first | done | rfl | (simp only [List.length_drop, List.length_take]; rfl)) ?_; (with_reducible refine (sat_Add.calls a0 a1 t110 _ A4.out).mono ?_); rintro e w' ⟨rfl, ⟨nd, rfl⟩⟩; refine ⟨_, rfl, ?_⟩) | ((with_reducible refine gate_callee (f := 10) rfl ?_); refine goesL_ (some 12) rfl rfl Try.func10 (by kernel_rfl) rfl #[.int .u64 a0, .int .u64 a1] rfl (by (try simp only [List.map_toArray, List.map_cons, List.map_nil]); first | done | rfl | (simp only [List.length_drop, List.length_take]; rfl)) ?_; (with_reducible refine (sandglassref01_Add.calls a0 a1 t111 _ A5.out).mono ?_); rintro e w' ⟨rfl, ⟨nd, rfl⟩⟩; refine ⟨_, rfl, ?_⟩) | (go_at_call 11; (with_reducible refine (sat_Sub.calls a0 a1 t112 _ A7.out).mono ?_); rintro e w' ⟨rfl, ⟨nd, rfl⟩⟩) | (go_at_call 12; (with_reducible refine (sandglassref01_Sub.calls a0 a1 t113 _ A8.out).mono ?_); rintro e w' ⟨rfl, ⟨nd, rfl⟩⟩))
      go_ret
      exact ⟨by first | rfl | (simp; done) | (simp [*]; done), by repeat (first | exact Drawn0.refl _ | apply Drawn0.step)⟩
  · rw [if_neg c6] at H
    have c6b0 : (t110 == t111) = false := beq_eq_false_iff_ne.mpr c6
    have c6b1 : (t110 != t111) = true := bne_iff_ne.mpr c6
    obtain rfl := Option.some.inj H
    go_enter Try.func3, Try.ntmps3
    go_wp2_with (first | ((with_reducible refine gate_callee (f := 9) rfl ?_); refine goesL_ (some 9) rfl rfl Try.func9 (by kernel_rfl) rfl #[.int .u64 a0, .int .u64 a1] rfl (by (try simp only [List.map_toArray, List.map_cons, List.map_nil]); first | done | rfl | (simp only [List.length_drop, List.length_take]; rfl)) ?_; (with_reducible refine (sat_Add.calls a0 a1 t110 _ A4.out).mono ?_); rintro e w' ⟨rfl, ⟨nd, rfl⟩⟩; refine ⟨_, rfl, ?_⟩) | ((with_reducible refine gate_callee (f := 10) rfl ?_); refine goesL_ (some 12) rfl rfl Try.func10 (by kernel_rfl) rfl #[.int .u64 a0, .int .u64 a1] rfl (by (try simp only [List.map_toArray, List.map_cons, List.map_nil]); first | done | rfl | (simp only [List.length_drop, List.length_take]; rfl)) ?_; (with_reducible refine (sandglassref01_Add.calls a0 a1 t111 _ A5.out).mono ?_); rintro e w' ⟨rfl, ⟨nd, rfl⟩⟩; refine ⟨_, rfl, ?_⟩))
    go_ret
    exact ⟨by first | rfl | (simp; done) | (simp [*]; done), by repeat (first | exact Drawn0.refl _ | apply Drawn0.step)⟩

/-- THE ONE PURE STATEMENT of sandglasslaw01_SatTells: yours. -/
def sandglasslaw01_SatTells.Pure : Prop := ∀ (a0 : Int) (a1 : Int) (a2 : Int), (Lit.int .u64 a0).wf = true → (Lit.int .u64 a1).wf = true → (Lit.int .u64 a2).wf = true → sandglasslaw01_SatTells.f a0 a1 a2 = some true
theorem sandglasslaw01_SatTells.walk (P : sandglasslaw01_SatTells.Pure) (a0 : Int) (a1 : Int) (a2 : Int) (w : World) (w0 : (Lit.int .u64 a0).wf = true) (w1 : (Lit.int .u64 a1).wf = true) (w2 : (Lit.int .u64 a2).wf = true) :
    Calls Try.prog 3 #[.int .u64 a0, .int .u64 a1, .int .u64 a2] w fun e w' => e = .returned (.bool true) ∧ Below w.heap.size w w' := by
  have h := P a0 a1 a2 w0 w1 w2
  refine (sandglasslaw01_SatTells.calls a0 a1 a2 true w h).mono ?_
  rintro e w' ⟨rfl, hd⟩
  exact ⟨rfl, hd.below⟩

end Go.Proofs.Ytihnjbpjikekpaa.PTel
