/- One text of a proof that a law answers true for every input. No condition. Printed by p2.py (wip/tools of this repo), which drives the print of the kit; Lean checks it. -/
import Derived.Test.YtihnjbpjikekpabPLaw2x0
namespace Go.Proofs.Ytihnjbpjikekpab.PLaw2
open Go.RowKit Go.Proofs.Ytihnjbpjikekpab.Ext Go.Proofs.YtihnjbpjikekpabW.PrintWords Go.Proofs.YtihnjbpjikekpabW.PrintLast Go.Proofs.YtihnjbpjikekpabW.PrintMore
attribute [local go_sem] max2_int min2_int max_two min_two max_three min_three max_four min_four   -- for this text's walks alone
set_option linter.unusedVariables false
set_option linter.unusedSimpArgs false

/-! ### sandglasslaw02_awake: function 19 -/
def sandglasslaw02_awake.f  : Option (Bool) := (span_Time.f 1500 1000).bind fun t101 => (if t101 = 1500000000 then ((span_Time.f 1 3).bind fun t102 => (if t102 = 333333334 then ((span_Time.f 5 0).bind fun t103 => (if t103 = 0 then ((span_Bytes.f 333333333 3).bind fun t104 => (if t104 = 0 then ((span_Bytes.f 333333334 3).bind fun t105 => (if t105 = 1 then ((span_Lesser.f 0 7).bind fun t106 => (if t106 = 7 then ((span_Slot.f 10 4).bind fun t107 => (if t107 = 3 then ((span_Slot.f 8 4).bind fun t108 => (if t108 = 2 then ((span_Begin.f 3 4).bind fun t109 => (some (t109 == 12))) else (some false))) else (some false))) else (some false))) else (some false))) else (some false))) else (some false))) else (some false))) else (some false))
set_option maxHeartbeats 8000000 in
set_option maxRecDepth 100000 in
theorem sandglasslaw02_awake.calls  (r : Bool) (w : World) (h : sandglasslaw02_awake.f  = some r) :
    Calls Try.prog 19 #[] w fun e w' => e = .returned (.bool r) ∧ Drawn0 w w' := by
  have H : ((span_Time.f 1500 1000).bind fun t101 => (if t101 = 1500000000 then ((span_Time.f 1 3).bind fun t102 => (if t102 = 333333334 then ((span_Time.f 5 0).bind fun t103 => (if t103 = 0 then ((span_Bytes.f 333333333 3).bind fun t104 => (if t104 = 0 then ((span_Bytes.f 333333334 3).bind fun t105 => (if t105 = 1 then ((span_Lesser.f 0 7).bind fun t106 => (if t106 = 7 then ((span_Slot.f 10 4).bind fun t107 => (if t107 = 3 then ((span_Slot.f 8 4).bind fun t108 => (if t108 = 2 then ((span_Begin.f 3 4).bind fun t109 => (some (t109 == 12))) else (some false))) else (some false))) else (some false))) else (some false))) else (some false))) else (some false))) else (some false))) else (some false))) = some r := h
  clear h
  replace H := Option.bind_eq_some_iff.mp H
  obtain ⟨t101, A10, H⟩ := H
  replace H : (if t101 = 1500000000 then ((span_Time.f 1 3).bind fun t102 => (if t102 = 333333334 then ((span_Time.f 5 0).bind fun t103 => (if t103 = 0 then ((span_Bytes.f 333333333 3).bind fun t104 => (if t104 = 0 then ((span_Bytes.f 333333334 3).bind fun t105 => (if t105 = 1 then ((span_Lesser.f 0 7).bind fun t106 => (if t106 = 7 then ((span_Slot.f 10 4).bind fun t107 => (if t107 = 3 then ((span_Slot.f 8 4).bind fun t108 => (if t108 = 2 then ((span_Begin.f 3 4).bind fun t109 => (some (t109 == 12))) else (some false))) else (some false))) else (some false))) else (some false))) else (some false))) else (some false))) else (some false))) else (some false)) = some r := H
  have A1 := Aside0.mk A10
  clear A10
  by_cases c2 : t101 = 1500000000
  · rw [if_pos c2] at H
    have c2b0 : (t101 == 1500000000) = true := beq_iff_eq.mpr c2
    have c2b1 : (t101 != 1500000000) = false := bne_eq_false_iff_eq.mpr c2
    clear c2
    replace H := Option.bind_eq_some_iff.mp H
    obtain ⟨t102, A30, H⟩ := H
    replace H : (if t102 = 333333334 then ((span_Time.f 5 0).bind fun t103 => (if t103 = 0 then ((span_Bytes.f 333333333 3).bind fun t104 => (if t104 = 0 then ((span_Bytes.f 333333334 3).bind fun t105 => (if t105 = 1 then ((span_Lesser.f 0 7).bind fun t106 => (if t106 = 7 then ((span_Slot.f 10 4).bind fun t107 => (if t107 = 3 then ((span_Slot.f 8 4).bind fun t108 => (if t108 = 2 then ((span_Begin.f 3 4).bind fun t109 => (some (t109 == 12))) else (some false))) else (some false))) else (some false))) else (some false))) else (some false))) else (some false))) else (some false)) = some r := H
    have A3 := Aside0.mk A30
    clear A30
    by_cases c4 : t102 = 333333334
    · rw [if_pos c4] at H
      have c4b0 : (t102 == 333333334) = true := beq_iff_eq.mpr c4
      have c4b1 : (t102 != 333333334) = false := bne_eq_false_iff_eq.mpr c4
      clear c4
      replace H := Option.bind_eq_some_iff.mp H
      obtain ⟨t103, A50, H⟩ := H
      replace H : (if t103 = 0 then ((span_Bytes.f 333333333 3).bind fun t104 => (if t104 = 0 then ((span_Bytes.f 333333334 3).bind fun t105 => (if t105 = 1 then ((span_Lesser.f 0 7).bind fun t106 => (if t106 = 7 then ((span_Slot.f 10 4).bind fun t107 => (if t107 = 3 then ((span_Slot.f 8 4).bind fun t108 => (if t108 = 2 then ((span_Begin.f 3 4).bind fun t109 => (some (t109 == 12))) else (some false))) else (some false))) else (some false))) else (some false))) else (some false))) else (some false)) = some r := H
      have A5 := Aside0.mk A50
      clear A50
      by_cases c6 : t103 = 0
      · rw [if_pos c6] at H
        have c6b0 : (t103 == 0) = true := beq_iff_eq.mpr c6
        have c6b1 : (t103 != 0) = false := bne_eq_false_iff_eq.mpr c6
        clear c6
        replace H := Option.bind_eq_some_iff.mp H
        obtain ⟨t104, A70, H⟩ := H
        replace H : (if t104 = 0 then ((span_Bytes.f 333333334 3).bind fun t105 => (if t105 = 1 then ((span_Lesser.f 0 7).bind fun t106 => (if t106 = 7 then ((span_Slot.f 10 4).bind fun t107 => (if t107 = 3 then ((span_Slot.f 8 4).bind fun t108 => (if t108 = 2 then ((span_Begin.f 3 4).bind fun t109 => (some (t109 == 12))) else (some false))) else (some false))) else (some false))) else (some false))) else (some false)) = some r := H
        have A7 := Aside0.mk A70
        clear A70
        by_cases c8 : t104 = 0
        · rw [if_pos c8] at H
          have c8b0 : (t104 == 0) = true := beq_iff_eq.mpr c8
          have c8b1 : (t104 != 0) = false := bne_eq_false_iff_eq.mpr c8
          clear c8
          replace H := Option.bind_eq_some_iff.mp H
          obtain ⟨t105, A90, H⟩ := H
          replace H : (if t105 = 1 then ((span_Lesser.f 0 7).bind fun t106 => (if t106 = 7 then ((span_Slot.f 10 4).bind fun t107 => (if t107 = 3 then ((span_Slot.f 8 4).bind fun t108 => (if t108 = 2 then ((span_Begin.f 3 4).bind fun t109 => (some (t109 == 12))) else (some false))) else (some false))) else (some false))) else (some false)) = some r := H
          have A9 := Aside0.mk A90
          clear A90
          by_cases c10 : t105 = 1
          · rw [if_pos c10] at H
            have c10b0 : (t105 == 1) = true := beq_iff_eq.mpr c10
            have c10b1 : (t105 != 1) = false := bne_eq_false_iff_eq.mpr c10
            clear c10
            replace H := Option.bind_eq_some_iff.mp H
            obtain ⟨t106, A110, H⟩ := H
            replace H : (if t106 = 7 then ((span_Slot.f 10 4).bind fun t107 => (if t107 = 3 then ((span_Slot.f 8 4).bind fun t108 => (if t108 = 2 then ((span_Begin.f 3 4).bind fun t109 => (some (t109 == 12))) else (some false))) else (some false))) else (some false)) = some r := H
            have A11 := Aside0.mk A110
            clear A110
            by_cases c12 : t106 = 7
            · rw [if_pos c12] at H
              have c12b0 : (t106 == 7) = true := beq_iff_eq.mpr c12
              have c12b1 : (t106 != 7) = false := bne_eq_false_iff_eq.mpr c12
              clear c12
              replace H := Option.bind_eq_some_iff.mp H
              obtain ⟨t107, A130, H⟩ := H
              replace H : (if t107 = 3 then ((span_Slot.f 8 4).bind fun t108 => (if t108 = 2 then ((span_Begin.f 3 4).bind fun t109 => (some (t109 == 12))) else (some false))) else (some false)) = some r := H
              have A13 := Aside0.mk A130
              clear A130
              by_cases c14 : t107 = 3
              · rw [if_pos c14] at H
                have c14b0 : (t107 == 3) = true := beq_iff_eq.mpr c14
                have c14b1 : (t107 != 3) = false := bne_eq_false_iff_eq.mpr c14
                clear c14
                replace H := Option.bind_eq_some_iff.mp H
                obtain ⟨t108, A150, H⟩ := H
                replace H : (if t108 = 2 then ((span_Begin.f 3 4).bind fun t109 => (some (t109 == 12))) else (some false)) = some r := H
                have A15 := Aside0.mk A150
                clear A150
                by_cases c16 : t108 = 2
                · rw [if_pos c16] at H
                  have c16b0 : (t108 == 2) = true := beq_iff_eq.mpr c16
                  have c16b1 : (t108 != 2) = false := bne_eq_false_iff_eq.mpr c16
                  clear c16
                  replace H := Option.bind_eq_some_iff.mp H
                  obtain ⟨t109, A170, H⟩ := H
                  replace H : (some (t109 == 12)) = some r := H
                  have A17 := Aside0.mk A170
                  clear A170
                  obtain rfl := Option.some.inj H
                  go_enter Try.func19, Try.ntmps19
                  go_wp2_with (first | ((with_reducible refine gate_callee (f := 9) rfl ?_); refine goesL_ (some 1) rfl rfl Try.func9 (by kernel_rfl) rfl #[.int .u64 1500, .int .u64 1000] rfl (by (try simp only [List.map_toArray, List.map_cons, List.map_nil]); first | done | rfl | (simp only [List.length_drop, List.length_take]; rfl)) ?_; (with_reducible refine (span_Time.calls 1500 1000 t101 _ A1.out).mono ?_); rintro e w' ⟨rfl, ⟨nd, rfl⟩⟩; refine ⟨_, rfl, ?_⟩) | (go_at_call 9; (with_reducible refine (span_Time.calls 1 3 t102 _ A3.out).mono ?_); rintro e w' ⟨rfl, ⟨nd, rfl⟩⟩) | (go_at_call 9; (with_reducible refine (span_Time.calls 5 0 t103 _ A5.out).mono ?_); rintro e w' ⟨rfl, ⟨nd, rfl⟩⟩) | (go_at_call 11; (with_reducible refine (span_Bytes.calls 333333333 3 t104 _ A7.out).mono ?_); rintro e w' ⟨rfl, ⟨nd, rfl⟩⟩) | (go_at_call 11; (with_reducible refine (span_Bytes.calls 333333334 3 t105 _ A9.out).mono ?_); rintro e w' ⟨rfl, ⟨nd, rfl⟩⟩) | (go_at_call 13; (with_reducible refine (span_Lesser.calls 0 7 t106 _ A11.out).mono ?_); rintro e w' ⟨rfl, ⟨nd, rfl⟩⟩) | (go_at_call 15; (with_reducible refine (span_Slot.calls 10 4 t107 _ A13.out).mono ?_); rintro e w' ⟨rfl, ⟨nd, rfl⟩⟩) | (go_at_call 15; (with_reducible refine (span_Slot.calls 8 4 t108 _ A15.out).mono ?_); rintro e w' ⟨rfl, ⟨nd, rfl⟩⟩) | (go_at_call 17; (with_reducible refine (span_Begin.calls 3 4 t109 _ A17.out).mono ?_); rintro e w' ⟨rfl, ⟨nd, rfl⟩⟩))
                  go_ret
                  exact ⟨by first | rfl | (simp; done) | (simp [*]; done), by repeat (first | exact Drawn0.refl _ | apply Drawn0.step)⟩
                · rw [if_neg c16] at H
                  have c16b0 : (t108 == 2) = false := beq_eq_false_iff_ne.mpr c16
                  have c16b1 : (t108 != 2) = true := bne_iff_ne.mpr c16
                  obtain rfl := Option.some.inj H
                  go_enter Try.func19, Try.ntmps19
                  go_wp2_with (first | ((with_reducible refine gate_callee (f := 9) rfl ?_); refine goesL_ (some 1) rfl rfl Try.func9 (by kernel_rfl) rfl #[.int .u64 1500, .int .u64 1000] rfl (by (try simp only [List.map_toArray, List.map_cons, List.map_nil]); first | done | rfl | (simp only [List.length_drop, List.length_take]; rfl)) ?_; (with_reducible refine (span_Time.calls 1500 1000 t101 _ A1.out).mono ?_); rintro e w' ⟨rfl, ⟨nd, rfl⟩⟩; refine ⟨_, rfl, ?_⟩) | (go_at_call 9; (with_reducible refine (span_Time.calls 1 3 t102 _ A3.out).mono ?_); rintro e w' ⟨rfl, ⟨nd, rfl⟩⟩) | (go_at_call 9; (with_reducible refine (span_Time.calls 5 0 t103 _ A5.out).mono ?_); rintro e w' ⟨rfl, ⟨nd, rfl⟩⟩) | (go_at_call 11; (with_reducible refine (span_Bytes.calls 333333333 3 t104 _ A7.out).mono ?_); rintro e w' ⟨rfl, ⟨nd, rfl⟩⟩) | (go_at_call 11; (with_reducible refine (span_Bytes.calls 333333334 3 t105 _ A9.out).mono ?_); rintro e w' ⟨rfl, ⟨nd, rfl⟩⟩) | (go_at_call 13; (with_reducible refine (span_Lesser.calls 0 7 t106 _ A11.out).mono ?_); rintro e w' ⟨rfl, ⟨nd, rfl⟩⟩) | (go_at_call 15; (with_reducible refine (span_Slot.calls 10 4 t107 _ A13.out).mono ?_); rintro e w' ⟨rfl, ⟨nd, rfl⟩⟩) | (go_at_call 15; (with_reducible refine (span_Slot.calls 8 4 t108 _ A15.out).mono ?_); rintro e w' ⟨rfl, ⟨nd, rfl⟩⟩))
                  go_ret
                  exact ⟨by first | rfl | (simp; done) | (simp [*]; done), by repeat (first | exact Drawn0.refl _ | apply Drawn0.step)⟩
              · rw [if_neg c14] at H
                have c14b0 : (t107 == 3) = false := beq_eq_false_iff_ne.mpr c14
                have c14b1 : (t107 != 3) = true := bne_iff_ne.mpr c14
                obtain rfl := Option.some.inj H
                go_enter Try.func19, Try.ntmps19
                go_wp2_with (first | ((with_reducible refine gate_callee (f := 9) rfl ?_); refine goesL_ (some 1) rfl rfl Try.func9 (by kernel_rfl) rfl #[.int .u64 1500, .int .u64 1000] rfl (by (try simp only [List.map_toArray, List.map_cons, List.map_nil]); first | done | rfl | (simp only [List.length_drop, List.length_take]; rfl)) ?_; (with_reducible refine (span_Time.calls 1500 1000 t101 _ A1.out).mono ?_); rintro e w' ⟨rfl, ⟨nd, rfl⟩⟩; refine ⟨_, rfl, ?_⟩) | (go_at_call 9; (with_reducible refine (span_Time.calls 1 3 t102 _ A3.out).mono ?_); rintro e w' ⟨rfl, ⟨nd, rfl⟩⟩) | (go_at_call 9; (with_reducible refine (span_Time.calls 5 0 t103 _ A5.out).mono ?_); rintro e w' ⟨rfl, ⟨nd, rfl⟩⟩) | (go_at_call 11; (with_reducible refine (span_Bytes.calls 333333333 3 t104 _ A7.out).mono ?_); rintro e w' ⟨rfl, ⟨nd, rfl⟩⟩) | (go_at_call 11; (with_reducible refine (span_Bytes.calls 333333334 3 t105 _ A9.out).mono ?_); rintro e w' ⟨rfl, ⟨nd, rfl⟩⟩) | (go_at_call 13; (with_reducible refine (span_Lesser.calls 0 7 t106 _ A11.out).mono ?_); rintro e w' ⟨rfl, ⟨nd, rfl⟩⟩) | (go_at_call 15; (with_reducible refine (span_Slot.calls 10 4 t107 _ A13.out).mono ?_); rintro e w' ⟨rfl, ⟨nd, rfl⟩⟩))
                go_ret
                exact ⟨by first | rfl | (simp; done) | (simp [*]; done), by repeat (first | exact Drawn0.refl _ | apply Drawn0.step)⟩
            · rw [if_neg c12] at H
              have c12b0 : (t106 == 7) = false := beq_eq_false_iff_ne.mpr c12
              have c12b1 : (t106 != 7) = true := bne_iff_ne.mpr c12
              obtain rfl := Option.some.inj H
              go_enter Try.func19, Try.ntmps19
              go_wp2_with (first | ((with_reducible refine gate_callee (f := 9) rfl ?_); refine goesL_ (some 1) rfl rfl Try.func9 (by kernel_rfl) rfl #[.int .u64 1500, .int .u64 1000] rfl (by (try simp only [List.map_toArray, List.map_cons, List.map_nil]); first | done | rfl | (simp only [List.length_drop, List.length_take]; rfl)) ?_; (with_reducible refine (span_Time.calls 1500 1000 t101 _ A1.out).mono ?_); rintro e w' ⟨rfl, ⟨nd, rfl⟩⟩; refine ⟨_, rfl, ?_⟩) | (go_at_call 9; (with_reducible refine (span_Time.calls 1 3 t102 _ A3.out).mono ?_); rintro e w' ⟨rfl, ⟨nd, rfl⟩⟩) | (go_at_call 9; (with_reducible refine (span_Time.calls 5 0 t103 _ A5.out).mono ?_); rintro e w' ⟨rfl, ⟨nd, rfl⟩⟩) | (go_at_call 11; (with_reducible refine (span_Bytes.calls 333333333 3 t104 _ A7.out).mono ?_); rintro e w' ⟨rfl, ⟨nd, rfl⟩⟩) | (go_at_call 11; (with_reducible refine (span_Bytes.calls 333333334 3 t105 _ A9.out).mono ?_); rintro e w' ⟨rfl, ⟨nd, rfl⟩⟩) | (go_at_call 13; (with_reducible refine (span_Lesser.calls 0 7 t106 _ A11.out).mono ?_); rintro e w' ⟨rfl, ⟨nd, rfl⟩⟩))
              go_ret
              exact ⟨by first | rfl | (simp; done) | (simp [*]; done), by repeat (first | exact Drawn0.refl _ | apply Drawn0.step)⟩
          · rw [if_neg c10] at H
            have c10b0 : (t105 == 1) = false := beq_eq_false_iff_ne.mpr c10
            have c10b1 : (t105 != 1) = true := bne_iff_ne.mpr c10
            obtain rfl := Option.some.inj H
            go_enter Try.func19, Try.ntmps19
            go_wp2_with (first | ((with_reducible refine gate_callee (f := 9) rfl ?_); refine goesL_ (some 1) rfl rfl Try.func9 (by kernel_rfl) rfl #[.int .u64 1500, .int .u64 1000] rfl (by (try simp only [List.map_toArray, List.map_cons, List.map_nil]); first | done | rfl | (simp only [List.length_drop, List.length_take]; rfl)) ?_; (with_reducible refine (span_Time.calls 1500 1000 t101 _ A1.out).mono ?_); rintro e w' ⟨rfl, ⟨nd, rfl⟩⟩; refine ⟨_, rfl, ?_⟩) | (go_at_call 9; (with_reducible refine (span_Time.calls 1 3 t102 _ A3.out).mono ?_); rintro e w' ⟨rfl, ⟨nd, rfl⟩⟩) | (go_at_call 9; (with_reducible refine (span_Time.calls 5 0 t103 _ A5.out).mono ?_); rintro e w' ⟨rfl, ⟨nd, rfl⟩⟩) | (go_at_call 11; (with_reducible refine (span_Bytes.calls 333333333 3 t104 _ A7.out).mono ?_); rintro e w' ⟨rfl, ⟨nd, rfl⟩⟩) | (go_at_call 11; (with_reducible refine (span_Bytes.calls 333333334 3 t105 _ A9.out).mono ?_); rintro e w' ⟨rfl, ⟨nd, rfl⟩⟩))
            go_ret
            exact ⟨by first | rfl | (simp; done) | (simp [*]; done), by repeat (first | exact Drawn0.refl _ | apply Drawn0.step)⟩
        · rw [if_neg c8] at H
          have c8b0 : (t104 == 0) = false := beq_eq_false_iff_ne.mpr c8
          have c8b1 : (t104 != 0) = true := bne_iff_ne.mpr c8
          obtain rfl := Option.some.inj H
          go_enter Try.func19, Try.ntmps19
          go_wp2_with (first | ((with_reducible refine gate_callee (f := 9) rfl ?_); refine goesL_ (some 1) rfl rfl Try.func9 (by kernel_rfl) rfl #[.int .u64 1500, .int .u64 1000] rfl (by (try simp only [List.map_toArray, List.map_cons, List.map_nil]); first | done | rfl | (simp only [List.length_drop, List.length_take]; rfl)) ?_; (with_reducible refine (span_Time.calls 1500 1000 t101 _ A1.out).mono ?_); rintro e w' ⟨rfl, ⟨nd, rfl⟩⟩; refine ⟨_, rfl, ?_⟩) | (go_at_call 9; (with_reducible refine (span_Time.calls 1 3 t102 _ A3.out).mono ?_); rintro e w' ⟨rfl, ⟨nd, rfl⟩⟩) | (go_at_call 9; (with_reducible refine (span_Time.calls 5 0 t103 _ A5.out).mono ?_); rintro e w' ⟨rfl, ⟨nd, rfl⟩⟩) | (go_at_call 11; (with_reducible refine (span_Bytes.calls 333333333 3 t104 _ A7.out).mono ?_); rintro e w' ⟨rfl, ⟨nd, rfl⟩⟩))
          go_ret
          exact ⟨by first | rfl | (simp; done) | (simp [*]; done), by repeat (first | exact Drawn0.refl _ | apply Drawn0.step)⟩
      · rw [if_neg c6] at H
        have c6b0 : (t103 == 0) = false := beq_eq_false_iff_ne.mpr c6
        have c6b1 : (t103 != 0) = true := bne_iff_ne.mpr c6
        obtain rfl := Option.some.inj H
        go_enter Try.func19, Try.ntmps19
        go_wp2_with (first | ((with_reducible refine gate_callee (f := 9) rfl ?_); refine goesL_ (some 1) rfl rfl Try.func9 (by kernel_rfl) rfl #[.int .u64 1500, .int .u64 1000] rfl (by (try simp only [List.map_toArray, List.map_cons, List.map_nil]); first | done | rfl | (simp only [List.length_drop, List.length_take]; rfl)) ?_; (with_reducible refine (span_Time.calls 1500 1000 t101 _ A1.out).mono ?_); rintro e w' ⟨rfl, ⟨nd, rfl⟩⟩; refine ⟨_, rfl, ?_⟩) | (go_at_call 9; (with_reducible refine (span_Time.calls 1 3 t102 _ A3.out).mono ?_); rintro e w' ⟨rfl, ⟨nd, rfl⟩⟩) | (go_at_call 9; (with_reducible refine (span_Time.calls 5 0 t103 _ A5.out).mono ?_); rintro e w' ⟨rfl, ⟨nd, rfl⟩⟩))
        go_ret
        exact ⟨by first | rfl | (simp; done) | (simp [*]; done), by repeat (first | exact Drawn0.refl _ | apply Drawn0.step)⟩
    · rw [if_neg c4] at H
      have c4b0 : (t102 == 333333334) = false := beq_eq_false_iff_ne.mpr c4
      have c4b1 : (t102 != 333333334) = true := bne_iff_ne.mpr c4
      obtain rfl := Option.some.inj H
      go_enter Try.func19, Try.ntmps19
      go_wp2_with (first | ((with_reducible refine gate_callee (f := 9) rfl ?_); refine goesL_ (some 1) rfl rfl Try.func9 (by kernel_rfl) rfl #[.int .u64 1500, .int .u64 1000] rfl (by (try simp only [List.map_toArray, List.map_cons, List.map_nil]); first | done | rfl | (simp only [List.length_drop, List.length_take]; rfl)) ?_; (with_reducible refine (span_Time.calls 1500 1000 t101 _ A1.out).mono ?_); rintro e w' ⟨rfl, ⟨nd, rfl⟩⟩; refine ⟨_, rfl, ?_⟩) | (go_at_call 9; (with_reducible refine (span_Time.calls 1 3 t102 _ A3.out).mono ?_); rintro e w' ⟨rfl, ⟨nd, rfl⟩⟩))
      go_ret
      exact ⟨by first | rfl | (simp; done) | (simp [*]; done), by repeat (first | exact Drawn0.refl _ | apply Drawn0.step)⟩
  · rw [if_neg c2] at H
    have c2b0 : (t101 == 1500000000) = false := beq_eq_false_iff_ne.mpr c2
    have c2b1 : (t101 != 1500000000) = true := bne_iff_ne.mpr c2
    obtain rfl := Option.some.inj H
    go_enter Try.func19, Try.ntmps19
    go_wp2_with (first | ((with_reducible refine gate_callee (f := 9) rfl ?_); refine goesL_ (some 1) rfl rfl Try.func9 (by kernel_rfl) rfl #[.int .u64 1500, .int .u64 1000] rfl (by (try simp only [List.map_toArray, List.map_cons, List.map_nil]); first | done | rfl | (simp only [List.length_drop, List.length_take]; rfl)) ?_; (with_reducible refine (span_Time.calls 1500 1000 t101 _ A1.out).mono ?_); rintro e w' ⟨rfl, ⟨nd, rfl⟩⟩; refine ⟨_, rfl, ?_⟩))
    go_ret
    exact ⟨by first | rfl | (simp; done) | (simp [*]; done), by repeat (first | exact Drawn0.refl _ | apply Drawn0.step)⟩

/-! ### sandglasslaw02_SpanParts: function 6 -/
def sandglasslaw02_SpanParts.j0 : Nat → Int → Int → Int → Bool → Option (Bool)
  | 0, _, _, _, _ => none
  | k + 1, x0, x1, x2, x43 => if x43 = true then (some false) else ((span_Time.f x0 x2).bind fun t116 => ((span_Time.f x1 x2).bind fun t117 => ((span_Time.f (IntKind.u64.wrap (x0 + x1)) x2).bind fun t118 => ((sat_Add.f t116 t117).bind fun t119 => (if t118 ≤ t119 then (if t118 = 18446744073709551615 then ((sandglasslaw02_awake.f).bind fun t120 => (some t120)) else ((sat_Add.f t116 t117).bind fun t121 => ((sat_Add.f t118 1).bind fun t122 => (if t121 ≤ t122 then ((sandglasslaw02_awake.f).bind fun t123 => (some t123)) else (some false))))) else (some false))))))
def sandglasslaw02_SpanParts.f (k : Nat) (a0 : Int) (a1 : Int) (a2 : Int) : Option (Bool) := (span_Bytes.f (Int.tmod a0 1099511627776) (IntKind.u64.wrap (1 + (Int.tmod a2 1099511627776)))).bind fun t110 => ((span_Bytes.f (Int.tmod a1 1099511627776) (IntKind.u64.wrap (1 + (Int.tmod a2 1099511627776)))).bind fun t111 => ((span_Bytes.f (IntKind.u64.wrap ((Int.tmod a0 1099511627776) + (Int.tmod a1 1099511627776))) (IntKind.u64.wrap (1 + (Int.tmod a2 1099511627776)))).bind fun t112 => ((sat_Add.f t110 t111).bind fun t113 => (if t112 < t113 then (sandglasslaw02_SpanParts.j0 k (Int.tmod a0 1099511627776) (Int.tmod a1 1099511627776) (IntKind.u64.wrap (1 + (Int.tmod a2 1099511627776))) true) else ((sat_Add.f t110 t111).bind fun t114 => ((sat_Add.f t114 1).bind fun t115 => (sandglasslaw02_SpanParts.j0 k (Int.tmod a0 1099511627776) (Int.tmod a1 1099511627776) (IntKind.u64.wrap (1 + (Int.tmod a2 1099511627776))) (decide (t112 > t115)))))))))
theorem sandglasslaw02_SpanParts.mono_l : ∀ k, (∀ y0 y1 y2 y3, LeO (sandglasslaw02_SpanParts.j0 k y0 y1 y2 y3) (sandglasslaw02_SpanParts.j0 (k + 1) y0 y1 y2 y3))
  | 0 => fun _ _ _ _ r h => by simp [sandglasslaw02_SpanParts.j0] at h
  | k + 1 => by
    have ih0 := sandglasslaw02_SpanParts.mono_l k
    · intro y0 y1 y2 y3
      unfold sandglasslaw02_SpanParts.j0
      repeat' first
      | (with_reducible exact ih0 _ _ _ _)
      | (with_reducible exact LeO.refl _)
      | (with_reducible exact LeO.none _)
      | (with_reducible refine LeO.ite ?_ ?_)
      | (with_reducible refine LeO.bind ?_ (fun _ => ?_))
      | exact ih0 _ _ _ _
      | exact LeO.none _
      | refine LeO.ite ?_ ?_
      | refine LeO.bind ?_ (fun _ => ?_)
theorem sandglasslaw02_SpanParts.mono : ∀ a0 a1 a2 k, LeO (sandglasslaw02_SpanParts.f k a0 a1 a2) (sandglasslaw02_SpanParts.f (k + 1) a0 a1 a2) := by
  intro a0 a1 a2 k
  have ih0 := sandglasslaw02_SpanParts.mono_l k
  unfold sandglasslaw02_SpanParts.f
  repeat' first
      | (with_reducible exact ih0 _ _ _ _)
      | (with_reducible exact LeO.refl _)
      | (with_reducible exact LeO.none _)
      | (with_reducible refine LeO.ite ?_ ?_)
      | (with_reducible refine LeO.bind ?_ (fun _ => ?_))
      | exact ih0 _ _ _ _
      | exact LeO.none _
      | refine LeO.ite ?_ ?_
      | refine LeO.bind ?_ (fun _ => ?_)
set_option maxHeartbeats 8000000 in
set_option maxRecDepth 100000 in
theorem sandglasslaw02_SpanParts.calls (k : Nat) (a0 : Int) (a1 : Int) (a2 : Int) (r : Bool) (w : World) (h : sandglasslaw02_SpanParts.f k a0 a1 a2 = some r) :
    Calls Try.prog 6 #[.int .u64 a0, .int .u64 a1, .int .u64 a2] w fun e w' => e = .returned (.bool r) ∧ Drawn0 w w' := by
  have H : ((span_Bytes.f (Int.tmod a0 1099511627776) (IntKind.u64.wrap (1 + (Int.tmod a2 1099511627776)))).bind fun t110 => ((span_Bytes.f (Int.tmod a1 1099511627776) (IntKind.u64.wrap (1 + (Int.tmod a2 1099511627776)))).bind fun t111 => ((span_Bytes.f (IntKind.u64.wrap ((Int.tmod a0 1099511627776) + (Int.tmod a1 1099511627776))) (IntKind.u64.wrap (1 + (Int.tmod a2 1099511627776)))).bind fun t112 => ((sat_Add.f t110 t111).bind fun t113 => (if t112 < t113 then (sandglasslaw02_SpanParts.j0 k (Int.tmod a0 1099511627776) (Int.tmod a1 1099511627776) (IntKind.u64.wrap (1 + (Int.tmod a2 1099511627776))) true) else ((sat_Add.f t110 t111).bind fun t114 => ((sat_Add.f t114 1).bind fun t115 => (sandglasslaw02_SpanParts.j0 k (Int.tmod a0 1099511627776) (Int.tmod a1 1099511627776) (IntKind.u64.wrap (1 + (Int.tmod a2 1099511627776))) (decide (t112 > t115)))))))))) = some r := h
  clear h
  replace H := Option.bind_eq_some_iff.mp H
  obtain ⟨t110, A40, H⟩ := H
  replace H : ((span_Bytes.f (Int.tmod a1 1099511627776) (IntKind.u64.wrap (1 + (Int.tmod a2 1099511627776)))).bind fun t111 => ((span_Bytes.f (IntKind.u64.wrap ((Int.tmod a0 1099511627776) + (Int.tmod a1 1099511627776))) (IntKind.u64.wrap (1 + (Int.tmod a2 1099511627776)))).bind fun t112 => ((sat_Add.f t110 t111).bind fun t113 => (if t112 < t113 then (sandglasslaw02_SpanParts.j0 k (Int.tmod a0 1099511627776) (Int.tmod a1 1099511627776) (IntKind.u64.wrap (1 + (Int.tmod a2 1099511627776))) true) else ((sat_Add.f t110 t111).bind fun t114 => ((sat_Add.f t114 1).bind fun t115 => (sandglasslaw02_SpanParts.j0 k (Int.tmod a0 1099511627776) (Int.tmod a1 1099511627776) (IntKind.u64.wrap (1 + (Int.tmod a2 1099511627776))) (decide (t112 > t115))))))))) = some r := H
  have A4 := Aside0.mk A40
  clear A40
  replace H := Option.bind_eq_some_iff.mp H
  obtain ⟨t111, A50, H⟩ := H
  replace H : ((span_Bytes.f (IntKind.u64.wrap ((Int.tmod a0 1099511627776) + (Int.tmod a1 1099511627776))) (IntKind.u64.wrap (1 + (Int.tmod a2 1099511627776)))).bind fun t112 => ((sat_Add.f t110 t111).bind fun t113 => (if t112 < t113 then (sandglasslaw02_SpanParts.j0 k (Int.tmod a0 1099511627776) (Int.tmod a1 1099511627776) (IntKind.u64.wrap (1 + (Int.tmod a2 1099511627776))) true) else ((sat_Add.f t110 t111).bind fun t114 => ((sat_Add.f t114 1).bind fun t115 => (sandglasslaw02_SpanParts.j0 k (Int.tmod a0 1099511627776) (Int.tmod a1 1099511627776) (IntKind.u64.wrap (1 + (Int.tmod a2 1099511627776))) (decide (t112 > t115)))))))) = some r := H
  have A5 := Aside0.mk A50
  clear A50
  replace H := Option.bind_eq_some_iff.mp H
  obtain ⟨t112, A60, H⟩ := H
  replace H : ((sat_Add.f t110 t111).bind fun t113 => (if t112 < t113 then (sandglasslaw02_SpanParts.j0 k (Int.tmod a0 1099511627776) (Int.tmod a1 1099511627776) (IntKind.u64.wrap (1 + (Int.tmod a2 1099511627776))) true) else ((sat_Add.f t110 t111).bind fun t114 => ((sat_Add.f t114 1).bind fun t115 => (sandglasslaw02_SpanParts.j0 k (Int.tmod a0 1099511627776) (Int.tmod a1 1099511627776) (IntKind.u64.wrap (1 + (Int.tmod a2 1099511627776))) (decide (t112 > t115))))))) = some r := H
  have A6 := Aside0.mk A60
  clear A60
  have HC7 := Aside0.mk H
  clear H
  go_enter Try.func6, Try.ntmps6
  go_upto_region 4 with (first | ((with_reducible refine gate_callee (f := 11) rfl ?_); refine goesL_ (some 22) rfl rfl Try.func11 (by kernel_rfl) rfl #[.int .u64 (Int.tmod a0 1099511627776), .int .u64 (IntKind.u64.wrap (1 + (Int.tmod a2 1099511627776)))] rfl (by (try simp only [List.map_toArray, List.map_cons, List.map_nil]); first | done | rfl | (simp only [List.length_drop, List.length_take]; rfl)) ?_; (with_reducible refine (span_Bytes.calls (Int.tmod a0 1099511627776) (IntKind.u64.wrap (1 + (Int.tmod a2 1099511627776))) t110 _ A4.out).mono ?_); rintro e w' ⟨rfl, ⟨nd, rfl⟩⟩; refine ⟨_, rfl, ?_⟩) | ((with_reducible refine gate_callee (f := 11) rfl ?_); refine goesL_ (some 25) rfl rfl Try.func11 (by kernel_rfl) rfl #[.int .u64 (Int.tmod a1 1099511627776), .int .u64 (IntKind.u64.wrap (1 + (Int.tmod a2 1099511627776)))] rfl (by (try simp only [List.map_toArray, List.map_cons, List.map_nil]); first | done | rfl | (simp only [List.length_drop, List.length_take]; rfl)) ?_; (with_reducible refine (span_Bytes.calls (Int.tmod a1 1099511627776) (IntKind.u64.wrap (1 + (Int.tmod a2 1099511627776))) t111 _ A5.out).mono ?_); rintro e w' ⟨rfl, ⟨nd, rfl⟩⟩; refine ⟨_, rfl, ?_⟩) | ((with_reducible refine gate_callee (f := 11) rfl ?_); refine goesL_ (some 30) rfl rfl Try.func11 (by kernel_rfl) rfl #[.int .u64 (IntKind.u64.wrap ((Int.tmod a0 1099511627776) + (Int.tmod a1 1099511627776))), .int .u64 (IntKind.u64.wrap (1 + (Int.tmod a2 1099511627776)))] rfl (by (try simp only [List.map_toArray, List.map_cons, List.map_nil]); first | done | rfl | (simp only [List.length_drop, List.length_take]; rfl)) ?_; (with_reducible refine (span_Bytes.calls (IntKind.u64.wrap ((Int.tmod a0 1099511627776) + (Int.tmod a1 1099511627776))) (IntKind.u64.wrap (1 + (Int.tmod a2 1099511627776))) t112 _ A6.out).mono ?_); rintro e w' ⟨rfl, ⟨nd, rfl⟩⟩; refine ⟨_, rfl, ?_⟩))
  (try simp only [Act.put, List.setIfInBounds_toArray, List.set_cons_zero, List.set_cons_succ])
  go_cut [43] (fun v43 wc => ∃ (kq : Nat) (x43_6 : Bool), v43 = .bool x43_6 ∧ Aside0 (sandglasslaw02_SpanParts.j0 kq (Int.tmod a0 1099511627776) (Int.tmod a1 1099511627776) (IntKind.u64.wrap (1 + (Int.tmod a2 1099511627776))) x43_6 = some r) ∧ Aside0 (kq ≤ k) ∧ Drawn0 w wc)
  case first =>
    have H := HC7.out
    clear HC7
    replace H := Option.bind_eq_some_iff.mp H
    obtain ⟨t113, A80, H⟩ := H
    replace H : (if t112 < t113 then (sandglasslaw02_SpanParts.j0 k (Int.tmod a0 1099511627776) (Int.tmod a1 1099511627776) (IntKind.u64.wrap (1 + (Int.tmod a2 1099511627776))) true) else ((sat_Add.f t110 t111).bind fun t114 => ((sat_Add.f t114 1).bind fun t115 => (sandglasslaw02_SpanParts.j0 k (Int.tmod a0 1099511627776) (Int.tmod a1 1099511627776) (IntKind.u64.wrap (1 + (Int.tmod a2 1099511627776))) (decide (t112 > t115)))))) = some r := H
    have A8 := Aside0.mk A80
    clear A80
    by_cases c9 : t112 < t113
    · rw [if_pos c9] at H
      have c9b0 : decide (t112 < t113) = true := decide_eq_true c9
      clear c9
      (first | rw [c9b0] | (simp only [i64_w, i32_w]; rw [c9b0]) | skip)
      have H' := Aside0.mk H
      clear H
      go_wp2_with (first | ((with_reducible refine gate_callee (f := 20) rfl ?_); refine goesL_ (some 34) rfl rfl Try.func20 (by kernel_rfl) rfl #[.int .u64 t110, .int .u64 t111] rfl (by (try simp only [List.map_toArray, List.map_cons, List.map_nil]); first | done | rfl | (simp only [List.length_drop, List.length_take]; rfl)) ?_; (with_reducible refine (sat_Add.calls t110 t111 t113 _ A8.out).mono ?_); rintro e w' ⟨rfl, ⟨nd, rfl⟩⟩; refine ⟨_, rfl, ?_⟩))
      go_meet
      case rel => exact ⟨_, (true), (by first | rfl | (simp; done) | (simp [*]; done)), H', ⟨by first | omega | exact Nat.le_refl _⟩, by repeat (first | exact Drawn0.refl _ | apply Drawn0.step)⟩
    · rw [if_neg c9] at H
      have c9b0 : decide (t112 < t113) = false := decide_eq_false c9
      clear c9
      (first | rw [c9b0] | (simp only [i64_w, i32_w]; rw [c9b0]) | skip)
      replace H := Option.bind_eq_some_iff.mp H
      obtain ⟨t114, A100, H⟩ := H
      have EA10 := Option.some.inj (A8.out.symm.trans A100)
      subst EA10
      clear A100
      replace H : ((sat_Add.f t113 1).bind fun t115 => (sandglasslaw02_SpanParts.j0 k (Int.tmod a0 1099511627776) (Int.tmod a1 1099511627776) (IntKind.u64.wrap (1 + (Int.tmod a2 1099511627776))) (decide (t112 > t115)))) = some r := H
      replace H := Option.bind_eq_some_iff.mp H
      obtain ⟨t115, A110, H⟩ := H
      replace H : (sandglasslaw02_SpanParts.j0 k (Int.tmod a0 1099511627776) (Int.tmod a1 1099511627776) (IntKind.u64.wrap (1 + (Int.tmod a2 1099511627776))) (decide (t112 > t115))) = some r := H
      have A11 := Aside0.mk A110
      clear A110
      have H' := Aside0.mk H
      clear H
      go_wp2_with (first | ((with_reducible refine gate_callee (f := 20) rfl ?_); refine goesL_ (some 34) rfl rfl Try.func20 (by kernel_rfl) rfl #[.int .u64 t110, .int .u64 t111] rfl (by (try simp only [List.map_toArray, List.map_cons, List.map_nil]); first | done | rfl | (simp only [List.length_drop, List.length_take]; rfl)) ?_; (with_reducible refine (sat_Add.calls t110 t111 t113 _ A8.out).mono ?_); rintro e w' ⟨rfl, ⟨nd, rfl⟩⟩; refine ⟨_, rfl, ?_⟩) | (go_at_call 20; (with_reducible refine (sat_Add.calls t110 t111 t113 _ A8.out).mono ?_); rintro e w' ⟨rfl, ⟨nd, rfl⟩⟩) | (go_at_call 20; (with_reducible refine (sat_Add.calls t113 1 t115 _ A11.out).mono ?_); rintro e w' ⟨rfl, ⟨nd, rfl⟩⟩))
      go_meet
      case rel => exact ⟨_, (decide (t112 > t115)), (by first | rfl | (simp; done) | (simp [*]; done)), H', ⟨by first | omega | exact Nat.le_refl _⟩, by repeat (first | exact Drawn0.refl _ | apply Drawn0.step)⟩
  case rest =>
    clear HC7
    try clear c1
    try clear c2
    try clear p2
    try clear c6
    try clear c9
    try clear c9b0
    try clear c11
    obtain ⟨kq, x43_6, rfl, HA, HJ6, ⟨mc6, rfl⟩⟩ := hcut
    cases kq with
    | zero => exact absurd HA.out (by simp [sandglasslaw02_SpanParts.j0])
    | succ kj6 =>
      have H := HA.out
      clear HA
      simp only [sandglasslaw02_SpanParts.j0] at H
      by_cases c12 : x43_6 = true
      · subst c12
        have H1 : (some false) = some r := by rw [if_pos rfl] at H; exact H
        clear H
        have H := H1
        clear H1
        obtain rfl := Option.some.inj H
        go_wp2
        go_ret
        exact ⟨by first | rfl | (simp; done) | (simp [*]; done), by repeat (first | exact Drawn0.refl _ | apply Drawn0.step)⟩
      · replace c12 := Bool.eq_false_iff.mpr c12
        subst c12
        have H1 : ((span_Time.f (Int.tmod a0 1099511627776) (IntKind.u64.wrap (1 + (Int.tmod a2 1099511627776)))).bind fun t116 => ((span_Time.f (Int.tmod a1 1099511627776) (IntKind.u64.wrap (1 + (Int.tmod a2 1099511627776)))).bind fun t117 => ((span_Time.f (IntKind.u64.wrap ((Int.tmod a0 1099511627776) + (Int.tmod a1 1099511627776))) (IntKind.u64.wrap (1 + (Int.tmod a2 1099511627776)))).bind fun t118 => ((sat_Add.f t116 t117).bind fun t119 => (if t118 ≤ t119 then (if t118 = 18446744073709551615 then ((sandglasslaw02_awake.f).bind fun t120 => (some t120)) else ((sat_Add.f t116 t117).bind fun t121 => ((sat_Add.f t118 1).bind fun t122 => (if t121 ≤ t122 then ((sandglasslaw02_awake.f).bind fun t123 => (some t123)) else (some false))))) else (some false)))))) = some r := by rw [if_neg (show ¬ (false = true) by decide)] at H; exact H
        clear H
        have H := H1
        clear H1
        replace H := Option.bind_eq_some_iff.mp H
        obtain ⟨t116, A130, H⟩ := H
        replace H : ((span_Time.f (Int.tmod a1 1099511627776) (IntKind.u64.wrap (1 + (Int.tmod a2 1099511627776)))).bind fun t117 => ((span_Time.f (IntKind.u64.wrap ((Int.tmod a0 1099511627776) + (Int.tmod a1 1099511627776))) (IntKind.u64.wrap (1 + (Int.tmod a2 1099511627776)))).bind fun t118 => ((sat_Add.f t116 t117).bind fun t119 => (if t118 ≤ t119 then (if t118 = 18446744073709551615 then ((sandglasslaw02_awake.f).bind fun t120 => (some t120)) else ((sat_Add.f t116 t117).bind fun t121 => ((sat_Add.f t118 1).bind fun t122 => (if t121 ≤ t122 then ((sandglasslaw02_awake.f).bind fun t123 => (some t123)) else (some false))))) else (some false))))) = some r := H
        have A13 := Aside0.mk A130
        clear A130
        replace H := Option.bind_eq_some_iff.mp H
        obtain ⟨t117, A140, H⟩ := H
        replace H : ((span_Time.f (IntKind.u64.wrap ((Int.tmod a0 1099511627776) + (Int.tmod a1 1099511627776))) (IntKind.u64.wrap (1 + (Int.tmod a2 1099511627776)))).bind fun t118 => ((sat_Add.f t116 t117).bind fun t119 => (if t118 ≤ t119 then (if t118 = 18446744073709551615 then ((sandglasslaw02_awake.f).bind fun t120 => (some t120)) else ((sat_Add.f t116 t117).bind fun t121 => ((sat_Add.f t118 1).bind fun t122 => (if t121 ≤ t122 then ((sandglasslaw02_awake.f).bind fun t123 => (some t123)) else (some false))))) else (some false)))) = some r := H
        have A14 := Aside0.mk A140
        clear A140
        replace H := Option.bind_eq_some_iff.mp H
        obtain ⟨t118, A150, H⟩ := H
        replace H : ((sat_Add.f t116 t117).bind fun t119 => (if t118 ≤ t119 then (if t118 = 18446744073709551615 then ((sandglasslaw02_awake.f).bind fun t120 => (some t120)) else ((sat_Add.f t116 t117).bind fun t121 => ((sat_Add.f t118 1).bind fun t122 => (if t121 ≤ t122 then ((sandglasslaw02_awake.f).bind fun t123 => (some t123)) else (some false))))) else (some false))) = some r := H
        have A15 := Aside0.mk A150
        clear A150
        replace H := Option.bind_eq_some_iff.mp H
        obtain ⟨t119, A160, H⟩ := H
        replace H : (if t118 ≤ t119 then (if t118 = 18446744073709551615 then ((sandglasslaw02_awake.f).bind fun t120 => (some t120)) else ((sat_Add.f t116 t117).bind fun t121 => ((sat_Add.f t118 1).bind fun t122 => (if t121 ≤ t122 then ((sandglasslaw02_awake.f).bind fun t123 => (some t123)) else (some false))))) else (some false)) = some r := H
        have A16 := Aside0.mk A160
        clear A160
        by_cases c17 : t118 ≤ t119
        · rw [if_pos c17] at H
          have c17b0 : decide (t118 ≤ t119) = true := decide_eq_true c17
          clear c17
          by_cases c18 : t118 = 18446744073709551615
          · rw [if_pos c18] at H
            have c18b0 : (t118 == 18446744073709551615) = true := beq_iff_eq.mpr c18
            have c18b1 : (t118 != 18446744073709551615) = false := bne_eq_false_iff_eq.mpr c18
            clear c18
            replace H := Option.bind_eq_some_iff.mp H
            obtain ⟨t120, A190, H⟩ := H
            replace H : (some t120) = some r := H
            have A19 := Aside0.mk A190
            clear A190
            obtain rfl := Option.some.inj H
            go_wp2_with (first | ((with_reducible refine gate_callee (f := 9) rfl ?_); refine goesL_ (some 46) rfl rfl Try.func9 (by kernel_rfl) rfl #[.int .u64 (Int.tmod a0 1099511627776), .int .u64 (IntKind.u64.wrap (1 + (Int.tmod a2 1099511627776)))] rfl (by (try simp only [List.map_toArray, List.map_cons, List.map_nil]); first | done | rfl | (simp only [List.length_drop, List.length_take]; rfl)) ?_; (with_reducible refine (span_Time.calls (Int.tmod a0 1099511627776) (IntKind.u64.wrap (1 + (Int.tmod a2 1099511627776))) t116 _ A13.out).mono ?_); rintro e w' ⟨rfl, ⟨nd, rfl⟩⟩; refine ⟨_, rfl, ?_⟩) | ((with_reducible refine gate_callee (f := 9) rfl ?_); refine goesL_ (some 49) rfl rfl Try.func9 (by kernel_rfl) rfl #[.int .u64 (Int.tmod a1 1099511627776), .int .u64 (IntKind.u64.wrap (1 + (Int.tmod a2 1099511627776)))] rfl (by (try simp only [List.map_toArray, List.map_cons, List.map_nil]); first | done | rfl | (simp only [List.length_drop, List.length_take]; rfl)) ?_; (with_reducible refine (span_Time.calls (Int.tmod a1 1099511627776) (IntKind.u64.wrap (1 + (Int.tmod a2 1099511627776))) t117 _ A14.out).mono ?_); rintro e w' ⟨rfl, ⟨nd, rfl⟩⟩; refine ⟨_, rfl, ?_⟩) | ((with_reducible refine gate_callee (f := 9) rfl ?_); refine goesL_ (some 54) rfl rfl Try.func9 (by kernel_rfl) rfl #[.int .u64 (IntKind.u64.wrap ((Int.tmod a0 1099511627776) + (Int.tmod a1 1099511627776))), .int .u64 (IntKind.u64.wrap (1 + (Int.tmod a2 1099511627776)))] rfl (by (try simp only [List.map_toArray, List.map_cons, List.map_nil]); first | done | rfl | (simp only [List.length_drop, List.length_take]; rfl)) ?_; (with_reducible refine (span_Time.calls (IntKind.u64.wrap ((Int.tmod a0 1099511627776) + (Int.tmod a1 1099511627776))) (IntKind.u64.wrap (1 + (Int.tmod a2 1099511627776))) t118 _ A15.out).mono ?_); rintro e w' ⟨rfl, ⟨nd, rfl⟩⟩; refine ⟨_, rfl, ?_⟩) | ((with_reducible refine gate_callee (f := 20) rfl ?_); refine goesL_ (some 58) rfl rfl Try.func20 (by kernel_rfl) rfl #[.int .u64 t116, .int .u64 t117] rfl (by (try simp only [List.map_toArray, List.map_cons, List.map_nil]); first | done | rfl | (simp only [List.length_drop, List.length_take]; rfl)) ?_; (with_reducible refine (sat_Add.calls t116 t117 t119 _ A16.out).mono ?_); rintro e w' ⟨rfl, ⟨nd, rfl⟩⟩; refine ⟨_, rfl, ?_⟩) | (go_at_call 19; (with_reducible refine (sandglasslaw02_awake.calls  t120 _ A19.out).mono ?_); rintro e w' ⟨rfl, ⟨nd, rfl⟩⟩))
            go_ret
            exact ⟨by first | rfl | (simp; done) | (simp [*]; done), by repeat (first | exact Drawn0.refl _ | apply Drawn0.step)⟩
          · rw [if_neg c18] at H
            have c18b0 : (t118 == 18446744073709551615) = false := beq_eq_false_iff_ne.mpr c18
            have c18b1 : (t118 != 18446744073709551615) = true := bne_iff_ne.mpr c18
            replace H := Option.bind_eq_some_iff.mp H
            obtain ⟨t121, A200, H⟩ := H
            have EA20 := Option.some.inj (A16.out.symm.trans A200)
            subst EA20
            clear A200
            replace H : ((sat_Add.f t118 1).bind fun t122 => (if t119 ≤ t122 then ((sandglasslaw02_awake.f).bind fun t123 => (some t123)) else (some false))) = some r := H
            replace H := Option.bind_eq_some_iff.mp H
            obtain ⟨t122, A210, H⟩ := H
            replace H : (if t119 ≤ t122 then ((sandglasslaw02_awake.f).bind fun t123 => (some t123)) else (some false)) = some r := H
            have A21 := Aside0.mk A210
            clear A210
            by_cases c22 : t119 ≤ t122
            · rw [if_pos c22] at H
              have c22b0 : decide (t119 ≤ t122) = true := decide_eq_true c22
              clear c22
              replace H := Option.bind_eq_some_iff.mp H
              obtain ⟨t123, A230, H⟩ := H
              replace H : (some t123) = some r := H
              have A23 := Aside0.mk A230
              clear A230
              obtain rfl := Option.some.inj H
              go_wp2_with (first | ((with_reducible refine gate_callee (f := 9) rfl ?_); refine goesL_ (some 46) rfl rfl Try.func9 (by kernel_rfl) rfl #[.int .u64 (Int.tmod a0 1099511627776), .int .u64 (IntKind.u64.wrap (1 + (Int.tmod a2 1099511627776)))] rfl (by (try simp only [List.map_toArray, List.map_cons, List.map_nil]); first | done | rfl | (simp only [List.length_drop, List.length_take]; rfl)) ?_; (with_reducible refine (span_Time.calls (Int.tmod a0 1099511627776) (IntKind.u64.wrap (1 + (Int.tmod a2 1099511627776))) t116 _ A13.out).mono ?_); rintro e w' ⟨rfl, ⟨nd, rfl⟩⟩; refine ⟨_, rfl, ?_⟩) | ((with_reducible refine gate_callee (f := 9) rfl ?_); refine goesL_ (some 49) rfl rfl Try.func9 (by kernel_rfl) rfl #[.int .u64 (Int.tmod a1 1099511627776), .int .u64 (IntKind.u64.wrap (1 + (Int.tmod a2 1099511627776)))] rfl (by (try simp only [List.map_toArray, List.map_cons, List.map_nil]); first | done | rfl | (simp only [List.length_drop, List.length_take]; rfl)) ?_; (with_reducible refine (span_Time.calls (Int.tmod a1 1099511627776) (IntKind.u64.wrap (1 + (Int.tmod a2 1099511627776))) t117 _ A14.out).mono ?_); rintro e w' ⟨rfl, ⟨nd, rfl⟩⟩; refine ⟨_, rfl, ?_⟩) | ((with_reducible refine gate_callee (f := 9) rfl ?_); refine goesL_ (some 54) rfl rfl Try.func9 (by kernel_rfl) rfl #[.int .u64 (IntKind.u64.wrap ((Int.tmod a0 1099511627776) + (Int.tmod a1 1099511627776))), .int .u64 (IntKind.u64.wrap (1 + (Int.tmod a2 1099511627776)))] rfl (by (try simp only [List.map_toArray, List.map_cons, List.map_nil]); first | done | rfl | (simp only [List.length_drop, List.length_take]; rfl)) ?_; (with_reducible refine (span_Time.calls (IntKind.u64.wrap ((Int.tmod a0 1099511627776) + (Int.tmod a1 1099511627776))) (IntKind.u64.wrap (1 + (Int.tmod a2 1099511627776))) t118 _ A15.out).mono ?_); rintro e w' ⟨rfl, ⟨nd, rfl⟩⟩; refine ⟨_, rfl, ?_⟩) | ((with_reducible refine gate_callee (f := 20) rfl ?_); refine goesL_ (some 58) rfl rfl Try.func20 (by kernel_rfl) rfl #[.int .u64 t116, .int .u64 t117] rfl (by (try simp only [List.map_toArray, List.map_cons, List.map_nil]); first | done | rfl | (simp only [List.length_drop, List.length_take]; rfl)) ?_; (with_reducible refine (sat_Add.calls t116 t117 t119 _ A16.out).mono ?_); rintro e w' ⟨rfl, ⟨nd, rfl⟩⟩; refine ⟨_, rfl, ?_⟩) | (go_at_call 20; (with_reducible refine (sat_Add.calls t116 t117 t119 _ A16.out).mono ?_); rintro e w' ⟨rfl, ⟨nd, rfl⟩⟩) | (go_at_call 20; (with_reducible refine (sat_Add.calls t118 1 t122 _ A21.out).mono ?_); rintro e w' ⟨rfl, ⟨nd, rfl⟩⟩) | (go_at_call 19; (with_reducible refine (sandglasslaw02_awake.calls  t123 _ A23.out).mono ?_); rintro e w' ⟨rfl, ⟨nd, rfl⟩⟩))
              go_ret
              exact ⟨by first | rfl | (simp; done) | (simp [*]; done), by repeat (first | exact Drawn0.refl _ | apply Drawn0.step)⟩
            · rw [if_neg c22] at H
              have c22b0 : decide (t119 ≤ t122) = false := decide_eq_false c22
              clear c22
              obtain rfl := Option.some.inj H
              go_wp2_with (first | ((with_reducible refine gate_callee (f := 9) rfl ?_); refine goesL_ (some 46) rfl rfl Try.func9 (by kernel_rfl) rfl #[.int .u64 (Int.tmod a0 1099511627776), .int .u64 (IntKind.u64.wrap (1 + (Int.tmod a2 1099511627776)))] rfl (by (try simp only [List.map_toArray, List.map_cons, List.map_nil]); first | done | rfl | (simp only [List.length_drop, List.length_take]; rfl)) ?_; (with_reducible refine (span_Time.calls (Int.tmod a0 1099511627776) (IntKind.u64.wrap (1 + (Int.tmod a2 1099511627776))) t116 _ A13.out).mono ?_); rintro e w' ⟨rfl, ⟨nd, rfl⟩⟩; refine ⟨_, rfl, ?_⟩) | ((with_reducible refine gate_callee (f := 9) rfl ?_); refine goesL_ (some 49) rfl rfl Try.func9 (by kernel_rfl) rfl #[.int .u64 (Int.tmod a1 1099511627776), .int .u64 (IntKind.u64.wrap (1 + (Int.tmod a2 1099511627776)))] rfl (by (try simp only [List.map_toArray, List.map_cons, List.map_nil]); first | done | rfl | (simp only [List.length_drop, List.length_take]; rfl)) ?_; (with_reducible refine (span_Time.calls (Int.tmod a1 1099511627776) (IntKind.u64.wrap (1 + (Int.tmod a2 1099511627776))) t117 _ A14.out).mono ?_); rintro e w' ⟨rfl, ⟨nd, rfl⟩⟩; refine ⟨_, rfl, ?_⟩) | ((with_reducible refine gate_callee (f := 9) rfl ?_); refine goesL_ (some 54) rfl rfl Try.func9 (by kernel_rfl) rfl #[.int .u64 (IntKind.u64.wrap ((Int.tmod a0 1099511627776) + (Int.tmod a1 1099511627776))), .int .u64 (IntKind.u64.wrap (1 + (Int.tmod a2 1099511627776)))] rfl (by (try simp only [List.map_toArray, List.map_cons, List.map_nil]); first | done | rfl | (simp only [List.length_drop, List.length_take]; rfl)) ?_; (with_reducible refine (span_Time.calls (IntKind.u64.wrap ((Int.tmod a0 1099511627776) + (Int.tmod a1 1099511627776))) (IntKind.u64.wrap (1 + (Int.tmod a2 1099511627776))) t118 _ A15.out).mono ?_); rintro e w' ⟨rfl, ⟨nd, rfl⟩⟩; refine ⟨_, rfl, ?_⟩) | ((with_reducible refine gate_callee (f := 20) rfl ?_); refine goesL_ (some 58) rfl rfl Try.func20 (by kernel_rfl) rfl #[.int .u64 t116, .int .u64 t117] rfl (by (try simp only [List.map_toArray, List.map_cons, List.map_nil]); first | done | rfl | (simp only [List.length_drop, List.length_take]; rfl)) ?_; (with_reducible refine (sat_Add.calls t116 t117 t119 _ A16.out).mono ?_); rintro e w' ⟨rfl, ⟨nd, rfl⟩⟩; refine ⟨_, rfl, ?_⟩) | (go_at_call 20; (with_reducible refine (sat_Add.calls t116 t117 t119 _ A16.out).mono ?_); rintro e w' ⟨rfl, ⟨nd, rfl⟩⟩) | (go_at_call 20; (with_reducible refine (sat_Add.calls t118 1 t122 _ A21.out).mono ?_); rintro e w' ⟨rfl, ⟨nd, rfl⟩⟩))
              go_ret
              exact ⟨by first | rfl | (simp; done) | (simp [*]; done), by repeat (first | exact Drawn0.refl _ | apply Drawn0.step)⟩
        · rw [if_neg c17] at H
          have c17b0 : decide (t118 ≤ t119) = false := decide_eq_false c17
          clear c17
          obtain rfl := Option.some.inj H
          go_wp2_with (first | ((with_reducible refine gate_callee (f := 9) rfl ?_); refine goesL_ (some 46) rfl rfl Try.func9 (by kernel_rfl) rfl #[.int .u64 (Int.tmod a0 1099511627776), .int .u64 (IntKind.u64.wrap (1 + (Int.tmod a2 1099511627776)))] rfl (by (try simp only [List.map_toArray, List.map_cons, List.map_nil]); first | done | rfl | (simp only [List.length_drop, List.length_take]; rfl)) ?_; (with_reducible refine (span_Time.calls (Int.tmod a0 1099511627776) (IntKind.u64.wrap (1 + (Int.tmod a2 1099511627776))) t116 _ A13.out).mono ?_); rintro e w' ⟨rfl, ⟨nd, rfl⟩⟩; refine ⟨_, rfl, ?_⟩) | ((with_reducible refine gate_callee (f := 9) rfl ?_); refine goesL_ (some 49) rfl rfl Try.func9 (by kernel_rfl) rfl #[.int .u64 (Int.tmod a1 1099511627776), .int .u64 (IntKind.u64.wrap (1 + (Int.tmod a2 1099511627776)))] rfl (by (try simp only [List.map_toArray, List.map_cons, List.map_nil]); first | done | rfl | (simp only [List.length_drop, List.length_take]; rfl)) ?_; (with_reducible refine (span_Time.calls (Int.tmod a1 1099511627776) (IntKind.u64.wrap (1 + (Int.tmod a2 1099511627776))) t117 _ A14.out).mono ?_); rintro e w' ⟨rfl, ⟨nd, rfl⟩⟩; refine ⟨_, rfl, ?_⟩) | ((with_reducible refine gate_callee (f := 9) rfl ?_); refine goesL_ (some 54) rfl rfl Try.func9 (by kernel_rfl) rfl #[.int .u64 (IntKind.u64.wrap ((Int.tmod a0 1099511627776) + (Int.tmod a1 1099511627776))), .int .u64 (IntKind.u64.wrap (1 + (Int.tmod a2 1099511627776)))] rfl (by (try simp only [List.map_toArray, List.map_cons, List.map_nil]); first | done | rfl | (simp only [List.length_drop, List.length_take]; rfl)) ?_; (with_reducible refine (span_Time.calls (IntKind.u64.wrap ((Int.tmod a0 1099511627776) + (Int.tmod a1 1099511627776))) (IntKind.u64.wrap (1 + (Int.tmod a2 1099511627776))) t118 _ A15.out).mono ?_); rintro e w' ⟨rfl, ⟨nd, rfl⟩⟩; refine ⟨_, rfl, ?_⟩) | ((with_reducible refine gate_callee (f := 20) rfl ?_); refine goesL_ (some 58) rfl rfl Try.func20 (by kernel_rfl) rfl #[.int .u64 t116, .int .u64 t117] rfl (by (try simp only [List.map_toArray, List.map_cons, List.map_nil]); first | done | rfl | (simp only [List.length_drop, List.length_take]; rfl)) ?_; (with_reducible refine (sat_Add.calls t116 t117 t119 _ A16.out).mono ?_); rintro e w' ⟨rfl, ⟨nd, rfl⟩⟩; refine ⟨_, rfl, ?_⟩))
          go_ret
          exact ⟨by first | rfl | (simp; done) | (simp [*]; done), by repeat (first | exact Drawn0.refl _ | apply Drawn0.step)⟩

/-- THE ONE PURE STATEMENT of sandglasslaw02_SpanParts: yours. -/
def sandglasslaw02_SpanParts.Pure : Prop := ∀ (a0 : Int) (a1 : Int) (a2 : Int), (Lit.int .u64 a0).wf = true → (Lit.int .u64 a1).wf = true → (Lit.int .u64 a2).wf = true → ∃ k, sandglasslaw02_SpanParts.f k a0 a1 a2 = some true
theorem sandglasslaw02_SpanParts.walk (P : sandglasslaw02_SpanParts.Pure) (a0 : Int) (a1 : Int) (a2 : Int) (w : World) (w0 : (Lit.int .u64 a0).wf = true) (w1 : (Lit.int .u64 a1).wf = true) (w2 : (Lit.int .u64 a2).wf = true) :
    Calls Try.prog 6 #[.int .u64 a0, .int .u64 a1, .int .u64 a2] w fun e w' => e = .returned (.bool true) ∧ Below w.heap.size w w' := by
  obtain ⟨k, h⟩ := P a0 a1 a2 w0 w1 w2
  refine (sandglasslaw02_SpanParts.calls k a0 a1 a2 true w h).mono ?_
  rintro e w' ⟨rfl, hd⟩
  exact ⟨rfl, hd.below⟩

/-! ### sandglasslaw02_SpanFaster: function 7 -/
mutual
def sandglasslaw02_SpanFaster.j0 : Nat → Int → Int → Int → Bool → Option (Bool)
  | 0, _, _, _, _ => none
  | k + 1, x0, x2, x3, x30 => if x30 = true then (some false) else ((sat_Add.f x2 x3).bind fun t130 => (if x2 > 0 then ((span_Time.f x0 t130).bind fun t131 => ((span_Time.f x0 x2).bind fun t132 => (if t131 > t132 then (sandglasslaw02_SpanFaster.j1 k x0 x2 x3 true) else ((span_Bytes.f x0 t130).bind fun t133 => ((span_Bytes.f x0 x2).bind fun t134 => (sandglasslaw02_SpanFaster.j1 k x0 x2 x3 (decide (t133 < t134)))))))) else (sandglasslaw02_SpanFaster.j1 k x0 x2 x3 false)))
def sandglasslaw02_SpanFaster.j1 : Nat → Int → Int → Int → Bool → Option (Bool)
  | 0, _, _, _, _ => none
  | k + 1, x0, x2, x3, x53 => if x53 = true then (some false) else ((span_Lesser.f x2 x3).bind fun t135 => ((span_Lesser.f x3 x2).bind fun t136 => (if t135 = t136 then ((span_Time.f x0 t135).bind fun t137 => ((span_Time.f x0 x2).bind fun t138 => ((span_Time.f x0 x3).bind fun t139 => (if t137 = (mx t138 t139) then ((span_Bytes.f x0 t135).bind fun t140 => ((span_Bytes.f x0 x2).bind fun t141 => ((span_Bytes.f x0 x3).bind fun t142 => (if t140 = (mn t141 t142) then ((sandglasslaw02_awake.f).bind fun t143 => (some t143)) else (some false))))) else (some false))))) else (some false))))
end
def sandglasslaw02_SpanFaster.f (k : Nat) (a0 : Int) (a1 : Int) (a2 : Int) (a3 : Int) : Option (Bool) := (sat_Add.f a0 a1).bind fun t124 => ((span_Time.f t124 a2).bind fun t125 => ((span_Time.f a0 a2).bind fun t126 => (if t125 < t126 then (sandglasslaw02_SpanFaster.j0 k a0 a2 a3 true) else ((sat_Add.f a0 a1).bind fun t127 => ((span_Bytes.f t127 a2).bind fun t128 => ((span_Bytes.f a0 a2).bind fun t129 => (sandglasslaw02_SpanFaster.j0 k a0 a2 a3 (decide (t128 < t129)))))))))
theorem sandglasslaw02_SpanFaster.mono_l : ∀ k, (∀ y0 y1 y2 y3, LeO (sandglasslaw02_SpanFaster.j0 k y0 y1 y2 y3) (sandglasslaw02_SpanFaster.j0 (k + 1) y0 y1 y2 y3)) ∧ (∀ y0 y1 y2 y3, LeO (sandglasslaw02_SpanFaster.j1 k y0 y1 y2 y3) (sandglasslaw02_SpanFaster.j1 (k + 1) y0 y1 y2 y3))
  | 0 => ⟨fun _ _ _ _ r h => by simp [sandglasslaw02_SpanFaster.j0] at h, fun _ _ _ _ r h => by simp [sandglasslaw02_SpanFaster.j1] at h⟩
  | k + 1 => by
    obtain ⟨ih0, ih1⟩ := sandglasslaw02_SpanFaster.mono_l k
    refine ⟨?_, ?_⟩
    · intro y0 y1 y2 y3
      unfold sandglasslaw02_SpanFaster.j0
      repeat' first
      | (with_reducible exact ih0 _ _ _ _)
      | (with_reducible exact ih1 _ _ _ _)
      | (with_reducible exact LeO.refl _)
      | (with_reducible exact LeO.none _)
      | (with_reducible refine LeO.ite ?_ ?_)
      | (with_reducible refine LeO.bind ?_ (fun _ => ?_))
      | exact ih0 _ _ _ _
      | exact ih1 _ _ _ _
      | exact LeO.none _
      | refine LeO.ite ?_ ?_
      | refine LeO.bind ?_ (fun _ => ?_)
    · intro y0 y1 y2 y3
      unfold sandglasslaw02_SpanFaster.j1
      repeat' first
      | (with_reducible exact ih0 _ _ _ _)
      | (with_reducible exact ih1 _ _ _ _)
      | (with_reducible exact LeO.refl _)
      | (with_reducible exact LeO.none _)
      | (with_reducible refine LeO.ite ?_ ?_)
      | (with_reducible refine LeO.bind ?_ (fun _ => ?_))
      | exact ih0 _ _ _ _
      | exact ih1 _ _ _ _
      | exact LeO.none _
      | refine LeO.ite ?_ ?_
      | refine LeO.bind ?_ (fun _ => ?_)
theorem sandglasslaw02_SpanFaster.mono : ∀ a0 a1 a2 a3 k, LeO (sandglasslaw02_SpanFaster.f k a0 a1 a2 a3) (sandglasslaw02_SpanFaster.f (k + 1) a0 a1 a2 a3) := by
  intro a0 a1 a2 a3 k
  obtain ⟨ih0, ih1⟩ := sandglasslaw02_SpanFaster.mono_l k
  unfold sandglasslaw02_SpanFaster.f
  repeat' first
      | (with_reducible exact ih0 _ _ _ _)
      | (with_reducible exact ih1 _ _ _ _)
      | (with_reducible exact LeO.refl _)
      | (with_reducible exact LeO.none _)
      | (with_reducible refine LeO.ite ?_ ?_)
      | (with_reducible refine LeO.bind ?_ (fun _ => ?_))
      | exact ih0 _ _ _ _
      | exact ih1 _ _ _ _
      | exact LeO.none _
      | refine LeO.ite ?_ ?_
      | refine LeO.bind ?_ (fun _ => ?_)
set_option maxHeartbeats 8000000 in
set_option maxRecDepth 100000 in
theorem sandglasslaw02_SpanFaster.calls (k : Nat) (a0 : Int) (a1 : Int) (a2 : Int) (a3 : Int) (r : Bool) (w : World) (h : sandglasslaw02_SpanFaster.f k a0 a1 a2 a3 = some r) :
    Calls Try.prog 7 #[.int .u64 a0, .int .u64 a1, .int .u64 a2, .int .u64 a3] w fun e w' => e = .returned (.bool r) ∧ Drawn0 w w' := by
  have H : ((sat_Add.f a0 a1).bind fun t124 => ((span_Time.f t124 a2).bind fun t125 => ((span_Time.f a0 a2).bind fun t126 => (if t125 < t126 then (sandglasslaw02_SpanFaster.j0 k a0 a2 a3 true) else ((sat_Add.f a0 a1).bind fun t127 => ((span_Bytes.f t127 a2).bind fun t128 => ((span_Bytes.f a0 a2).bind fun t129 => (sandglasslaw02_SpanFaster.j0 k a0 a2 a3 (decide (t128 < t129)))))))))) = some r := h
  clear h
  have HC5 := Aside0.mk H
  clear H
  go_enter Try.func7, Try.ntmps7
  go_upto_region 1 with (fail)
  go_cut [30] (fun v30 wc => ∃ (kq : Nat) (x30_4 : Bool), v30 = .bool x30_4 ∧ Aside0 (sandglasslaw02_SpanFaster.j0 kq a0 a2 a3 x30_4 = some r) ∧ Aside0 (kq ≤ k) ∧ Drawn0 w wc)
  case first =>
    have H := HC5.out
    clear HC5
    replace H := Option.bind_eq_some_iff.mp H
    obtain ⟨t124, A60, H⟩ := H
    replace H : ((span_Time.f t124 a2).bind fun t125 => ((span_Time.f a0 a2).bind fun t126 => (if t125 < t126 then (sandglasslaw02_SpanFaster.j0 k a0 a2 a3 true) else ((sat_Add.f a0 a1).bind fun t127 => ((span_Bytes.f t127 a2).bind fun t128 => ((span_Bytes.f a0 a2).bind fun t129 => (sandglasslaw02_SpanFaster.j0 k a0 a2 a3 (decide (t128 < t129))))))))) = some r := H
    have A6 := Aside0.mk A60
    clear A60
    replace H := Option.bind_eq_some_iff.mp H
    obtain ⟨t125, A70, H⟩ := H
    replace H : ((span_Time.f a0 a2).bind fun t126 => (if t125 < t126 then (sandglasslaw02_SpanFaster.j0 k a0 a2 a3 true) else ((sat_Add.f a0 a1).bind fun t127 => ((span_Bytes.f t127 a2).bind fun t128 => ((span_Bytes.f a0 a2).bind fun t129 => (sandglasslaw02_SpanFaster.j0 k a0 a2 a3 (decide (t128 < t129)))))))) = some r := H
    have A7 := Aside0.mk A70
    clear A70
    replace H := Option.bind_eq_some_iff.mp H
    obtain ⟨t126, A80, H⟩ := H
    replace H : (if t125 < t126 then (sandglasslaw02_SpanFaster.j0 k a0 a2 a3 true) else ((sat_Add.f a0 a1).bind fun t127 => ((span_Bytes.f t127 a2).bind fun t128 => ((span_Bytes.f a0 a2).bind fun t129 => (sandglasslaw02_SpanFaster.j0 k a0 a2 a3 (decide (t128 < t129))))))) = some r := H
    have A8 := Aside0.mk A80
    clear A80
    by_cases c9 : t125 < t126
    · rw [if_pos c9] at H
      have c9b0 : decide (t125 < t126) = true := decide_eq_true c9
      clear c9
      (first | rw [c9b0] | (simp only [i64_w, i32_w]; rw [c9b0]) | skip)
      have H' := Aside0.mk H
      clear H
      go_wp2_with (first | ((with_reducible refine gate_callee (f := 20) rfl ?_); refine goesL_ (some 13) rfl rfl Try.func20 (by kernel_rfl) rfl #[.int .u64 a0, .int .u64 a1] rfl (by (try simp only [List.map_toArray, List.map_cons, List.map_nil]); first | done | rfl | (simp only [List.length_drop, List.length_take]; rfl)) ?_; (with_reducible refine (sat_Add.calls a0 a1 t124 _ A6.out).mono ?_); rintro e w' ⟨rfl, ⟨nd, rfl⟩⟩; refine ⟨_, rfl, ?_⟩) | ((with_reducible refine gate_callee (f := 9) rfl ?_); refine goesL_ (some 15) rfl rfl Try.func9 (by kernel_rfl) rfl #[.int .u64 t124, .int .u64 a2] rfl (by (try simp only [List.map_toArray, List.map_cons, List.map_nil]); first | done | rfl | (simp only [List.length_drop, List.length_take]; rfl)) ?_; (with_reducible refine (span_Time.calls t124 a2 t125 _ A7.out).mono ?_); rintro e w' ⟨rfl, ⟨nd, rfl⟩⟩; refine ⟨_, rfl, ?_⟩) | ((with_reducible refine gate_callee (f := 9) rfl ?_); refine goesL_ (some 18) rfl rfl Try.func9 (by kernel_rfl) rfl #[.int .u64 a0, .int .u64 a2] rfl (by (try simp only [List.map_toArray, List.map_cons, List.map_nil]); first | done | rfl | (simp only [List.length_drop, List.length_take]; rfl)) ?_; (with_reducible refine (span_Time.calls a0 a2 t126 _ A8.out).mono ?_); rintro e w' ⟨rfl, ⟨nd, rfl⟩⟩; refine ⟨_, rfl, ?_⟩))
      go_meet
      case rel => exact ⟨_, (true), (by first | rfl | (simp; done) | (simp [*]; done)), H', ⟨by first | omega | exact Nat.le_refl _⟩, by repeat (first | exact Drawn0.refl _ | apply Drawn0.step)⟩
    · rw [if_neg c9] at H
      have c9b0 : decide (t125 < t126) = false := decide_eq_false c9
      clear c9
      (first | rw [c9b0] | (simp only [i64_w, i32_w]; rw [c9b0]) | skip)
      replace H := Option.bind_eq_some_iff.mp H
      obtain ⟨t127, A100, H⟩ := H
      have EA10 := Option.some.inj (A6.out.symm.trans A100)
      subst EA10
      clear A100
      replace H : ((span_Bytes.f t124 a2).bind fun t128 => ((span_Bytes.f a0 a2).bind fun t129 => (sandglasslaw02_SpanFaster.j0 k a0 a2 a3 (decide (t128 < t129))))) = some r := H
      replace H := Option.bind_eq_some_iff.mp H
      obtain ⟨t128, A110, H⟩ := H
      replace H : ((span_Bytes.f a0 a2).bind fun t129 => (sandglasslaw02_SpanFaster.j0 k a0 a2 a3 (decide (t128 < t129)))) = some r := H
      have A11 := Aside0.mk A110
      clear A110
      replace H := Option.bind_eq_some_iff.mp H
      obtain ⟨t129, A120, H⟩ := H
      replace H : (sandglasslaw02_SpanFaster.j0 k a0 a2 a3 (decide (t128 < t129))) = some r := H
      have A12 := Aside0.mk A120
      clear A120
      have H' := Aside0.mk H
      clear H
      go_wp2_with (first | ((with_reducible refine gate_callee (f := 20) rfl ?_); refine goesL_ (some 13) rfl rfl Try.func20 (by kernel_rfl) rfl #[.int .u64 a0, .int .u64 a1] rfl (by (try simp only [List.map_toArray, List.map_cons, List.map_nil]); first | done | rfl | (simp only [List.length_drop, List.length_take]; rfl)) ?_; (with_reducible refine (sat_Add.calls a0 a1 t124 _ A6.out).mono ?_); rintro e w' ⟨rfl, ⟨nd, rfl⟩⟩; refine ⟨_, rfl, ?_⟩) | ((with_reducible refine gate_callee (f := 9) rfl ?_); refine goesL_ (some 15) rfl rfl Try.func9 (by kernel_rfl) rfl #[.int .u64 t124, .int .u64 a2] rfl (by (try simp only [List.map_toArray, List.map_cons, List.map_nil]); first | done | rfl | (simp only [List.length_drop, List.length_take]; rfl)) ?_; (with_reducible refine (span_Time.calls t124 a2 t125 _ A7.out).mono ?_); rintro e w' ⟨rfl, ⟨nd, rfl⟩⟩; refine ⟨_, rfl, ?_⟩) | ((with_reducible refine gate_callee (f := 9) rfl ?_); refine goesL_ (some 18) rfl rfl Try.func9 (by kernel_rfl) rfl #[.int .u64 a0, .int .u64 a2] rfl (by (try simp only [List.map_toArray, List.map_cons, List.map_nil]); first | done | rfl | (simp only [List.length_drop, List.length_take]; rfl)) ?_; (with_reducible refine (span_Time.calls a0 a2 t126 _ A8.out).mono ?_); rintro e w' ⟨rfl, ⟨nd, rfl⟩⟩; refine ⟨_, rfl, ?_⟩) | (go_at_call 20; (with_reducible refine (sat_Add.calls a0 a1 t124 _ A6.out).mono ?_); rintro e w' ⟨rfl, ⟨nd, rfl⟩⟩) | (go_at_call 11; (with_reducible refine (span_Bytes.calls t124 a2 t128 _ A11.out).mono ?_); rintro e w' ⟨rfl, ⟨nd, rfl⟩⟩) | (go_at_call 11; (with_reducible refine (span_Bytes.calls a0 a2 t129 _ A12.out).mono ?_); rintro e w' ⟨rfl, ⟨nd, rfl⟩⟩))
      go_meet
      case rel => exact ⟨_, (decide (t128 < t129)), (by first | rfl | (simp; done) | (simp [*]; done)), H', ⟨by first | omega | exact Nat.le_refl _⟩, by repeat (first | exact Drawn0.refl _ | apply Drawn0.step)⟩
  case rest =>
    clear HC5
    try clear c2
    try clear p2
    try clear c7
    try clear c9
    try clear c9b0
    obtain ⟨kq, x30_4, rfl, HA, HJ4, ⟨mc4, rfl⟩⟩ := hcut
    cases kq with
    | zero => exact absurd HA.out (by simp [sandglasslaw02_SpanFaster.j0])
    | succ kj4 =>
      have H := HA.out
      clear HA
      simp only [sandglasslaw02_SpanFaster.j0] at H
      by_cases c13 : x30_4 = true
      · subst c13
        have H1 : (some false) = some r := by rw [if_pos rfl] at H; exact H
        clear H
        have H := H1
        clear H1
        obtain rfl := Option.some.inj H
        go_wp2
        go_ret
        exact ⟨by first | rfl | (simp; done) | (simp [*]; done), by repeat (first | exact Drawn0.refl _ | apply Drawn0.step)⟩
      · replace c13 := Bool.eq_false_iff.mpr c13
        subst c13
        have H1 : ((sat_Add.f a2 a3).bind fun t130 => (if a2 > 0 then ((span_Time.f a0 t130).bind fun t131 => ((span_Time.f a0 a2).bind fun t132 => (if t131 > t132 then (sandglasslaw02_SpanFaster.j1 kj4 a0 a2 a3 true) else ((span_Bytes.f a0 t130).bind fun t133 => ((span_Bytes.f a0 a2).bind fun t134 => (sandglasslaw02_SpanFaster.j1 kj4 a0 a2 a3 (decide (t133 < t134)))))))) else (sandglasslaw02_SpanFaster.j1 kj4 a0 a2 a3 false))) = some r := by rw [if_neg (show ¬ (false = true) by decide)] at H; exact H
        clear H
        have H := H1
        clear H1
        replace H := Option.bind_eq_some_iff.mp H
        obtain ⟨t130, A140, H⟩ := H
        replace H : (if a2 > 0 then ((span_Time.f a0 t130).bind fun t131 => ((span_Time.f a0 a2).bind fun t132 => (if t131 > t132 then (sandglasslaw02_SpanFaster.j1 kj4 a0 a2 a3 true) else ((span_Bytes.f a0 t130).bind fun t133 => ((span_Bytes.f a0 a2).bind fun t134 => (sandglasslaw02_SpanFaster.j1 kj4 a0 a2 a3 (decide (t133 < t134)))))))) else (sandglasslaw02_SpanFaster.j1 kj4 a0 a2 a3 false)) = some r := H
        have A14 := Aside0.mk A140
        clear A140
        have HC15 := Aside0.mk H
        clear H
        go_upto_region 4 with (first | ((with_reducible refine gate_callee (f := 20) rfl ?_); refine goesL_ (some 33) rfl rfl Try.func20 (by kernel_rfl) rfl #[.int .u64 a2, .int .u64 a3] rfl (by (try simp only [List.map_toArray, List.map_cons, List.map_nil]); first | done | rfl | (simp only [List.length_drop, List.length_take]; rfl)) ?_; (with_reducible refine (sat_Add.calls a2 a3 t130 _ A14.out).mono ?_); rintro e w' ⟨rfl, ⟨nd, rfl⟩⟩; refine ⟨_, rfl, ?_⟩))
        (try simp only [Act.put, List.setIfInBounds_toArray, List.set_cons_zero, List.set_cons_succ])
        go_cut [53] (fun v53 wc => ∃ (kq : Nat) (x53_14 : Bool), v53 = .bool x53_14 ∧ Aside0 (sandglasslaw02_SpanFaster.j1 kq a0 a2 a3 x53_14 = some r) ∧ Aside0 (kq ≤ kj4) ∧ Drawn0 w wc)
        case first =>
          have H := HC15.out
          clear HC15
          by_cases c16 : a2 > 0
          · rw [if_pos c16] at H
            have c16b0 : decide (0 < a2) = true := decide_eq_true c16
            clear c16
            (first | rw [c16b0] | (simp only [i64_w, i32_w]; rw [c16b0]) | skip)
            replace H := Option.bind_eq_some_iff.mp H
            obtain ⟨t131, A170, H⟩ := H
            replace H : ((span_Time.f a0 a2).bind fun t132 => (if t131 > t132 then (sandglasslaw02_SpanFaster.j1 kj4 a0 a2 a3 true) else ((span_Bytes.f a0 t130).bind fun t133 => ((span_Bytes.f a0 a2).bind fun t134 => (sandglasslaw02_SpanFaster.j1 kj4 a0 a2 a3 (decide (t133 < t134))))))) = some r := H
            have A17 := Aside0.mk A170
            clear A170
            replace H := Option.bind_eq_some_iff.mp H
            obtain ⟨t132, A180, H⟩ := H
            replace H : (if t131 > t132 then (sandglasslaw02_SpanFaster.j1 kj4 a0 a2 a3 true) else ((span_Bytes.f a0 t130).bind fun t133 => ((span_Bytes.f a0 a2).bind fun t134 => (sandglasslaw02_SpanFaster.j1 kj4 a0 a2 a3 (decide (t133 < t134)))))) = some r := H
            have A18 := Aside0.mk A180
            clear A180
            by_cases c19 : t131 > t132
            · rw [if_pos c19] at H
              have c19b0 : decide (t132 < t131) = true := decide_eq_true c19
              clear c19
              have H' := Aside0.mk H
              clear H
              go_wp2_with (first | (go_at_call 9; (with_reducible refine (span_Time.calls a0 t130 t131 _ A17.out).mono ?_); rintro e w' ⟨rfl, ⟨nd, rfl⟩⟩) | (go_at_call 9; (with_reducible refine (span_Time.calls a0 a2 t132 _ A18.out).mono ?_); rintro e w' ⟨rfl, ⟨nd, rfl⟩⟩))
              go_meet
              case rel => exact ⟨_, (true), (by first | rfl | (simp; done) | (simp [*]; done)), H', ⟨by have := HJ4.out; first | omega | exact Nat.le_refl _⟩, by repeat (first | exact Drawn0.refl _ | apply Drawn0.step)⟩
            · rw [if_neg c19] at H
              have c19b0 : decide (t132 < t131) = false := decide_eq_false c19
              clear c19
              replace H := Option.bind_eq_some_iff.mp H
              obtain ⟨t133, A200, H⟩ := H
              replace H : ((span_Bytes.f a0 a2).bind fun t134 => (sandglasslaw02_SpanFaster.j1 kj4 a0 a2 a3 (decide (t133 < t134)))) = some r := H
              have A20 := Aside0.mk A200
              clear A200
              replace H := Option.bind_eq_some_iff.mp H
              obtain ⟨t134, A210, H⟩ := H
              replace H : (sandglasslaw02_SpanFaster.j1 kj4 a0 a2 a3 (decide (t133 < t134))) = some r := H
              have A21 := Aside0.mk A210
              clear A210
              have H' := Aside0.mk H
              clear H
              go_wp2_with (first | (go_at_call 9; (with_reducible refine (span_Time.calls a0 t130 t131 _ A17.out).mono ?_); rintro e w' ⟨rfl, ⟨nd, rfl⟩⟩) | (go_at_call 9; (with_reducible refine (span_Time.calls a0 a2 t132 _ A18.out).mono ?_); rintro e w' ⟨rfl, ⟨nd, rfl⟩⟩) | (go_at_call 11; (with_reducible refine (span_Bytes.calls a0 t130 t133 _ A20.out).mono ?_); rintro e w' ⟨rfl, ⟨nd, rfl⟩⟩) | (go_at_call 11; (with_reducible refine (span_Bytes.calls a0 a2 t134 _ A21.out).mono ?_); rintro e w' ⟨rfl, ⟨nd, rfl⟩⟩))
              go_meet
              case rel => exact ⟨_, (decide (t133 < t134)), (by first | rfl | (simp; done) | (simp [*]; done)), H', ⟨by have := HJ4.out; first | omega | exact Nat.le_refl _⟩, by repeat (first | exact Drawn0.refl _ | apply Drawn0.step)⟩
          · rw [if_neg c16] at H
            have c16b0 : decide (0 < a2) = false := decide_eq_false c16
            clear c16
            (first | rw [c16b0] | (simp only [i64_w, i32_w]; rw [c16b0]) | skip)
            have H' := Aside0.mk H
            clear H
            go_wp2
            go_meet
            case rel => exact ⟨_, (false), (by first | rfl | (simp; done) | (simp [*]; done)), H', ⟨by have := HJ4.out; first | omega | exact Nat.le_refl _⟩, by repeat (first | exact Drawn0.refl _ | apply Drawn0.step)⟩
        case rest =>
          clear HC15
          try clear c1
          try clear c2
          try clear p2
          try clear c4
          try clear c7
          try clear c9
          try clear c9b0
          try clear c13
          try clear c16
          try clear c16b0
          try clear c19
          try clear c19b0
          try clear c20
          try clear p2
          obtain ⟨kq, x53_14, rfl, HA, HJ14, ⟨mc14, rfl⟩⟩ := hcut
          cases kq with
          | zero => exact absurd HA.out (by simp [sandglasslaw02_SpanFaster.j1])
          | succ kj14 =>
            have H := HA.out
            clear HA
            simp only [sandglasslaw02_SpanFaster.j1] at H
            by_cases c22 : x53_14 = true
            · subst c22
              have H1 : (some false) = some r := by rw [if_pos rfl] at H; exact H
              clear H
              have H := H1
              clear H1
              obtain rfl := Option.some.inj H
              go_wp2
              go_ret
              exact ⟨by first | rfl | (simp; done) | (simp [*]; done), by repeat (first | exact Drawn0.refl _ | apply Drawn0.step)⟩
            · replace c22 := Bool.eq_false_iff.mpr c22
              subst c22
              have H1 : ((span_Lesser.f a2 a3).bind fun t135 => ((span_Lesser.f a3 a2).bind fun t136 => (if t135 = t136 then ((span_Time.f a0 t135).bind fun t137 => ((span_Time.f a0 a2).bind fun t138 => ((span_Time.f a0 a3).bind fun t139 => (if t137 = (mx t138 t139) then ((span_Bytes.f a0 t135).bind fun t140 => ((span_Bytes.f a0 a2).bind fun t141 => ((span_Bytes.f a0 a3).bind fun t142 => (if t140 = (mn t141 t142) then ((sandglasslaw02_awake.f).bind fun t143 => (some t143)) else (some false))))) else (some false))))) else (some false)))) = some r := by rw [if_neg (show ¬ (false = true) by decide)] at H; exact H
              clear H
              have H := H1
              clear H1
              replace H := Option.bind_eq_some_iff.mp H
              obtain ⟨t135, A230, H⟩ := H
              replace H : ((span_Lesser.f a3 a2).bind fun t136 => (if t135 = t136 then ((span_Time.f a0 t135).bind fun t137 => ((span_Time.f a0 a2).bind fun t138 => ((span_Time.f a0 a3).bind fun t139 => (if t137 = (mx t138 t139) then ((span_Bytes.f a0 t135).bind fun t140 => ((span_Bytes.f a0 a2).bind fun t141 => ((span_Bytes.f a0 a3).bind fun t142 => (if t140 = (mn t141 t142) then ((sandglasslaw02_awake.f).bind fun t143 => (some t143)) else (some false))))) else (some false))))) else (some false))) = some r := H
              have A23 := Aside0.mk A230
              clear A230
              replace H := Option.bind_eq_some_iff.mp H
              obtain ⟨t136, A240, H⟩ := H
              replace H : (if t135 = t136 then ((span_Time.f a0 t135).bind fun t137 => ((span_Time.f a0 a2).bind fun t138 => ((span_Time.f a0 a3).bind fun t139 => (if t137 = (mx t138 t139) then ((span_Bytes.f a0 t135).bind fun t140 => ((span_Bytes.f a0 a2).bind fun t141 => ((span_Bytes.f a0 a3).bind fun t142 => (if t140 = (mn t141 t142) then ((sandglasslaw02_awake.f).bind fun t143 => (some t143)) else (some false))))) else (some false))))) else (some false)) = some r := H
              have A24 := Aside0.mk A240
              clear A240
              by_cases c25 : t135 = t136
              · rw [if_pos c25] at H
                have c25b0 : (t135 == t136) = true := beq_iff_eq.mpr c25
                have c25b1 : (t135 != t136) = false := bne_eq_false_iff_eq.mpr c25
                clear c25
                replace H := Option.bind_eq_some_iff.mp H
                obtain ⟨t137, A260, H⟩ := H
                replace H : ((span_Time.f a0 a2).bind fun t138 => ((span_Time.f a0 a3).bind fun t139 => (if t137 = (mx t138 t139) then ((span_Bytes.f a0 t135).bind fun t140 => ((span_Bytes.f a0 a2).bind fun t141 => ((span_Bytes.f a0 a3).bind fun t142 => (if t140 = (mn t141 t142) then ((sandglasslaw02_awake.f).bind fun t143 => (some t143)) else (some false))))) else (some false)))) = some r := H
                have A26 := Aside0.mk A260
                clear A260
                replace H := Option.bind_eq_some_iff.mp H
                obtain ⟨t138, A270, H⟩ := H
                replace H : ((span_Time.f a0 a3).bind fun t139 => (if t137 = (mx t138 t139) then ((span_Bytes.f a0 t135).bind fun t140 => ((span_Bytes.f a0 a2).bind fun t141 => ((span_Bytes.f a0 a3).bind fun t142 => (if t140 = (mn t141 t142) then ((sandglasslaw02_awake.f).bind fun t143 => (some t143)) else (some false))))) else (some false))) = some r := H
                have A27 := Aside0.mk A270
                clear A270
                replace H := Option.bind_eq_some_iff.mp H
                obtain ⟨t139, A280, H⟩ := H
                replace H : (if t137 = (mx t138 t139) then ((span_Bytes.f a0 t135).bind fun t140 => ((span_Bytes.f a0 a2).bind fun t141 => ((span_Bytes.f a0 a3).bind fun t142 => (if t140 = (mn t141 t142) then ((sandglasslaw02_awake.f).bind fun t143 => (some t143)) else (some false))))) else (some false)) = some r := H
                have A28 := Aside0.mk A280
                clear A280
                obtain ⟨ji29, hji29⟩ : ∃ j_ : Int, (mx t138 t139) = j_ := ⟨_, rfl⟩
                replace H : (if t137 = (ji29) then ((span_Bytes.f a0 t135).bind fun t140 => ((span_Bytes.f a0 a2).bind fun t141 => ((span_Bytes.f a0 a3).bind fun t142 => (if t140 = (mn t141 t142) then ((sandglasslaw02_awake.f).bind fun t143 => (some t143)) else (some false))))) else (some false)) = some r := by first | (rw [hji29] at H; exact H) | (simp only [hji29] at H ⊢; exact H)
                (try rw [hji29] at A23)
                (try rw [hji29] at A24)
                (try rw [hji29] at A26)
                (try rw [hji29] at A27)
                (try rw [hji29] at A28)
                have hji29_ : (if t138 < t139 then t139 else t138) = ji29 := hji29
                by_cases c30 : t137 = (ji29)
                · rw [if_pos c30] at H
                  have c30b0 : (t137 == (ji29)) = true := beq_iff_eq.mpr c30
                  have c30b1 : (t137 != (ji29)) = false := bne_eq_false_iff_eq.mpr c30
                  clear c30
                  replace H := Option.bind_eq_some_iff.mp H
                  obtain ⟨t140, A310, H⟩ := H
                  replace H : ((span_Bytes.f a0 a2).bind fun t141 => ((span_Bytes.f a0 a3).bind fun t142 => (if t140 = (mn t141 t142) then ((sandglasslaw02_awake.f).bind fun t143 => (some t143)) else (some false)))) = some r := H
                  have A31 := Aside0.mk A310
                  clear A310
                  replace H := Option.bind_eq_some_iff.mp H
                  obtain ⟨t141, A320, H⟩ := H
                  replace H : ((span_Bytes.f a0 a3).bind fun t142 => (if t140 = (mn t141 t142) then ((sandglasslaw02_awake.f).bind fun t143 => (some t143)) else (some false))) = some r := H
                  have A32 := Aside0.mk A320
                  clear A320
                  replace H := Option.bind_eq_some_iff.mp H
                  obtain ⟨t142, A330, H⟩ := H
                  replace H : (if t140 = (mn t141 t142) then ((sandglasslaw02_awake.f).bind fun t143 => (some t143)) else (some false)) = some r := H
                  have A33 := Aside0.mk A330
                  clear A330
                  obtain ⟨ji34, hji34⟩ : ∃ j_ : Int, (mn t141 t142) = j_ := ⟨_, rfl⟩
                  replace H : (if t140 = (ji34) then ((sandglasslaw02_awake.f).bind fun t143 => (some t143)) else (some false)) = some r := by first | (rw [hji34] at H; exact H) | (simp only [hji34] at H ⊢; exact H)
                  (try rw [hji34] at A23)
                  (try rw [hji34] at A24)
                  (try rw [hji34] at A26)
                  (try rw [hji34] at A27)
                  (try rw [hji34] at A28)
                  (try rw [hji34] at A31)
                  (try rw [hji34] at A32)
                  (try rw [hji34] at A33)
                  have hji34_ : (if t142 < t141 then t142 else t141) = ji34 := hji34
                  by_cases c35 : t140 = (ji34)
                  · rw [if_pos c35] at H
                    have c35b0 : (t140 == (ji34)) = true := beq_iff_eq.mpr c35
                    have c35b1 : (t140 != (ji34)) = false := bne_eq_false_iff_eq.mpr c35
                    clear c35
                    replace H := Option.bind_eq_some_iff.mp H
                    obtain ⟨t143, A360, H⟩ := H
                    replace H : (some t143) = some r := H
                    have A36 := Aside0.mk A360
                    clear A360
                    obtain rfl := Option.some.inj H
                    go_wp2_with (first | ((with_reducible refine gate_callee (f := 13) rfl ?_); refine goesL_ (some 56) rfl rfl Try.func13 (by kernel_rfl) rfl #[.int .u64 a2, .int .u64 a3] rfl (by (try simp only [List.map_toArray, List.map_cons, List.map_nil]); first | done | rfl | (simp only [List.length_drop, List.length_take]; rfl)) ?_; (with_reducible refine (span_Lesser.calls a2 a3 t135 _ A23.out).mono ?_); rintro e w' ⟨rfl, ⟨nd, rfl⟩⟩; refine ⟨_, rfl, ?_⟩) | ((with_reducible refine gate_callee (f := 13) rfl ?_); refine goesL_ (some 60) rfl rfl Try.func13 (by kernel_rfl) rfl #[.int .u64 a3, .int .u64 a2] rfl (by (try simp only [List.map_toArray, List.map_cons, List.map_nil]); first | done | rfl | (simp only [List.length_drop, List.length_take]; rfl)) ?_; (with_reducible refine (span_Lesser.calls a3 a2 t136 _ A24.out).mono ?_); rintro e w' ⟨rfl, ⟨nd, rfl⟩⟩; refine ⟨_, rfl, ?_⟩) | (go_at_call 9; (with_reducible refine (span_Time.calls a0 t135 t137 _ A26.out).mono ?_); rintro e w' ⟨rfl, ⟨nd, rfl⟩⟩) | (go_at_call 9; (with_reducible refine (span_Time.calls a0 a2 t138 _ A27.out).mono ?_); rintro e w' ⟨rfl, ⟨nd, rfl⟩⟩) | (go_at_call 9; (with_reducible refine (span_Time.calls a0 a3 t139 _ A28.out).mono ?_); rintro e w' ⟨rfl, ⟨nd, rfl⟩⟩) | (go_at_call 11; (with_reducible refine (span_Bytes.calls a0 t135 t140 _ A31.out).mono ?_); rintro e w' ⟨rfl, ⟨nd, rfl⟩⟩) | (go_at_call 11; (with_reducible refine (span_Bytes.calls a0 a2 t141 _ A32.out).mono ?_); rintro e w' ⟨rfl, ⟨nd, rfl⟩⟩) | (go_at_call 11; (with_reducible refine (span_Bytes.calls a0 a3 t142 _ A33.out).mono ?_); rintro e w' ⟨rfl, ⟨nd, rfl⟩⟩) | (go_at_call 19; (with_reducible refine (sandglasslaw02_awake.calls  t143 _ A36.out).mono ?_); rintro e w' ⟨rfl, ⟨nd, rfl⟩⟩))
                    go_ret
                    exact ⟨by first | rfl | (simp; done) | (simp only [← hji29, ← hji34] <;> (first | rfl | simp)) | (simp [*]; done), by repeat (first | exact Drawn0.refl _ | apply Drawn0.step)⟩
                  · rw [if_neg c35] at H
                    have c35b0 : (t140 == (ji34)) = false := beq_eq_false_iff_ne.mpr c35
                    have c35b1 : (t140 != (ji34)) = true := bne_iff_ne.mpr c35
                    obtain rfl := Option.some.inj H
                    go_wp2_with (first | ((with_reducible refine gate_callee (f := 13) rfl ?_); refine goesL_ (some 56) rfl rfl Try.func13 (by kernel_rfl) rfl #[.int .u64 a2, .int .u64 a3] rfl (by (try simp only [List.map_toArray, List.map_cons, List.map_nil]); first | done | rfl | (simp only [List.length_drop, List.length_take]; rfl)) ?_; (with_reducible refine (span_Lesser.calls a2 a3 t135 _ A23.out).mono ?_); rintro e w' ⟨rfl, ⟨nd, rfl⟩⟩; refine ⟨_, rfl, ?_⟩) | ((with_reducible refine gate_callee (f := 13) rfl ?_); refine goesL_ (some 60) rfl rfl Try.func13 (by kernel_rfl) rfl #[.int .u64 a3, .int .u64 a2] rfl (by (try simp only [List.map_toArray, List.map_cons, List.map_nil]); first | done | rfl | (simp only [List.length_drop, List.length_take]; rfl)) ?_; (with_reducible refine (span_Lesser.calls a3 a2 t136 _ A24.out).mono ?_); rintro e w' ⟨rfl, ⟨nd, rfl⟩⟩; refine ⟨_, rfl, ?_⟩) | (go_at_call 9; (with_reducible refine (span_Time.calls a0 t135 t137 _ A26.out).mono ?_); rintro e w' ⟨rfl, ⟨nd, rfl⟩⟩) | (go_at_call 9; (with_reducible refine (span_Time.calls a0 a2 t138 _ A27.out).mono ?_); rintro e w' ⟨rfl, ⟨nd, rfl⟩⟩) | (go_at_call 9; (with_reducible refine (span_Time.calls a0 a3 t139 _ A28.out).mono ?_); rintro e w' ⟨rfl, ⟨nd, rfl⟩⟩) | (go_at_call 11; (with_reducible refine (span_Bytes.calls a0 t135 t140 _ A31.out).mono ?_); rintro e w' ⟨rfl, ⟨nd, rfl⟩⟩) | (go_at_call 11; (with_reducible refine (span_Bytes.calls a0 a2 t141 _ A32.out).mono ?_); rintro e w' ⟨rfl, ⟨nd, rfl⟩⟩) | (go_at_call 11; (with_reducible refine (span_Bytes.calls a0 a3 t142 _ A33.out).mono ?_); rintro e w' ⟨rfl, ⟨nd, rfl⟩⟩))
                    go_ret
                    exact ⟨by first | rfl | (simp; done) | (simp only [← hji29, ← hji34] <;> (first | rfl | simp)) | (simp [*]; done), by repeat (first | exact Drawn0.refl _ | apply Drawn0.step)⟩
                · rw [if_neg c30] at H
                  have c30b0 : (t137 == (ji29)) = false := beq_eq_false_iff_ne.mpr c30
                  have c30b1 : (t137 != (ji29)) = true := bne_iff_ne.mpr c30
                  obtain rfl := Option.some.inj H
                  go_wp2_with (first | ((with_reducible refine gate_callee (f := 13) rfl ?_); refine goesL_ (some 56) rfl rfl Try.func13 (by kernel_rfl) rfl #[.int .u64 a2, .int .u64 a3] rfl (by (try simp only [List.map_toArray, List.map_cons, List.map_nil]); first | done | rfl | (simp only [List.length_drop, List.length_take]; rfl)) ?_; (with_reducible refine (span_Lesser.calls a2 a3 t135 _ A23.out).mono ?_); rintro e w' ⟨rfl, ⟨nd, rfl⟩⟩; refine ⟨_, rfl, ?_⟩) | ((with_reducible refine gate_callee (f := 13) rfl ?_); refine goesL_ (some 60) rfl rfl Try.func13 (by kernel_rfl) rfl #[.int .u64 a3, .int .u64 a2] rfl (by (try simp only [List.map_toArray, List.map_cons, List.map_nil]); first | done | rfl | (simp only [List.length_drop, List.length_take]; rfl)) ?_; (with_reducible refine (span_Lesser.calls a3 a2 t136 _ A24.out).mono ?_); rintro e w' ⟨rfl, ⟨nd, rfl⟩⟩; refine ⟨_, rfl, ?_⟩) | (go_at_call 9; (with_reducible refine (span_Time.calls a0 t135 t137 _ A26.out).mono ?_); rintro e w' ⟨rfl, ⟨nd, rfl⟩⟩) | (go_at_call 9; (with_reducible refine (span_Time.calls a0 a2 t138 _ A27.out).mono ?_); rintro e w' ⟨rfl, ⟨nd, rfl⟩⟩) | (go_at_call 9; (with_reducible refine (span_Time.calls a0 a3 t139 _ A28.out).mono ?_); rintro e w' ⟨rfl, ⟨nd, rfl⟩⟩))
                  go_ret
                  exact ⟨by first | rfl | (simp; done) | (simp only [← hji29] <;> (first | rfl | simp)) | (simp [*]; done), by repeat (first | exact Drawn0.refl _ | apply Drawn0.step)⟩
              · rw [if_neg c25] at H
                have c25b0 : (t135 == t136) = false := beq_eq_false_iff_ne.mpr c25
                have c25b1 : (t135 != t136) = true := bne_iff_ne.mpr c25
                obtain rfl := Option.some.inj H
                go_wp2_with (first | ((with_reducible refine gate_callee (f := 13) rfl ?_); refine goesL_ (some 56) rfl rfl Try.func13 (by kernel_rfl) rfl #[.int .u64 a2, .int .u64 a3] rfl (by (try simp only [List.map_toArray, List.map_cons, List.map_nil]); first | done | rfl | (simp only [List.length_drop, List.length_take]; rfl)) ?_; (with_reducible refine (span_Lesser.calls a2 a3 t135 _ A23.out).mono ?_); rintro e w' ⟨rfl, ⟨nd, rfl⟩⟩; refine ⟨_, rfl, ?_⟩) | ((with_reducible refine gate_callee (f := 13) rfl ?_); refine goesL_ (some 60) rfl rfl Try.func13 (by kernel_rfl) rfl #[.int .u64 a3, .int .u64 a2] rfl (by (try simp only [List.map_toArray, List.map_cons, List.map_nil]); first | done | rfl | (simp only [List.length_drop, List.length_take]; rfl)) ?_; (with_reducible refine (span_Lesser.calls a3 a2 t136 _ A24.out).mono ?_); rintro e w' ⟨rfl, ⟨nd, rfl⟩⟩; refine ⟨_, rfl, ?_⟩))
                go_ret
                exact ⟨by first | rfl | (simp; done) | (simp [*]; done), by repeat (first | exact Drawn0.refl _ | apply Drawn0.step)⟩

/-- THE ONE PURE STATEMENT of sandglasslaw02_SpanFaster: yours. -/
def sandglasslaw02_SpanFaster.Pure : Prop := ∀ (a0 : Int) (a1 : Int) (a2 : Int) (a3 : Int), (Lit.int .u64 a0).wf = true → (Lit.int .u64 a1).wf = true → (Lit.int .u64 a2).wf = true → (Lit.int .u64 a3).wf = true → ∃ k, sandglasslaw02_SpanFaster.f k a0 a1 a2 a3 = some true
theorem sandglasslaw02_SpanFaster.walk (P : sandglasslaw02_SpanFaster.Pure) (a0 : Int) (a1 : Int) (a2 : Int) (a3 : Int) (w : World) (w0 : (Lit.int .u64 a0).wf = true) (w1 : (Lit.int .u64 a1).wf = true) (w2 : (Lit.int .u64 a2).wf = true) (w3 : (Lit.int .u64 a3).wf = true) :
    Calls Try.prog 7 #[.int .u64 a0, .int .u64 a1, .int .u64 a2, .int .u64 a3] w fun e w' => e = .returned (.bool true) ∧ Below w.heap.size w w' := by
  obtain ⟨k, h⟩ := P a0 a1 a2 a3 w0 w1 w2 w3
  refine (sandglasslaw02_SpanFaster.calls k a0 a1 a2 a3 true w h).mono ?_
  rintro e w' ⟨rfl, hd⟩
  exact ⟨rfl, hd.below⟩

/-! ### sandglasslaw02_SpanOrder: function 8 -/
def sandglasslaw02_SpanOrder.f (a0 : Int) (a1 : Int) (a2 : Int) (a3 : Int) : Option (Bool) := (span_Slot.f (mn a0 a1) a2).bind fun t144 => ((span_Slot.f (mx a0 a1) a2).bind fun t145 => (if t144 ≤ t145 then ((sat_Add.f (mx a2 1) a3).bind fun t146 => ((span_Slot.f a0 t146).bind fun t147 => ((span_Slot.f a0 a2).bind fun t148 => (if t147 ≤ t148 then ((span_Begin.f (mn a0 a1) a2).bind fun t149 => ((span_Begin.f (mx a0 a1) a2).bind fun t150 => (if t149 ≤ t150 then ((span_Begin.f a0 a2).bind fun t151 => ((sat_Add.f (mx a2 1) a3).bind fun t152 => ((span_Begin.f a0 t152).bind fun t153 => (if t151 ≤ t153 then ((sandglasslaw02_awake.f).bind fun t154 => (some t154)) else (some false))))) else (some false)))) else (some false))))) else (some false)))
set_option maxHeartbeats 8000000 in
set_option maxRecDepth 100000 in
theorem sandglasslaw02_SpanOrder.calls (a0 : Int) (a1 : Int) (a2 : Int) (a3 : Int) (r : Bool) (w : World) (h : sandglasslaw02_SpanOrder.f a0 a1 a2 a3 = some r) :
    Calls Try.prog 8 #[.int .u64 a0, .int .u64 a1, .int .u64 a2, .int .u64 a3] w fun e w' => e = .returned (.bool r) ∧ Drawn0 w w' := by
  have H : ((span_Slot.f (mn a0 a1) a2).bind fun t144 => ((span_Slot.f (mx a0 a1) a2).bind fun t145 => (if t144 ≤ t145 then ((sat_Add.f (mx a2 1) a3).bind fun t146 => ((span_Slot.f a0 t146).bind fun t147 => ((span_Slot.f a0 a2).bind fun t148 => (if t147 ≤ t148 then ((span_Begin.f (mn a0 a1) a2).bind fun t149 => ((span_Begin.f (mx a0 a1) a2).bind fun t150 => (if t149 ≤ t150 then ((span_Begin.f a0 a2).bind fun t151 => ((sat_Add.f (mx a2 1) a3).bind fun t152 => ((span_Begin.f a0 t152).bind fun t153 => (if t151 ≤ t153 then ((sandglasslaw02_awake.f).bind fun t154 => (some t154)) else (some false))))) else (some false)))) else (some false))))) else (some false)))) = some r := h
  clear h
  obtain ⟨ji5, hji5⟩ : ∃ j_ : Int, (mn a0 a1) = j_ := ⟨_, rfl⟩
  replace H : ((span_Slot.f (ji5) a2).bind fun t144 => ((span_Slot.f (mx a0 a1) a2).bind fun t145 => (if t144 ≤ t145 then ((sat_Add.f (mx a2 1) a3).bind fun t146 => ((span_Slot.f a0 t146).bind fun t147 => ((span_Slot.f a0 a2).bind fun t148 => (if t147 ≤ t148 then ((span_Begin.f (ji5) a2).bind fun t149 => ((span_Begin.f (mx a0 a1) a2).bind fun t150 => (if t149 ≤ t150 then ((span_Begin.f a0 a2).bind fun t151 => ((sat_Add.f (mx a2 1) a3).bind fun t152 => ((span_Begin.f a0 t152).bind fun t153 => (if t151 ≤ t153 then ((sandglasslaw02_awake.f).bind fun t154 => (some t154)) else (some false))))) else (some false)))) else (some false))))) else (some false)))) = some r := by first | (rw [hji5] at H; exact H) | (simp only [hji5] at H ⊢; exact H)
  have hji5_ : (if a1 < a0 then a1 else a0) = ji5 := hji5
  obtain ⟨ji6, hji6⟩ : ∃ j_ : Int, (mx a0 a1) = j_ := ⟨_, rfl⟩
  replace H : ((span_Slot.f (ji5) a2).bind fun t144 => ((span_Slot.f (ji6) a2).bind fun t145 => (if t144 ≤ t145 then ((sat_Add.f (mx a2 1) a3).bind fun t146 => ((span_Slot.f a0 t146).bind fun t147 => ((span_Slot.f a0 a2).bind fun t148 => (if t147 ≤ t148 then ((span_Begin.f (ji5) a2).bind fun t149 => ((span_Begin.f (ji6) a2).bind fun t150 => (if t149 ≤ t150 then ((span_Begin.f a0 a2).bind fun t151 => ((sat_Add.f (mx a2 1) a3).bind fun t152 => ((span_Begin.f a0 t152).bind fun t153 => (if t151 ≤ t153 then ((sandglasslaw02_awake.f).bind fun t154 => (some t154)) else (some false))))) else (some false)))) else (some false))))) else (some false)))) = some r := by first | (rw [hji6] at H; exact H) | (simp only [hji6] at H ⊢; exact H)
  have hji6_ : (if a0 < a1 then a1 else a0) = ji6 := hji6
  replace H := Option.bind_eq_some_iff.mp H
  obtain ⟨t144, A70, H⟩ := H
  replace H : ((span_Slot.f (ji6) a2).bind fun t145 => (if t144 ≤ t145 then ((sat_Add.f (mx a2 1) a3).bind fun t146 => ((span_Slot.f a0 t146).bind fun t147 => ((span_Slot.f a0 a2).bind fun t148 => (if t147 ≤ t148 then ((span_Begin.f (ji5) a2).bind fun t149 => ((span_Begin.f (ji6) a2).bind fun t150 => (if t149 ≤ t150 then ((span_Begin.f a0 a2).bind fun t151 => ((sat_Add.f (mx a2 1) a3).bind fun t152 => ((span_Begin.f a0 t152).bind fun t153 => (if t151 ≤ t153 then ((sandglasslaw02_awake.f).bind fun t154 => (some t154)) else (some false))))) else (some false)))) else (some false))))) else (some false))) = some r := H
  have A7 := Aside0.mk A70
  clear A70
  replace H := Option.bind_eq_some_iff.mp H
  obtain ⟨t145, A80, H⟩ := H
  replace H : (if t144 ≤ t145 then ((sat_Add.f (mx a2 1) a3).bind fun t146 => ((span_Slot.f a0 t146).bind fun t147 => ((span_Slot.f a0 a2).bind fun t148 => (if t147 ≤ t148 then ((span_Begin.f (ji5) a2).bind fun t149 => ((span_Begin.f (ji6) a2).bind fun t150 => (if t149 ≤ t150 then ((span_Begin.f a0 a2).bind fun t151 => ((sat_Add.f (mx a2 1) a3).bind fun t152 => ((span_Begin.f a0 t152).bind fun t153 => (if t151 ≤ t153 then ((sandglasslaw02_awake.f).bind fun t154 => (some t154)) else (some false))))) else (some false)))) else (some false))))) else (some false)) = some r := H
  have A8 := Aside0.mk A80
  clear A80
  by_cases c9 : t144 ≤ t145
  · rw [if_pos c9] at H
    have c9b0 : decide (t144 ≤ t145) = true := decide_eq_true c9
    clear c9
    obtain ⟨ji10, hji10⟩ : ∃ j_ : Int, (mx a2 1) = j_ := ⟨_, rfl⟩
    replace H : ((sat_Add.f (ji10) a3).bind fun t146 => ((span_Slot.f a0 t146).bind fun t147 => ((span_Slot.f a0 a2).bind fun t148 => (if t147 ≤ t148 then ((span_Begin.f (ji5) a2).bind fun t149 => ((span_Begin.f (ji6) a2).bind fun t150 => (if t149 ≤ t150 then ((span_Begin.f a0 a2).bind fun t151 => ((sat_Add.f (ji10) a3).bind fun t152 => ((span_Begin.f a0 t152).bind fun t153 => (if t151 ≤ t153 then ((sandglasslaw02_awake.f).bind fun t154 => (some t154)) else (some false))))) else (some false)))) else (some false))))) = some r := by first | (rw [hji10] at H; exact H) | (simp only [hji10] at H ⊢; exact H)
    (try rw [hji10] at A7)
    (try rw [hji10] at A8)
    (try (have hji10l : 1 ≤ ji10 := by (rw [← hji10]; unfold mx; (repeat' split) <;> omega)))
    (try (have hji10m : 0 ≤ ji10 := by omega))
    have hji10_ : (if a2 < 1 then 1 else a2) = ji10 := hji10
    replace H := Option.bind_eq_some_iff.mp H
    obtain ⟨t146, A110, H⟩ := H
    replace H : ((span_Slot.f a0 t146).bind fun t147 => ((span_Slot.f a0 a2).bind fun t148 => (if t147 ≤ t148 then ((span_Begin.f (ji5) a2).bind fun t149 => ((span_Begin.f (ji6) a2).bind fun t150 => (if t149 ≤ t150 then ((span_Begin.f a0 a2).bind fun t151 => ((sat_Add.f (ji10) a3).bind fun t152 => ((span_Begin.f a0 t152).bind fun t153 => (if t151 ≤ t153 then ((sandglasslaw02_awake.f).bind fun t154 => (some t154)) else (some false))))) else (some false)))) else (some false)))) = some r := H
    have A11 := Aside0.mk A110
    clear A110
    replace H := Option.bind_eq_some_iff.mp H
    obtain ⟨t147, A120, H⟩ := H
    replace H : ((span_Slot.f a0 a2).bind fun t148 => (if t147 ≤ t148 then ((span_Begin.f (ji5) a2).bind fun t149 => ((span_Begin.f (ji6) a2).bind fun t150 => (if t149 ≤ t150 then ((span_Begin.f a0 a2).bind fun t151 => ((sat_Add.f (ji10) a3).bind fun t152 => ((span_Begin.f a0 t152).bind fun t153 => (if t151 ≤ t153 then ((sandglasslaw02_awake.f).bind fun t154 => (some t154)) else (some false))))) else (some false)))) else (some false))) = some r := H
    have A12 := Aside0.mk A120
    clear A120
    replace H := Option.bind_eq_some_iff.mp H
    obtain ⟨t148, A130, H⟩ := H
    replace H : (if t147 ≤ t148 then ((span_Begin.f (ji5) a2).bind fun t149 => ((span_Begin.f (ji6) a2).bind fun t150 => (if t149 ≤ t150 then ((span_Begin.f a0 a2).bind fun t151 => ((sat_Add.f (ji10) a3).bind fun t152 => ((span_Begin.f a0 t152).bind fun t153 => (if t151 ≤ t153 then ((sandglasslaw02_awake.f).bind fun t154 => (some t154)) else (some false))))) else (some false)))) else (some false)) = some r := H
    have A13 := Aside0.mk A130
    clear A130
    by_cases c14 : t147 ≤ t148
    · rw [if_pos c14] at H
      have c14b0 : decide (t147 ≤ t148) = true := decide_eq_true c14
      clear c14
      replace H := Option.bind_eq_some_iff.mp H
      obtain ⟨t149, A150, H⟩ := H
      replace H : ((span_Begin.f (ji6) a2).bind fun t150 => (if t149 ≤ t150 then ((span_Begin.f a0 a2).bind fun t151 => ((sat_Add.f (ji10) a3).bind fun t152 => ((span_Begin.f a0 t152).bind fun t153 => (if t151 ≤ t153 then ((sandglasslaw02_awake.f).bind fun t154 => (some t154)) else (some false))))) else (some false))) = some r := H
      have A15 := Aside0.mk A150
      clear A150
      replace H := Option.bind_eq_some_iff.mp H
      obtain ⟨t150, A160, H⟩ := H
      replace H : (if t149 ≤ t150 then ((span_Begin.f a0 a2).bind fun t151 => ((sat_Add.f (ji10) a3).bind fun t152 => ((span_Begin.f a0 t152).bind fun t153 => (if t151 ≤ t153 then ((sandglasslaw02_awake.f).bind fun t154 => (some t154)) else (some false))))) else (some false)) = some r := H
      have A16 := Aside0.mk A160
      clear A160
      by_cases c17 : t149 ≤ t150
      · rw [if_pos c17] at H
        have c17b0 : decide (t149 ≤ t150) = true := decide_eq_true c17
        clear c17
        replace H := Option.bind_eq_some_iff.mp H
        obtain ⟨t151, A180, H⟩ := H
        replace H : ((sat_Add.f (ji10) a3).bind fun t152 => ((span_Begin.f a0 t152).bind fun t153 => (if t151 ≤ t153 then ((sandglasslaw02_awake.f).bind fun t154 => (some t154)) else (some false)))) = some r := H
        have A18 := Aside0.mk A180
        clear A180
        replace H := Option.bind_eq_some_iff.mp H
        obtain ⟨t152, A190, H⟩ := H
        have EA19 := Option.some.inj (A11.out.symm.trans A190)
        subst EA19
        clear A190
        replace H : ((span_Begin.f a0 t146).bind fun t153 => (if t151 ≤ t153 then ((sandglasslaw02_awake.f).bind fun t154 => (some t154)) else (some false))) = some r := H
        replace H := Option.bind_eq_some_iff.mp H
        obtain ⟨t153, A200, H⟩ := H
        replace H : (if t151 ≤ t153 then ((sandglasslaw02_awake.f).bind fun t154 => (some t154)) else (some false)) = some r := H
        have A20 := Aside0.mk A200
        clear A200
        by_cases c21 : t151 ≤ t153
        · rw [if_pos c21] at H
          have c21b0 : decide (t151 ≤ t153) = true := decide_eq_true c21
          clear c21
          replace H := Option.bind_eq_some_iff.mp H
          obtain ⟨t154, A220, H⟩ := H
          replace H : (some t154) = some r := H
          have A22 := Aside0.mk A220
          clear A220
          obtain rfl := Option.some.inj H
          go_enter Try.func8, Try.ntmps8
          go_wp2_with (first | ((with_reducible refine gate_callee (f := 15) rfl ?_); refine goesL_ (some 19) rfl rfl Try.func15 (by kernel_rfl) rfl #[.int .u64 ji5, .int .u64 a2] rfl (by (try simp only [List.map_toArray, List.map_cons, List.map_nil]); first | done | (simp only [hji5]; rfl) | rfl | (simp only [List.length_drop, List.length_take]; rfl)) ?_; (with_reducible refine (span_Slot.calls ji5 a2 t144 _ A7.out).mono ?_); rintro e w' ⟨rfl, ⟨nd, rfl⟩⟩; refine ⟨_, rfl, ?_⟩) | ((with_reducible refine gate_callee (f := 15) rfl ?_); refine goesL_ (some 22) rfl rfl Try.func15 (by kernel_rfl) rfl #[.int .u64 ji6, .int .u64 a2] rfl (by (try simp only [List.map_toArray, List.map_cons, List.map_nil]); first | done | (simp only [hji6]; rfl) | rfl | (simp only [List.length_drop, List.length_take]; rfl)) ?_; (with_reducible refine (span_Slot.calls ji6 a2 t145 _ A8.out).mono ?_); rintro e w' ⟨rfl, ⟨nd, rfl⟩⟩; refine ⟨_, rfl, ?_⟩) | (go_at_call 20; (with_reducible refine (sat_Add.calls ji10 a3 t146 _ A11.out).mono ?_); rintro e w' ⟨rfl, ⟨nd, rfl⟩⟩) | (go_at_call 15; (with_reducible refine (span_Slot.calls a0 t146 t147 _ A12.out).mono ?_); rintro e w' ⟨rfl, ⟨nd, rfl⟩⟩) | (go_at_call 15; (with_reducible refine (span_Slot.calls a0 a2 t148 _ A13.out).mono ?_); rintro e w' ⟨rfl, ⟨nd, rfl⟩⟩) | (go_at_call 17; (with_reducible refine (span_Begin.calls ji5 a2 t149 _ A15.out).mono ?_); rintro e w' ⟨rfl, ⟨nd, rfl⟩⟩) | (go_at_call 17; (with_reducible refine (span_Begin.calls ji6 a2 t150 _ A16.out).mono ?_); rintro e w' ⟨rfl, ⟨nd, rfl⟩⟩) | (go_at_call 17; (with_reducible refine (span_Begin.calls a0 a2 t151 _ A18.out).mono ?_); rintro e w' ⟨rfl, ⟨nd, rfl⟩⟩) | (go_at_call 20; (with_reducible refine (sat_Add.calls ji10 a3 t146 _ A11.out).mono ?_); rintro e w' ⟨rfl, ⟨nd, rfl⟩⟩) | (go_at_call 17; (with_reducible refine (span_Begin.calls a0 t146 t153 _ A20.out).mono ?_); rintro e w' ⟨rfl, ⟨nd, rfl⟩⟩) | (go_at_call 19; (with_reducible refine (sandglasslaw02_awake.calls  t154 _ A22.out).mono ?_); rintro e w' ⟨rfl, ⟨nd, rfl⟩⟩))
          go_ret
          exact ⟨by first | rfl | (simp; done) | (simp only [← hji5, ← hji6, ← hji10] <;> (first | rfl | simp)) | (simp [*]; done), by repeat (first | exact Drawn0.refl _ | apply Drawn0.step)⟩
        · rw [if_neg c21] at H
          have c21b0 : decide (t151 ≤ t153) = false := decide_eq_false c21
          clear c21
          obtain rfl := Option.some.inj H
          go_enter Try.func8, Try.ntmps8
          go_wp2_with (first | ((with_reducible refine gate_callee (f := 15) rfl ?_); refine goesL_ (some 19) rfl rfl Try.func15 (by kernel_rfl) rfl #[.int .u64 ji5, .int .u64 a2] rfl (by (try simp only [List.map_toArray, List.map_cons, List.map_nil]); first | done | (simp only [hji5]; rfl) | rfl | (simp only [List.length_drop, List.length_take]; rfl)) ?_; (with_reducible refine (span_Slot.calls ji5 a2 t144 _ A7.out).mono ?_); rintro e w' ⟨rfl, ⟨nd, rfl⟩⟩; refine ⟨_, rfl, ?_⟩) | ((with_reducible refine gate_callee (f := 15) rfl ?_); refine goesL_ (some 22) rfl rfl Try.func15 (by kernel_rfl) rfl #[.int .u64 ji6, .int .u64 a2] rfl (by (try simp only [List.map_toArray, List.map_cons, List.map_nil]); first | done | (simp only [hji6]; rfl) | rfl | (simp only [List.length_drop, List.length_take]; rfl)) ?_; (with_reducible refine (span_Slot.calls ji6 a2 t145 _ A8.out).mono ?_); rintro e w' ⟨rfl, ⟨nd, rfl⟩⟩; refine ⟨_, rfl, ?_⟩) | (go_at_call 20; (with_reducible refine (sat_Add.calls ji10 a3 t146 _ A11.out).mono ?_); rintro e w' ⟨rfl, ⟨nd, rfl⟩⟩) | (go_at_call 15; (with_reducible refine (span_Slot.calls a0 t146 t147 _ A12.out).mono ?_); rintro e w' ⟨rfl, ⟨nd, rfl⟩⟩) | (go_at_call 15; (with_reducible refine (span_Slot.calls a0 a2 t148 _ A13.out).mono ?_); rintro e w' ⟨rfl, ⟨nd, rfl⟩⟩) | (go_at_call 17; (with_reducible refine (span_Begin.calls ji5 a2 t149 _ A15.out).mono ?_); rintro e w' ⟨rfl, ⟨nd, rfl⟩⟩) | (go_at_call 17; (with_reducible refine (span_Begin.calls ji6 a2 t150 _ A16.out).mono ?_); rintro e w' ⟨rfl, ⟨nd, rfl⟩⟩) | (go_at_call 17; (with_reducible refine (span_Begin.calls a0 a2 t151 _ A18.out).mono ?_); rintro e w' ⟨rfl, ⟨nd, rfl⟩⟩) | (go_at_call 20; (with_reducible refine (sat_Add.calls ji10 a3 t146 _ A11.out).mono ?_); rintro e w' ⟨rfl, ⟨nd, rfl⟩⟩) | (go_at_call 17; (with_reducible refine (span_Begin.calls a0 t146 t153 _ A20.out).mono ?_); rintro e w' ⟨rfl, ⟨nd, rfl⟩⟩))
          go_ret
          exact ⟨by first | rfl | (simp; done) | (simp only [← hji5, ← hji6, ← hji10] <;> (first | rfl | simp)) | (simp [*]; done), by repeat (first | exact Drawn0.refl _ | apply Drawn0.step)⟩
      · rw [if_neg c17] at H
        have c17b0 : decide (t149 ≤ t150) = false := decide_eq_false c17
        clear c17
        obtain rfl := Option.some.inj H
        go_enter Try.func8, Try.ntmps8
        go_wp2_with (first | ((with_reducible refine gate_callee (f := 15) rfl ?_); refine goesL_ (some 19) rfl rfl Try.func15 (by kernel_rfl) rfl #[.int .u64 ji5, .int .u64 a2] rfl (by (try simp only [List.map_toArray, List.map_cons, List.map_nil]); first | done | (simp only [hji5]; rfl) | rfl | (simp only [List.length_drop, List.length_take]; rfl)) ?_; (with_reducible refine (span_Slot.calls ji5 a2 t144 _ A7.out).mono ?_); rintro e w' ⟨rfl, ⟨nd, rfl⟩⟩; refine ⟨_, rfl, ?_⟩) | ((with_reducible refine gate_callee (f := 15) rfl ?_); refine goesL_ (some 22) rfl rfl Try.func15 (by kernel_rfl) rfl #[.int .u64 ji6, .int .u64 a2] rfl (by (try simp only [List.map_toArray, List.map_cons, List.map_nil]); first | done | (simp only [hji6]; rfl) | rfl | (simp only [List.length_drop, List.length_take]; rfl)) ?_; (with_reducible refine (span_Slot.calls ji6 a2 t145 _ A8.out).mono ?_); rintro e w' ⟨rfl, ⟨nd, rfl⟩⟩; refine ⟨_, rfl, ?_⟩) | (go_at_call 20; (with_reducible refine (sat_Add.calls ji10 a3 t146 _ A11.out).mono ?_); rintro e w' ⟨rfl, ⟨nd, rfl⟩⟩) | (go_at_call 15; (with_reducible refine (span_Slot.calls a0 t146 t147 _ A12.out).mono ?_); rintro e w' ⟨rfl, ⟨nd, rfl⟩⟩) | (go_at_call 15; (with_reducible refine (span_Slot.calls a0 a2 t148 _ A13.out).mono ?_); rintro e w' ⟨rfl, ⟨nd, rfl⟩⟩) | (go_at_call 17; (with_reducible refine (span_Begin.calls ji5 a2 t149 _ A15.out).mono ?_); rintro e w' ⟨rfl, ⟨nd, rfl⟩⟩) | (go_at_call 17; (with_reducible refine (span_Begin.calls ji6 a2 t150 _ A16.out).mono ?_); rintro e w' ⟨rfl, ⟨nd, rfl⟩⟩))
        go_ret
        exact ⟨by first | rfl | (simp; done) | (simp only [← hji5, ← hji6, ← hji10] <;> (first | rfl | simp)) | (simp [*]; done), by repeat (first | exact Drawn0.refl _ | apply Drawn0.step)⟩
    · rw [if_neg c14] at H
      have c14b0 : decide (t147 ≤ t148) = false := decide_eq_false c14
      clear c14
      obtain rfl := Option.some.inj H
      go_enter Try.func8, Try.ntmps8
      go_wp2_with (first | ((with_reducible refine gate_callee (f := 15) rfl ?_); refine goesL_ (some 19) rfl rfl Try.func15 (by kernel_rfl) rfl #[.int .u64 ji5, .int .u64 a2] rfl (by (try simp only [List.map_toArray, List.map_cons, List.map_nil]); first | done | (simp only [hji5]; rfl) | rfl | (simp only [List.length_drop, List.length_take]; rfl)) ?_; (with_reducible refine (span_Slot.calls ji5 a2 t144 _ A7.out).mono ?_); rintro e w' ⟨rfl, ⟨nd, rfl⟩⟩; refine ⟨_, rfl, ?_⟩) | ((with_reducible refine gate_callee (f := 15) rfl ?_); refine goesL_ (some 22) rfl rfl Try.func15 (by kernel_rfl) rfl #[.int .u64 ji6, .int .u64 a2] rfl (by (try simp only [List.map_toArray, List.map_cons, List.map_nil]); first | done | (simp only [hji6]; rfl) | rfl | (simp only [List.length_drop, List.length_take]; rfl)) ?_; (with_reducible refine (span_Slot.calls ji6 a2 t145 _ A8.out).mono ?_); rintro e w' ⟨rfl, ⟨nd, rfl⟩⟩; refine ⟨_, rfl, ?_⟩) | (go_at_call 20; (with_reducible refine (sat_Add.calls ji10 a3 t146 _ A11.out).mono ?_); rintro e w' ⟨rfl, ⟨nd, rfl⟩⟩) | (go_at_call 15; (with_reducible refine (span_Slot.calls a0 t146 t147 _ A12.out).mono ?_); rintro e w' ⟨rfl, ⟨nd, rfl⟩⟩) | (go_at_call 15; (with_reducible refine (span_Slot.calls a0 a2 t148 _ A13.out).mono ?_); rintro e w' ⟨rfl, ⟨nd, rfl⟩⟩))
      go_ret
      exact ⟨by first | rfl | (simp; done) | (simp only [← hji5, ← hji6, ← hji10] <;> (first | rfl | simp)) | (simp [*]; done), by repeat (first | exact Drawn0.refl _ | apply Drawn0.step)⟩
  · rw [if_neg c9] at H
    have c9b0 : decide (t144 ≤ t145) = false := decide_eq_false c9
    clear c9
    obtain rfl := Option.some.inj H
    go_enter Try.func8, Try.ntmps8
    go_wp2_with (first | ((with_reducible refine gate_callee (f := 15) rfl ?_); refine goesL_ (some 19) rfl rfl Try.func15 (by kernel_rfl) rfl #[.int .u64 ji5, .int .u64 a2] rfl (by (try simp only [List.map_toArray, List.map_cons, List.map_nil]); first | done | (simp only [hji5]; rfl) | rfl | (simp only [List.length_drop, List.length_take]; rfl)) ?_; (with_reducible refine (span_Slot.calls ji5 a2 t144 _ A7.out).mono ?_); rintro e w' ⟨rfl, ⟨nd, rfl⟩⟩; refine ⟨_, rfl, ?_⟩) | ((with_reducible refine gate_callee (f := 15) rfl ?_); refine goesL_ (some 22) rfl rfl Try.func15 (by kernel_rfl) rfl #[.int .u64 ji6, .int .u64 a2] rfl (by (try simp only [List.map_toArray, List.map_cons, List.map_nil]); first | done | (simp only [hji6]; rfl) | rfl | (simp only [List.length_drop, List.length_take]; rfl)) ?_; (with_reducible refine (span_Slot.calls ji6 a2 t145 _ A8.out).mono ?_); rintro e w' ⟨rfl, ⟨nd, rfl⟩⟩; refine ⟨_, rfl, ?_⟩))
    go_ret
    exact ⟨by first | rfl | (simp; done) | (simp only [← hji5, ← hji6] <;> (first | rfl | simp)) | (simp [*]; done), by repeat (first | exact Drawn0.refl _ | apply Drawn0.step)⟩

/-- THE ONE PURE STATEMENT of sandglasslaw02_SpanOrder: yours. -/
def sandglasslaw02_SpanOrder.Pure : Prop := ∀ (a0 : Int) (a1 : Int) (a2 : Int) (a3 : Int), (Lit.int .u64 a0).wf = true → (Lit.int .u64 a1).wf = true → (Lit.int .u64 a2).wf = true → (Lit.int .u64 a3).wf = true → sandglasslaw02_SpanOrder.f a0 a1 a2 a3 = some true
theorem sandglasslaw02_SpanOrder.walk (P : sandglasslaw02_SpanOrder.Pure) (a0 : Int) (a1 : Int) (a2 : Int) (a3 : Int) (w : World) (w0 : (Lit.int .u64 a0).wf = true) (w1 : (Lit.int .u64 a1).wf = true) (w2 : (Lit.int .u64 a2).wf = true) (w3 : (Lit.int .u64 a3).wf = true) :
    Calls Try.prog 8 #[.int .u64 a0, .int .u64 a1, .int .u64 a2, .int .u64 a3] w fun e w' => e = .returned (.bool true) ∧ Below w.heap.size w w' := by
  have h := P a0 a1 a2 a3 w0 w1 w2 w3
  refine (sandglasslaw02_SpanOrder.calls a0 a1 a2 a3 true w h).mono ?_
  rintro e w' ⟨rfl, hd⟩
  exact ⟨rfl, hd.below⟩

end Go.Proofs.Ytihnjbpjikekpab.PLaw2
