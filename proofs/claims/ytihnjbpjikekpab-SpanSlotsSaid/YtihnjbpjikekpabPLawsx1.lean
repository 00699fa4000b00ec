/- One text of a proof that a law answers true for every input. No condition. Printed by p2.py (wip/tools of this repo), which drives the print of the kit; Lean checks it. -/
import Derived.Test.YtihnjbpjikekpabPLawsx0
namespace Go.Proofs.Ytihnjbpjikekpab.PLaws
open Go.RowKit Go.Proofs.Ytihnjbpjikekpab.Ext Go.Proofs.YtihnjbpjikekpabW.PrintWords Go.Proofs.YtihnjbpjikekpabW.PrintLast Go.Proofs.YtihnjbpjikekpabW.PrintMore
attribute [local go_sem] max2_int min2_int max_two min_two max_three min_three max_four min_four   -- for this text's walks alone
set_option linter.unusedVariables false
set_option linter.unusedSimpArgs false

/-! ### sandglasslaw02_awake: function 19 -/
def sandglasslaw02_awake.f  : Option (Bool) := (span_Time.f 1500 1000).bind fun t101 => (if t101 = 1500000000 then ((span_Time.f 1 3).bind fun t102 => (if t102 = 333333334 then ((span_Time.f 5 0).bind fun t103 => (if t103 = 0 then ((span_Bytes.f 333333333 3).bind fun t104 => (if t104 = 0 then ((span_Bytes.f 333333334 3).bind fun t105 => (if t105 = 1 then ((span_Lesser.f 0 7).bind fun t106 => (if t106 = 7 then ((span_Slot.f 10 4).bind fun t107 => (if t107 = 3 then ((span_Slot.f 8 4).bind fun t108 => (if t108 = 2 then ((span_Begin.f 3 4).bind fun t109 => (some (t109 == 12))) else (some false))) else (some false))) else (some false))) else (some false))) else (some false))) else (some false))) else (some false))) else (some false))
set_option maxHeartbeats 8000000 in
set_option maxRecDepth 100000 in
theorem sandglasslaw02_awake.calls  (r : Bool) (w : World) (h : sandglasslaw02_awake.f  = some r) :
    Calls Try.prog 19 #[] w fun e w' => e = .returned (.bool r) ∧ Drawn0 w w' := by
  have H : ((span_Time.f 1500 1000).bind fun t101 => (if t101 = 1500000000 then ((span_Time.f 1 3).bind fun t102 => (if t102 = 333333334 then ((span_Time.f 5 0).bind fun t103 => (if t103 = 0 then ((span_Bytes.f 333333333 3).bind fun t104 => (if t104 = 0 then ((span_Bytes.f 333333334 3).bind fun t105 => (if t105 = 1 then ((span_Lesser.f 0 7).bind fun t106 => (if t106 = 7 then ((span_Slot.f 10 4).bind fun t107 => (if t107 = 3 then ((span_Slot.f 8 4).bind fun t108 => (if t108 = 2 then ((span_Begin.f 3 4).bind fun t109 => (some (t109 == 12))) else (some false))) else (some false))) else (some false))) else (some false))) else (some false))) else (some false))) else (some false))) else (some false))) = some r := h
  clear h
  replace H := Option.bind_eq_some_iff.mp H
  obtain ⟨t101, A10, H⟩ := H
  replace H : (if t101 = 1500000000 then ((span_Time.f 1 3).bind fun t102 => (if t102 = 333333334 then ((span_Time.f 5 0).bind fun t103 => (if t103 = 0 then ((span_Bytes.f 333333333 3).bind fun t104 => (if t104 = 0 then ((span_Bytes.f 333333334 3).bind fun t105 => (if t105 = 1 then ((span_Lesser.f 0 7).bind fun t106 => (if t106 = 7 then ((span_Slot.f 10 4).bind fun t107 => (if t107 = 3 then ((span_Slot.f 8 4).bind fun t108 => (if t108 = 2 then ((span_Begin.f 3 4).bind fun t109 => (some (t109 == 12))) else (some false))) else (some false))) else (some false))) else (some false))) else (some false))) else (some false))) else (some false))) else (some false)) = some r := H
  have A1 := Aside0.mk A10
  clear A10
  by_cases c2 : t101 = 1500000000
  · rw [if_pos c2] at H
    have c2b0 : (t101 == 1500000000) = true := beq_iff_eq.mpr c2
    have c2b1 : (t101 != 1500000000) = false := bne_eq_false_iff_eq.mpr c2
    clear c2
    replace H := Option.bind_eq_some_iff.mp H
    obtain ⟨t102, A30, H⟩ := H
    replace H : (if t102 = 333333334 then ((span_Time.f 5 0).bind fun t103 => (if t103 = 0 then ((span_Bytes.f 333333333 3).bind fun t104 => (if t104 = 0 then ((span_Bytes.f 333333334 3).bind fun t105 => (if t105 = 1 then ((span_Lesser.f 0 7).bind fun t106 => (if t106 = 7 then ((span_Slot.f 10 4).bind fun t107 => (if t107 = 3 then ((span_Slot.f 8 4).bind fun t108 => (if t108 = 2 then ((span_Begin.f 3 4).bind fun t109 => (some (t109 == 12))) else (some false))) else (some false))) else (some false))) else (some false))) else (some false))) else (some false))) else (some false)) = some r := H
    have A3 := Aside0.mk A30
    clear A30
    by_cases c4 : t102 = 333333334
    · rw [if_pos c4] at H
      have c4b0 : (t102 == 333333334) = true := beq_iff_eq.mpr c4
      have c4b1 : (t102 != 333333334) = false := bne_eq_false_iff_eq.mpr c4
      clear c4
      replace H := Option.bind_eq_some_iff.mp H
      obtain ⟨t103, A50, H⟩ := H
      replace H : (if t103 = 0 then ((span_Bytes.f 333333333 3).bind fun t104 => (if t104 = 0 then ((span_Bytes.f 333333334 3).bind fun t105 => (if t105 = 1 then ((span_Lesser.f 0 7).bind fun t106 => (if t106 = 7 then ((span_Slot.f 10 4).bind fun t107 => (if t107 = 3 then ((span_Slot.f 8 4).bind fun t108 => (if t108 = 2 then ((span_Begin.f 3 4).bind fun t109 => (some (t109 == 12))) else (some false))) else (some false))) else (some false))) else (some false))) else (some false))) else (some false)) = some r := H
      have A5 := Aside0.mk A50
      clear A50
      by_cases c6 : t103 = 0
      · rw [if_pos c6] at H
        have c6b0 : (t103 == 0) = true := beq_iff_eq.mpr c6
        have c6b1 : (t103 != 0) = false := bne_eq_false_iff_eq.mpr c6
        clear c6
        replace H := Option.bind_eq_some_iff.mp H
        obtain ⟨t104, A70, H⟩ := H
        replace H : (if t104 = 0 then ((span_Bytes.f 333333334 3).bind fun t105 => (if t105 = 1 then ((span_Lesser.f 0 7).bind fun t106 => (if t106 = 7 then ((span_Slot.f 10 4).bind fun t107 => (if t107 = 3 then ((span_Slot.f 8 4).bind fun t108 => (if t108 = 2 then ((span_Begin.f 3 4).bind fun t109 => (some (t109 == 12))) else (some false))) else (some false))) else (some false))) else (some false))) else (some false)) = some r := H
        have A7 := Aside0.mk A70
        clear A70
        by_cases c8 : t104 = 0
        · rw [if_pos c8] at H
          have c8b0 : (t104 == 0) = true := beq_iff_eq.mpr c8
          have c8b1 : (t104 != 0) = false := bne_eq_false_iff_eq.mpr c8
          clear c8
          replace H := Option.bind_eq_some_iff.mp H
          obtain ⟨t105, A90, H⟩ := H
          replace H : (if t105 = 1 then ((span_Lesser.f 0 7).bind fun t106 => (if t106 = 7 then ((span_Slot.f 10 4).bind fun t107 => (if t107 = 3 then ((span_Slot.f 8 4).bind fun t108 => (if t108 = 2 then ((span_Begin.f 3 4).bind fun t109 => (some (t109 == 12))) else (some false))) else (some false))) else (some false))) else (some false)) = some r := H
          have A9 := Aside0.mk A90
          clear A90
          by_cases c10 : t105 = 1
          · rw [if_pos c10] at H
            have c10b0 : (t105 == 1) = true := beq_iff_eq.mpr c10
            have c10b1 : (t105 != 1) = false := bne_eq_false_iff_eq.mpr c10
            clear c10
            replace H := Option.bind_eq_some_iff.mp H
            obtain ⟨t106, A110, H⟩ := H
            replace H : (if t106 = 7 then ((span_Slot.f 10 4).bind fun t107 => (if t107 = 3 then ((span_Slot.f 8 4).bind fun t108 => (if t108 = 2 then ((span_Begin.f 3 4).bind fun t109 => (some (t109 == 12))) else (some false))) else (some false))) else (some false)) = some r := H
            have A11 := Aside0.mk A110
            clear A110
            by_cases c12 : t106 = 7
            · rw [if_pos c12] at H
              have c12b0 : (t106 == 7) = true := beq_iff_eq.mpr c12
              have c12b1 : (t106 != 7) = false := bne_eq_false_iff_eq.mpr c12
              clear c12
              replace H := Option.bind_eq_some_iff.mp H
              obtain ⟨t107, A130, H⟩ := H
              replace H : (if t107 = 3 then ((span_Slot.f 8 4).bind fun t108 => (if t108 = 2 then ((span_Begin.f 3 4).bind fun t109 => (some (t109 == 12))) else (some false))) else (some false)) = some r := H
              have A13 := Aside0.mk A130
              clear A130
              by_cases c14 : t107 = 3
              · rw [if_pos c14] at H
                have c14b0 : (t107 == 3) = true := beq_iff_eq.mpr c14
                have c14b1 : (t107 != 3) = false := bne_eq_false_iff_eq.mpr c14
                clear c14
                replace H := Option.bind_eq_some_iff.mp H
                obtain ⟨t108, A150, H⟩ := H
                replace H : (if t108 = 2 then ((span_Begin.f 3 4).bind fun t109 => (some (t109 == 12))) else (some false)) = some r := H
                have A15 := Aside0.mk A150
                clear A150
                by_cases c16 : t108 = 2
                · rw [if_pos c16] at H
                  have c16b0 : (t108 == 2) = true := beq_iff_eq.mpr c16
                  have c16b1 : (t108 != 2) = false := bne_eq_false_iff_eq.mpr c16
                  clear c16
                  replace H := Option.bind_eq_some_iff.mp H
                  obtain ⟨t109, A170, H⟩ := H
                  replace H : (some (t109 == 12)) = some r := H
                  have A17 := Aside0.mk A170
                  clear A170
                  obtain rfl := Option.some.inj H
                  go_enter Try.func19, Try.ntmps19
                  go_wp2_with (first | ((with_reducible refine gate_callee (f := 9) rfl ?_); refine goesL_ (some 1) rfl rfl Try.func9 (by kernel_rfl) rfl #[.int .u64 1500, .int .u64 1000] rfl (by (try simp only [List.map_toArray, List.map_cons, List.map_nil]); first | done | rfl | (simp only [List.length_drop, List.length_take]; rfl)) ?_; (with_reducible refine (span_Time.calls 1500 1000 t101 _ A1.out).mono ?_); rintro e w' ⟨rfl, ⟨nd, rfl⟩⟩; refine ⟨_, rfl, ?_⟩) | (go_at_call 9; (with_reducible refine (span_Time.calls 1 3 t102 _ A3.out).mono ?_); rintro e w' ⟨rfl, ⟨nd, rfl⟩⟩) | (go_at_call 9; (with_reducible refine (span_Time.calls 5 0 t103 _ A5.out).mono ?_); rintro e w' ⟨rfl, ⟨nd, rfl⟩⟩) | (go_at_call 11; (with_reducible refine (span_Bytes.calls 333333333 3 t104 _ A7.out).mono ?_); rintro e w' ⟨rfl, ⟨nd, rfl⟩⟩) | (go_at_call 11; (with_reducible refine (span_Bytes.calls 333333334 3 t105 _ A9.out).mono ?_); rintro e w' ⟨rfl, ⟨nd, rfl⟩⟩) | (go_at_call 13; (with_reducible refine (span_Lesser.calls 0 7 t106 _ A11.out).mono ?_); rintro e w' ⟨rfl, ⟨nd, rfl⟩⟩) | (go_at_call 15; (with_reducible refine (span_Slot.calls 10 4 t107 _ A13.out).mono ?_); rintro e w' ⟨rfl, ⟨nd, rfl⟩⟩) | (go_at_call 15; (with_reducible refine (span_Slot.calls 8 4 t108 _ A15.out).mono ?_); rintro e w' ⟨rfl, ⟨nd, rfl⟩⟩) | (go_at_call 17; (with_reducible refine (span_Begin.calls 3 4 t109 _ A17.out).mono ?_); rintro e w' ⟨rfl, ⟨nd, rfl⟩⟩))
                  go_ret
                  exact ⟨by first | rfl | (simp; done) | (simp [*]; done), by repeat (first | exact Drawn0.refl _ | apply Drawn0.step)⟩
                · rw [if_neg c16] at H
                  have c16b0 : (t108 == 2) = false := beq_eq_false_iff_ne.mpr c16
                  have c16b1 : (t108 != 2) = true := bne_iff_ne.mpr c16
                  obtain rfl := Option.some.inj H
                  go_enter Try.func19, Try.ntmps19
                  go_wp2_with (first | ((with_reducible refine gate_callee (f := 9) rfl ?_); refine goesL_ (some 1) rfl rfl Try.func9 (by kernel_rfl) rfl #[.int .u64 1500, .int .u64 1000] rfl (by (try simp only [List.map_toArray, List.map_cons, List.map_nil]); first | done | rfl | (simp only [List.length_drop, List.length_take]; rfl)) ?_; (with_reducible refine (span_Time.calls 1500 1000 t101 _ A1.out).mono ?_); rintro e w' ⟨rfl, ⟨nd, rfl⟩⟩; refine ⟨_, rfl, ?_⟩) | (go_at_call 9; (with_reducible refine (span_Time.calls 1 3 t102 _ A3.out).mono ?_); rintro e w' ⟨rfl, ⟨nd, rfl⟩⟩) | (go_at_call 9; (with_reducible refine (span_Time.calls 5 0 t103 _ A5.out).mono ?_); rintro e w' ⟨rfl, ⟨nd, rfl⟩⟩) | (go_at_call 11; (with_reducible refine (span_Bytes.calls 333333333 3 t104 _ A7.out).mono ?_); rintro e w' ⟨rfl, ⟨nd, rfl⟩⟩) | (go_at_call 11; (with_reducible refine (span_Bytes.calls 333333334 3 t105 _ A9.out).mono ?_); rintro e w' ⟨rfl, ⟨nd, rfl⟩⟩) | (go_at_call 13; (with_reducible refine (span_Lesser.calls 0 7 t106 _ A11.out).mono ?_); rintro e w' ⟨rfl, ⟨nd, rfl⟩⟩) | (go_at_call 15; (with_reducible refine (span_Slot.calls 10 4 t107 _ A13.out).mono ?_); rintro e w' ⟨rfl, ⟨nd, rfl⟩⟩) | (go_at_call 15; (with_reducible refine (span_Slot.calls 8 4 t108 _ A15.out).mono ?_); rintro e w' ⟨rfl, ⟨nd, rfl⟩⟩))
                  go_ret
                  exact ⟨by first | rfl | (simp; done) | (simp [*]; done), by repeat (first | exact Drawn0.refl _ | apply Drawn0.step)⟩
              · rw [if_neg c14] at H
                have c14b0 : (t107 == 3) = false := beq_eq_false_iff_ne.mpr c14
                have c14b1 : (t107 != 3) = true := bne_iff_ne.mpr c14
                obtain rfl := Option.some.inj H
                go_enter Try.func19, Try.ntmps19
                go_wp2_with (first | ((with_reducible refine gate_callee (f := 9) rfl ?_); refine goesL_ (some 1) rfl rfl Try.func9 (by kernel_rfl) rfl #[.int .u64 1500, .int .u64 1000] rfl (by (try simp only [List.map_toArray, List.map_cons, List.map_nil]); first | done | rfl | (simp only [List.length_drop, List.length_take]; rfl)) ?_; (with_reducible refine (span_Time.calls 1500 1000 t101 _ A1.out).mono ?_); rintro e w' ⟨rfl, ⟨nd, rfl⟩⟩; refine ⟨_, rfl, ?_⟩) | (go_at_call 9; (with_reducible refine (span_Time.calls 1 3 t102 _ A3.out).mono ?_); rintro e w' ⟨rfl, ⟨nd, rfl⟩⟩) | (go_at_call 9; (with_reducible refine (span_Time.calls 5 0 t103 _ A5.out).mono ?_); rintro e w' ⟨rfl, ⟨nd, rfl⟩⟩) | (go_at_call 11; (with_reducible refine (span_Bytes.calls 333333333 3 t104 _ A7.out).mono ?_); rintro e w' ⟨rfl, ⟨nd, rfl⟩⟩) | (go_at_call 11; (with_reducible refine (span_Bytes.calls 333333334 3 t105 _ A9.out).mono ?_); rintro e w' ⟨rfl, ⟨nd, rfl⟩⟩) | (go_at_call 13; (with_reducible refine (span_Lesser.calls 0 7 t106 _ A11.out).mono ?_); rintro e w' ⟨rfl, ⟨nd, rfl⟩⟩) | (go_at_call 15; (with_reducible refine (span_Slot.calls 10 4 t107 _ A13.out).mono ?_); rintro e w' ⟨rfl, ⟨nd, rfl⟩⟩))
                go_ret
                exact ⟨by first | rfl | (simp; done) | (simp [*]; done), by repeat (first | exact Drawn0.refl _ | apply Drawn0.step)⟩
            · rw [if_neg c12] at H
              have c12b0 : (t106 == 7) = false := beq_eq_false_iff_ne.mpr c12
              have c12b1 : (t106 != 7) = true := bne_iff_ne.mpr c12
              obtain rfl := Option.some.inj H
              go_enter Try.func19, Try.ntmps19
              go_wp2_with (first | ((with_reducible refine gate_callee (f := 9) rfl ?_); refine goesL_ (some 1) rfl rfl Try.func9 (by kernel_rfl) rfl #[.int .u64 1500, .int .u64 1000] rfl (by (try simp only [List.map_toArray, List.map_cons, List.map_nil]); first | done | rfl | (simp only [List.length_drop, List.length_take]; rfl)) ?_; (with_reducible refine (span_Time.calls 1500 1000 t101 _ A1.out).mono ?_); rintro e w' ⟨rfl, ⟨nd, rfl⟩⟩; refine ⟨_, rfl, ?_⟩) | (go_at_call 9; (with_reducible refine (span_Time.calls 1 3 t102 _ A3.out).mono ?_); rintro e w' ⟨rfl, ⟨nd, rfl⟩⟩) | (go_at_call 9; (with_reducible refine (span_Time.calls 5 0 t103 _ A5.out).mono ?_); rintro e w' ⟨rfl, ⟨nd, rfl⟩⟩) | (go_at_call 11; (with_reducible refine (span_Bytes.calls 333333333 3 t104 _ A7.out).mono ?_); rintro e w' ⟨rfl, ⟨nd, rfl⟩⟩) | (go_at_call 11; (with_reducible refine (span_Bytes.calls 333333334 3 t105 _ A9.out).mono ?_); rintro e w' ⟨rfl, ⟨nd, rfl⟩⟩) | (go_at_call 13; (with_reducible refine (span_Lesser.calls 0 7 t106 _ A11.out).mono ?_); rintro e w' ⟨rfl, ⟨nd, rfl⟩⟩))
              go_ret
              exact ⟨by first | rfl | (simp; done) | (simp [*]; done), by repeat (first | exact Drawn0.refl _ | apply Drawn0.step)⟩
          · rw [if_neg c10] at H
            have c10b0 : (t105 == 1) = false := beq_eq_false_iff_ne.mpr c10
            have c10b1 : (t105 != 1) = true := bne_iff_ne.mpr c10
            obtain rfl := Option.some.inj H
            go_enter Try.func19, Try.ntmps19
            go_wp2_with (first | ((with_reducible refine gate_callee (f := 9) rfl ?_); refine goesL_ (some 1) rfl rfl Try.func9 (by kernel_rfl) rfl #[.int .u64 1500, .int .u64 1000] rfl (by (try simp only [List.map_toArray, List.map_cons, List.map_nil]); first | done | rfl | (simp only [List.length_drop, List.length_take]; rfl)) ?_; (with_reducible refine (span_Time.calls 1500 1000 t101 _ A1.out).mono ?_); rintro e w' ⟨rfl, ⟨nd, rfl⟩⟩; refine ⟨_, rfl, ?_⟩) | (go_at_call 9; (with_reducible refine (span_Time.calls 1 3 t102 _ A3.out).mono ?_); rintro e w' ⟨rfl, ⟨nd, rfl⟩⟩) | (go_at_call 9; (with_reducible refine (span_Time.calls 5 0 t103 _ A5.out).mono ?_); rintro e w' ⟨rfl, ⟨nd, rfl⟩⟩) | (go_at_call 11; (with_reducible refine (span_Bytes.calls 333333333 3 t104 _ A7.out).mono ?_); rintro e w' ⟨rfl, ⟨nd, rfl⟩⟩) | (go_at_call 11; (with_reducible refine (span_Bytes.calls 333333334 3 t105 _ A9.out).mono ?_); rintro e w' ⟨rfl, ⟨nd, rfl⟩⟩))
            go_ret
            exact ⟨by first | rfl | (simp; done) | (simp [*]; done), by repeat (first | exact Drawn0.refl _ | apply Drawn0.step)⟩
        · rw [if_neg c8] at H
          have c8b0 : (t104 == 0) = false := beq_eq_false_iff_ne.mpr c8
          have c8b1 : (t104 != 0) = true := bne_iff_ne.mpr c8
          obtain rfl := Option.some.inj H
          go_enter Try.func19, Try.ntmps19
          go_wp2_with (first | ((with_reducible refine gate_callee (f := 9) rfl ?_); refine goesL_ (some 1) rfl rfl Try.func9 (by kernel_rfl) rfl #[.int .u64 1500, .int .u64 1000] rfl (by (try simp only [List.map_toArray, List.map_cons, List.map_nil]); first | done | rfl | (simp only [List.length_drop, List.length_take]; rfl)) ?_; (with_reducible refine (span_Time.calls 1500 1000 t101 _ A1.out).mono ?_); rintro e w' ⟨rfl, ⟨nd, rfl⟩⟩; refine ⟨_, rfl, ?_⟩) | (go_at_call 9; (with_reducible refine (span_Time.calls 1 3 t102 _ A3.out).mono ?_); rintro e w' ⟨rfl, ⟨nd, rfl⟩⟩) | (go_at_call 9; (with_reducible refine (span_Time.calls 5 0 t103 _ A5.out).mono ?_); rintro e w' ⟨rfl, ⟨nd, rfl⟩⟩) | (go_at_call 11; (with_reducible refine (span_Bytes.calls 333333333 3 t104 _ A7.out).mono ?_); rintro e w' ⟨rfl, ⟨nd, rfl⟩⟩))
          go_ret
          exact ⟨by first | rfl | (simp; done) | (simp [*]; done), by repeat (first | exact Drawn0.refl _ | apply Drawn0.step)⟩
      · rw [if_neg c6] at H
        have c6b0 : (t103 == 0) = false := beq_eq_false_iff_ne.mpr c6
        have c6b1 : (t103 != 0) = true := bne_iff_ne.mpr c6
        obtain rfl := Option.some.inj H
        go_enter Try.func19, Try.ntmps19
        go_wp2_with (first | ((with_reducible refine gate_callee (f := 9) rfl ?_); refine goesL_ (some 1) rfl rfl Try.func9 (by kernel_rfl) rfl #[.int .u64 1500, .int .u64 1000] rfl (by (try simp only [List.map_toArray, List.map_cons, List.map_nil]); first | done | rfl | (simp only [List.length_drop, List.length_take]; rfl)) ?_; (with_reducible refine (span_Time.calls 1500 1000 t101 _ A1.out).mono ?_); rintro e w' ⟨rfl, ⟨nd, rfl⟩⟩; refine ⟨_, rfl, ?_⟩) | (go_at_call 9; (with_reducible refine (span_Time.calls 1 3 t102 _ A3.out).mono ?_); rintro e w' ⟨rfl, ⟨nd, rfl⟩⟩) | (go_at_call 9; (with_reducible refine (span_Time.calls 5 0 t103 _ A5.out).mono ?_); rintro e w' ⟨rfl, ⟨nd, rfl⟩⟩))
        go_ret
        exact ⟨by first | rfl | (simp; done) | (simp [*]; done), by repeat (first | exact Drawn0.refl _ | apply Drawn0.step)⟩
    · rw [if_neg c4] at H
      have c4b0 : (t102 == 333333334) = false := beq_eq_false_iff_ne.mpr c4
      have c4b1 : (t102 != 333333334) = true := bne_iff_ne.mpr c4
      obtain rfl := Option.some.inj H
      go_enter Try.func19, Try.ntmps19
      go_wp2_with (first | ((with_reducible refine gate_callee (f := 9) rfl ?_); refine goesL_ (some 1) rfl rfl Try.func9 (by kernel_rfl) rfl #[.int .u64 1500, .int .u64 1000] rfl (by (try simp only [List.map_toArray, List.map_cons, List.map_nil]); first | done | rfl | (simp only [List.length_drop, List.length_take]; rfl)) ?_; (with_reducible refine (span_Time.calls 1500 1000 t101 _ A1.out).mono ?_); rintro e w' ⟨rfl, ⟨nd, rfl⟩⟩; refine ⟨_, rfl, ?_⟩) | (go_at_call 9; (with_reducible refine (span_Time.calls 1 3 t102 _ A3.out).mono ?_); rintro e w' ⟨rfl, ⟨nd, rfl⟩⟩))
      go_ret
      exact ⟨by first | rfl | (simp; done) | (simp [*]; done), by repeat (first | exact Drawn0.refl _ | apply Drawn0.step)⟩
  · rw [if_neg c2] at H
    have c2b0 : (t101 == 1500000000) = false := beq_eq_false_iff_ne.mpr c2
    have c2b1 : (t101 != 1500000000) = true := bne_iff_ne.mpr c2
    obtain rfl := Option.some.inj H
    go_enter Try.func19, Try.ntmps19
    go_wp2_with (first | ((with_reducible refine gate_callee (f := 9) rfl ?_); refine goesL_ (some 1) rfl rfl Try.func9 (by kernel_rfl) rfl #[.int .u64 1500, .int .u64 1000] rfl (by (try simp only [List.map_toArray, List.map_cons, List.map_nil]); first | done | rfl | (simp only [List.length_drop, List.length_take]; rfl)) ?_; (with_reducible refine (span_Time.calls 1500 1000 t101 _ A1.out).mono ?_); rintro e w' ⟨rfl, ⟨nd, rfl⟩⟩; refine ⟨_, rfl, ?_⟩))
    go_ret
    exact ⟨by first | rfl | (simp; done) | (simp [*]; done), by repeat (first | exact Drawn0.refl _ | apply Drawn0.step)⟩

/-! ### sandglasslaw02_SpanTells: function 3 -/
def sandglasslaw02_SpanTells.f (a0 : Int) (a1 : Int) : Option (Bool) := (span_Time.f a0 a1).bind fun t110 => ((sandglassref02_Time.f a0 a1).bind fun t111 => (if t110 = t111 then ((span_Bytes.f a0 a1).bind fun t112 => ((sandglassref02_Bytes.f a0 a1).bind fun t113 => (if t112 = t113 then ((span_Lesser.f a0 a1).bind fun t114 => ((sandglassref02_Lesser.f a0 a1).bind fun t115 => (if t114 = t115 then ((span_Slot.f a0 a1).bind fun t116 => ((sandglassref02_Slot.f a0 a1).bind fun t117 => (if t116 = t117 then ((span_Begin.f a0 a1).bind fun t118 => ((sandglassref02_Begin.f a0 a1).bind fun t119 => (if t118 = t119 then ((sandglasslaw02_awake.f).bind fun t120 => (some t120)) else (some false)))) else (some false)))) else (some false)))) else (some false)))) else (some false)))
set_option maxHeartbeats 8000000 in
set_option maxRecDepth 100000 in
theorem sandglasslaw02_SpanTells.calls (a0 : Int) (a1 : Int) (r : Bool) (w : World) (h : sandglasslaw02_SpanTells.f a0 a1 = some r) :
    Calls Try.prog 3 #[.int .u64 a0, .int .u64 a1] w fun e w' => e = .returned (.bool r) ∧ Drawn0 w w' := by
  have H : ((span_Time.f a0 a1).bind fun t110 => ((sandglassref02_Time.f a0 a1).bind fun t111 => (if t110 = t111 then ((span_Bytes.f a0 a1).bind fun t112 => ((sandglassref02_Bytes.f a0 a1).bind fun t113 => (if t112 = t113 then ((span_Lesser.f a0 a1).bind fun t114 => ((sandglassref02_Lesser.f a0 a1).bind fun t115 => (if t114 = t115 then ((span_Slot.f a0 a1).bind fun t116 => ((sandglassref02_Slot.f a0 a1).bind fun t117 => (if t116 = t117 then ((span_Begin.f a0 a1).bind fun t118 => ((sandglassref02_Begin.f a0 a1).bind fun t119 => (if t118 = t119 then ((sandglasslaw02_awake.f).bind fun t120 => (some t120)) else (some false)))) else (some false)))) else (some false)))) else (some false)))) else (some false)))) = some r := h
  clear h
  replace H := Option.bind_eq_some_iff.mp H
  obtain ⟨t110, A30, H⟩ := H
  replace H : ((sandglassref02_Time.f a0 a1).bind fun t111 => (if t110 = t111 then ((span_Bytes.f a0 a1).bind fun t112 => ((sandglassref02_Bytes.f a0 a1).bind fun t113 => (if t112 = t113 then ((span_Lesser.f a0 a1).bind fun t114 => ((sandglassref02_Lesser.f a0 a1).bind fun t115 => (if t114 = t115 then ((span_Slot.f a0 a1).bind fun t116 => ((sandglassref02_Slot.f a0 a1).bind fun t117 => (if t116 = t117 then ((span_Begin.f a0 a1).bind fun t118 => ((sandglassref02_Begin.f a0 a1).bind fun t119 => (if t118 = t119 then ((sandglasslaw02_awake.f).bind fun t120 => (some t120)) else (some false)))) else (some false)))) else (some false)))) else (some false)))) else (some false))) = some r := H
  have A3 := Aside0.mk A30
  clear A30
  replace H := Option.bind_eq_some_iff.mp H
  obtain ⟨t111, A40, H⟩ := H
  replace H : (if t110 = t111 then ((span_Bytes.f a0 a1).bind fun t112 => ((sandglassref02_Bytes.f a0 a1).bind fun t113 => (if t112 = t113 then ((span_Lesser.f a0 a1).bind fun t114 => ((sandglassref02_Lesser.f a0 a1).bind fun t115 => (if t114 = t115 then ((span_Slot.f a0 a1).bind fun t116 => ((sandglassref02_Slot.f a0 a1).bind fun t117 => (if t116 = t117 then ((span_Begin.f a0 a1).bind fun t118 => ((sandglassref02_Begin.f a0 a1).bind fun t119 => (if t118 = t119 then ((sandglasslaw02_awake.f).bind fun t120 => (some t120)) else (some false)))) else (some false)))) else (some false)))) else (some false)))) else (some false)) = some r := H
  have A4 := Aside0.mk A40
  clear A40
  by_cases c5 : t110 = t111
  · rw [if_pos c5] at H
    have c5b0 : (t110 == t111) = true := beq_iff_eq.mpr c5
    have c5b1 : (t110 != t111) = false := bne_eq_false_iff_eq.mpr c5
    clear c5
    replace H := Option.bind_eq_some_iff.mp H
    obtain ⟨t112, A60, H⟩ := H
    replace H : ((sandglassref02_Bytes.f a0 a1).bind fun t113 => (if t112 = t113 then ((span_Lesser.f a0 a1).bind fun t114 => ((sandglassref02_Lesser.f a0 a1).bind fun t115 => (if t114 = t115 then ((span_Slot.f a0 a1).bind fun t116 => ((sandglassref02_Slot.f a0 a1).bind fun t117 => (if t116 = t117 then ((span_Begin.f a0 a1).bind fun t118 => ((sandglassref02_Begin.f a0 a1).bind fun t119 => (if t118 = t119 then ((sandglasslaw02_awake.f).bind fun t120 => (some t120)) else (some false)))) else (some false)))) else (some false)))) else (some false))) = some r := H
    have A6 := Aside0.mk A60
    clear A60
    replace H := Option.bind_eq_some_iff.mp H
    obtain ⟨t113, A70, H⟩ := H
    replace H : (if t112 = t113 then ((span_Lesser.f a0 a1).bind fun t114 => ((sandglassref02_Lesser.f a0 a1).bind fun t115 => (if t114 = t115 then ((span_Slot.f a0 a1).bind fun t116 => ((sandglassref02_Slot.f a0 a1).bind fun t117 => (if t116 = t117 then ((span_Begin.f a0 a1).bind fun t118 => ((sandglassref02_Begin.f a0 a1).bind fun t119 => (if t118 = t119 then ((sandglasslaw02_awake.f).bind fun t120 => (some t120)) else (some false)))) else (some false)))) else (some false)))) else (some false)) = some r := H
    have A7 := Aside0.mk A70
    clear A70
    by_cases c8 : t112 = t113
    · rw [if_pos c8] at H
      have c8b0 : (t112 == t113) = true := beq_iff_eq.mpr c8
      have c8b1 : (t112 != t113) = false := bne_eq_false_iff_eq.mpr c8
      clear c8
      replace H := Option.bind_eq_some_iff.mp H
      obtain ⟨t114, A90, H⟩ := H
      replace H : ((sandglassref02_Lesser.f a0 a1).bind fun t115 => (if t114 = t115 then ((span_Slot.f a0 a1).bind fun t116 => ((sandglassref02_Slot.f a0 a1).bind fun t117 => (if t116 = t117 then ((span_Begin.f a0 a1).bind fun t118 => ((sandglassref02_Begin.f a0 a1).bind fun t119 => (if t118 = t119 then ((sandglasslaw02_awake.f).bind fun t120 => (some t120)) else (some false)))) else (some false)))) else (some false))) = some r := H
      have A9 := Aside0.mk A90
      clear A90
      replace H := Option.bind_eq_some_iff.mp H
      obtain ⟨t115, A100, H⟩ := H
      replace H : (if t114 = t115 then ((span_Slot.f a0 a1).bind fun t116 => ((sandglassref02_Slot.f a0 a1).bind fun t117 => (if t116 = t117 then ((span_Begin.f a0 a1).bind fun t118 => ((sandglassref02_Begin.f a0 a1).bind fun t119 => (if t118 = t119 then ((sandglasslaw02_awake.f).bind fun t120 => (some t120)) else (some false)))) else (some false)))) else (some false)) = some r := H
      have A10 := Aside0.mk A100
      clear A100
      by_cases c11 : t114 = t115
      · rw [if_pos c11] at H
        have c11b0 : (t114 == t115) = true := beq_iff_eq.mpr c11
        have c11b1 : (t114 != t115) = false := bne_eq_false_iff_eq.mpr c11
        clear c11
        replace H := Option.bind_eq_some_iff.mp H
        obtain ⟨t116, A120, H⟩ := H
        replace H : ((sandglassref02_Slot.f a0 a1).bind fun t117 => (if t116 = t117 then ((span_Begin.f a0 a1).bind fun t118 => ((sandglassref02_Begin.f a0 a1).bind fun t119 => (if t118 = t119 then ((sandglasslaw02_awake.f).bind fun t120 => (some t120)) else (some false)))) else (some false))) = some r := H
        have A12 := Aside0.mk A120
        clear A120
        replace H := Option.bind_eq_some_iff.mp H
        obtain ⟨t117, A130, H⟩ := H
        replace H : (if t116 = t117 then ((span_Begin.f a0 a1).bind fun t118 => ((sandglassref02_Begin.f a0 a1).bind fun t119 => (if t118 = t119 then ((sandglasslaw02_awake.f).bind fun t120 => (some t120)) else (some false)))) else (some false)) = some r := H
        have A13 := Aside0.mk A130
        clear A130
        by_cases c14 : t116 = t117
        · rw [if_pos c14] at H
          have c14b0 : (t116 == t117) = true := beq_iff_eq.mpr c14
          have c14b1 : (t116 != t117) = false := bne_eq_false_iff_eq.mpr c14
          clear c14
          replace H := Option.bind_eq_some_iff.mp H
          obtain ⟨t118, A150, H⟩ := H
          replace H : ((sandglassref02_Begin.f a0 a1).bind fun t119 => (if t118 = t119 then ((sandglasslaw02_awake.f).bind fun t120 => (some t120)) else (some false))) = some r := H
          have A15 := Aside0.mk A150
          clear A150
          replace H := Option.bind_eq_some_iff.mp H
          obtain ⟨t119, A160, H⟩ := H
          replace H : (if t118 = t119 then ((sandglasslaw02_awake.f).bind fun t120 => (some t120)) else (some false)) = some r := H
          have A16 := Aside0.mk A160
          clear A160
          by_cases c17 : t118 = t119
          · rw [if_pos c17] at H
            have c17b0 : (t118 == t119) = true := beq_iff_eq.mpr c17
            have c17b1 : (t118 != t119) = false := bne_eq_false_iff_eq.mpr c17
            clear c17
            replace H := Option.bind_eq_some_iff.mp H
            obtain ⟨t120, A180, H⟩ := H
            replace H : (some t120) = some r := H
            have A18 := Aside0.mk A180
            clear A180
            obtain rfl := Option.some.inj H
            go_enter Try.func3, Try.ntmps3
            go_wp2_with (first | ((with_reducible refine gate_callee (f := 9) rfl ?_); refine goesL_ (some 7) rfl rfl Try.func9 (by kernel_rfl) rfl #[.int .u64 a0, .int .u64 a1] rfl (by (try simp only [List.map_toArray, List.map_cons, List.map_nil]); first | done | rfl | (simp only [List.length_drop, List.length_take]; rfl)) ?_; (with_reducible refine (span_Time.calls a0 a1 t110 _ A3.out).mono ?_); rintro e w' ⟨rfl, ⟨nd, rfl⟩⟩; refine ⟨_, rfl, ?_⟩) | ((with_reducible refine gate_callee (f := 10) rfl ?_); refine goesL_ (some 10) rfl rfl Try.func10 (by kernel_rfl) rfl #[.int .u64 a0, .int .u64 a1] rfl (by (try simp only [List.map_toArray, List.map_cons, List.map_nil]); first | done | rfl | (simp only [List.length_drop, List.length_take]; rfl)) ?_; (with_reducible refine (sandglassref02_Time.calls a0 a1 t111 _ A4.out).mono ?_); rintro e w' ⟨rfl, ⟨nd, rfl⟩⟩; refine ⟨_, rfl, ?_⟩) | (go_at_call 11; (with_reducible refine (span_Bytes.calls a0 a1 t112 _ A6.out).mono ?_); rintro e w' ⟨rfl, ⟨nd, rfl⟩⟩) | (go_at_call 12; (with_reducible refine (sandglassref02_Bytes.calls a0 a1 t113 _ A7.out).mono ?_); rintro e w' ⟨rfl, ⟨nd, rfl⟩⟩) | (go_at_call 13; (with_reducible refine (span_Lesser.calls a0 a1 t114 _ A9.out).mono ?_); rintro e w' ⟨rfl, ⟨nd, rfl⟩⟩) | (go_at_call 14; (with_reducible refine (sandglassref02_Lesser.calls a0 a1 t115 _ A10.out).mono ?_); rintro e w' ⟨rfl, ⟨nd, rfl⟩⟩) | (go_at_call 15; (with_reducible refine (span_Slot.calls a0 a1 t116 _ A12.out).mono ?_); rintro e w' ⟨rfl, ⟨nd, rfl⟩⟩) | (go_at_call 16; (with_reducible refine (sandglassref02_Slot.calls a0 a1 t117 _ A13.out).mono ?_); rintro e w' ⟨rfl, ⟨nd, rfl⟩⟩) | (go_at_call 17; (with_reducible refine (span_Begin.calls a0 a1 t118 _ A15.out).mono ?_); rintro e w' ⟨rfl, ⟨nd, rfl⟩⟩) | (go_at_call 18; (with_reducible refine (sandglassref02_Begin.calls a0 a1 t119 _ A16.out).mono ?_); rintro e w' ⟨rfl, ⟨nd, rfl⟩⟩) | (go_at_call 19; (with_reducible refine (sandglasslaw02_awake.calls  t120 _ A18.out).mono ?_); rintro e w' ⟨rfl, ⟨nd, rfl⟩⟩))
            go_ret
            exact ⟨by first | rfl | (simp; done) | (simp [*]; done), by repeat (first | exact Drawn0.refl _ | apply Drawn0.step)⟩
          · rw [if_neg c17] at H
            have c17b0 : (t118 == t119) = false := beq_eq_false_iff_ne.mpr c17
            have c17b1 : (t118 != t119) = true := bne_iff_ne.mpr c17
            obtain rfl := Option.some.inj H
            go_enter Try.func3, Try.ntmps3
            go_wp2_with (first | ((with_reducible refine gate_callee (f := 9) rfl ?_); refine goesL_ (some 7) rfl rfl Try.func9 (by kernel_rfl) rfl #[.int .u64 a0, .int .u64 a1] rfl (by (try simp only [List.map_toArray, List.map_cons, List.map_nil]); first | done | rfl | (simp only [List.length_drop, List.length_take]; rfl)) ?_; (with_reducible refine (span_Time.calls a0 a1 t110 _ A3.out).mono ?_); rintro e w' ⟨rfl, ⟨nd, rfl⟩⟩; refine ⟨_, rfl, ?_⟩) | ((with_reducible refine gate_callee (f := 10) rfl ?_); refine goesL_ (some 10) rfl rfl Try.func10 (by kernel_rfl) rfl #[.int .u64 a0, .int .u64 a1] rfl (by (try simp only [List.map_toArray, List.map_cons, List.map_nil]); first | done | rfl | (simp only [List.length_drop, List.length_take]; rfl)) ?_; (with_reducible refine (sandglassref02_Time.calls a0 a1 t111 _ A4.out).mono ?_); rintro e w' ⟨rfl, ⟨nd, rfl⟩⟩; refine ⟨_, rfl, ?_⟩) | (go_at_call 11; (with_reducible refine (span_Bytes.calls a0 a1 t112 _ A6.out).mono ?_); rintro e w' ⟨rfl, ⟨nd, rfl⟩⟩) | (go_at_call 12; (with_reducible refine (sandglassref02_Bytes.calls a0 a1 t113 _ A7.out).mono ?_); rintro e w' ⟨rfl, ⟨nd, rfl⟩⟩) | (go_at_call 13; (with_reducible refine (span_Lesser.calls a0 a1 t114 _ A9.out).mono ?_); rintro e w' ⟨rfl, ⟨nd, rfl⟩⟩) | (go_at_call 14; (with_reducible refine (sandglassref02_Lesser.calls a0 a1 t115 _ A10.out).mono ?_); rintro e w' ⟨rfl, ⟨nd, rfl⟩⟩) | (go_at_call 15; (with_reducible refine (span_Slot.calls a0 a1 t116 _ A12.out).mono ?_); rintro e w' ⟨rfl, ⟨nd, rfl⟩⟩) | (go_at_call 16; (with_reducible refine (sandglassref02_Slot.calls a0 a1 t117 _ A13.out).mono ?_); rintro e w' ⟨rfl, ⟨nd, rfl⟩⟩) | (go_at_call 17; (with_reducible refine (span_Begin.calls a0 a1 t118 _ A15.out).mono ?_); rintro e w' ⟨rfl, ⟨nd, rfl⟩⟩) | (go_at_call 18; (with_reducible refine (sandglassref02_Begin.calls a0 a1 t119 _ A16.out).mono ?_); rintro e w' ⟨rfl, ⟨nd, rfl⟩⟩))
            go_ret
            exact ⟨by first | rfl | (simp; done) | (simp [*]; done), by repeat (first | exact Drawn0.refl _ | apply Drawn0.step)⟩
        · rw [if_neg c14] at H
          have c14b0 : (t116 == t117) = false := beq_eq_false_iff_ne.mpr c14
          have c14b1 : (t116 != t117) = true := bne_iff_ne.mpr c14
          obtain rfl := Option.some.inj H
          go_enter Try.func3, Try.ntmps3
          go_wp2_with (first | ((with_reducible refine gate_callee (f := 9) rfl ?_); refine goesL_ (some 7) rfl rfl Try.func9 (by kernel_rfl) rfl #[.int .u64 a0, .int .u64 a1] rfl (by (try simp only [List.map_toArray, List.map_cons, List.map_nil]); first | done | rfl | (simp only [List.length_drop, List.length_take]; rfl)) ?_; (with_reducible refine (span_Time.calls a0 a1 t110 _ A3.out).mono ?_); rintro e w' ⟨rfl, ⟨nd, rfl⟩⟩; refine ⟨_, rfl, ?_⟩) | ((with_reducible refine gate_callee (f := 10) rfl ?_); refine goesL_ (some 10) rfl rfl Try.func10 (by kernel_rfl) rfl #[.int .u64 a0, .int .u64 a1] rfl (by (try simp only [List.map_toArray, List.map_cons, List.map_nil]); first | done | rfl | (simp only [List.length_drop, List.length_take]; rfl)) ?_; (with_reducible refine (sandglassref02_Time.calls a0 a1 t111 _ A4.out).mono ?_); rintro e w' ⟨rfl, ⟨nd, rfl⟩⟩; refine ⟨_, rfl, ?_⟩) | (go_at_call 11; (with_reducible refine (span_Bytes.calls a0 a1 t112 _ A6.out).mono ?_); rintro e w' ⟨rfl, ⟨nd, rfl⟩⟩) | (go_at_call 12; (with_reducible refine (sandglassref02_Bytes.calls a0 a1 t113 _ A7.out).mono ?_); rintro e w' ⟨rfl, ⟨nd, rfl⟩⟩) | (go_at_call 13; (with_reducible refine (span_Lesser.calls a0 a1 t114 _ A9.out).mono ?_); rintro e w' ⟨rfl, ⟨nd, rfl⟩⟩) | (go_at_call 14; (with_reducible refine (sandglassref02_Lesser.calls a0 a1 t115 _ A10.out).mono ?_); rintro e w' ⟨rfl, ⟨nd, rfl⟩⟩) | (go_at_call 15; (with_reducible refine (span_Slot.calls a0 a1 t116 _ A12.out).mono ?_); rintro e w' ⟨rfl, ⟨nd, rfl⟩⟩) | (go_at_call 16; (with_reducible refine (sandglassref02_Slot.calls a0 a1 t117 _ A13.out).mono ?_); rintro e w' ⟨rfl, ⟨nd, rfl⟩⟩))
          go_ret
          exact ⟨by first | rfl | (simp; done) | (simp [*]; done), by repeat (first | exact Drawn0.refl _ | apply Drawn0.step)⟩
      · rw [if_neg c11] at H
        have c11b0 : (t114 == t115) = false := beq_eq_false_iff_ne.mpr c11
        have c11b1 : (t114 != t115) = true := bne_iff_ne.mpr c11
        obtain rfl := Option.some.inj H
        go_enter Try.func3, Try.ntmps3
        go_wp2_with (first | ((with_reducible refine gate_callee (f := 9) rfl ?_); refine goesL_ (some 7) rfl rfl Try.func9 (by kernel_rfl) rfl #[.int .u64 a0, .int .u64 a1] rfl (by (try simp only [List.map_toArray, List.map_cons, List.map_nil]); first | done | rfl | (simp only [List.length_drop, List.length_take]; rfl)) ?_; (with_reducible refine (span_Time.calls a0 a1 t110 _ A3.out).mono ?_); rintro e w' ⟨rfl, ⟨nd, rfl⟩⟩; refine ⟨_, rfl, ?_⟩) | ((with_reducible refine gate_callee (f := 10) rfl ?_); refine goesL_ (some 10) rfl rfl Try.func10 (by kernel_rfl) rfl #[.int .u64 a0, .int .u64 a1] rfl (by (try simp only [List.map_toArray, List.map_cons, List.map_nil]); first | done | rfl | (simp only [List.length_drop, List.length_take]; rfl)) ?_; (with_reducible refine (sandglassref02_Time.calls a0 a1 t111 _ A4.out).mono ?_); rintro e w' ⟨rfl, ⟨nd, rfl⟩⟩; refine ⟨_, rfl, ?_⟩) | (go_at_call 11; (with_reducible refine (span_Bytes.calls a0 a1 t112 _ A6.out).mono ?_); rintro e w' ⟨rfl, ⟨nd, rfl⟩⟩) | (go_at_call 12; (with_reducible refine (sandglassref02_Bytes.calls a0 a1 t113 _ A7.out).mono ?_); rintro e w' ⟨rfl, ⟨nd, rfl⟩⟩) | (go_at_call 13; (with_reducible refine (span_Lesser.calls a0 a1 t114 _ A9.out).mono ?_); rintro e w' ⟨rfl, ⟨nd, rfl⟩⟩) | (go_at_call 14; (with_reducible refine (sandglassref02_Lesser.calls a0 a1 t115 _ A10.out).mono ?_); rintro e w' ⟨rfl, ⟨nd, rfl⟩⟩))
        go_ret
        exact ⟨by first | rfl | (simp; done) | (simp [*]; done), by repeat (first | exact Drawn0.refl _ | apply Drawn0.step)⟩
    · rw [if_neg c8] at H
      have c8b0 : (t112 == t113) = false := beq_eq_false_iff_ne.mpr c8
      have c8b1 : (t112 != t113) = true := bne_iff_ne.mpr c8
      obtain rfl := Option.some.inj H
      go_enter Try.func3, Try.ntmps3
      go_wp2_with (first | ((with_reducible refine gate_callee (f := 9) rfl ?_); refine goesL_ (some 7) rfl rfl Try.func9 (by kernel_rfl) rfl #[.int .u64 a0, .int .u64 a1] rfl (by (try simp only [List.map_toArray, List.map_cons, List.map_nil]); first | done | rfl | (simp only [List.length_drop, List.length_take]; rfl)) ?_; (with_reducible refine (span_Time.calls a0 a1 t110 _ A3.out).mono ?_); rintro e w' ⟨rfl, ⟨nd, rfl⟩⟩; refine ⟨_, rfl, ?_⟩) | ((with_reducible refine gate_callee (f := 10) rfl ?_); refine goesL_ (some 10) rfl rfl Try.func10 (by kernel_rfl) rfl #[.int .u64 a0, .int .u64 a1] rfl (by (try simp only [List.map_toArray, List.map_cons, List.map_nil]); first | done | rfl | (simp only [List.length_drop, List.length_take]; rfl)) ?_; (with_reducible refine (sandglassref02_Time.calls a0 a1 t111 _ A4.out).mono ?_); rintro e w' ⟨rfl, ⟨nd, rfl⟩⟩; refine ⟨_, rfl, ?_⟩) | (go_at_call 11; (with_reducible refine (span_Bytes.calls a0 a1 t112 _ A6.out).mono ?_); rintro e w' ⟨rfl, ⟨nd, rfl⟩⟩) | (go_at_call 12; (with_reducible refine (sandglassref02_Bytes.calls a0 a1 t113 _ A7.out).mono ?_); rintro e w' ⟨rfl, ⟨nd, rfl⟩⟩))
      go_ret
      exact ⟨by first | rfl | (simp; done) | (simp [*]; done), by repeat (first | exact Drawn0.refl _ | apply Drawn0.step)⟩
  · rw [if_neg c5] at H
    have c5b0 : (t110 == t111) = false := beq_eq_false_iff_ne.mpr c5
    have c5b1 : (t110 != t111) = true := bne_iff_ne.mpr c5
    obtain rfl := Option.some.inj H
    go_enter Try.func3, Try.ntmps3
    go_wp2_with (first | ((with_reducible refine gate_callee (f := 9) rfl ?_); refine goesL_ (some 7) rfl rfl Try.func9 (by kernel_rfl) rfl #[.int .u64 a0, .int .u64 a1] rfl (by (try simp only [List.map_toArray, List.map_cons, List.map_nil]); first | done | rfl | (simp only [List.length_drop, List.length_take]; rfl)) ?_; (with_reducible refine (span_Time.calls a0 a1 t110 _ A3.out).mono ?_); rintro e w' ⟨rfl, ⟨nd, rfl⟩⟩; refine ⟨_, rfl, ?_⟩) | ((with_reducible refine gate_callee (f := 10) rfl ?_); refine goesL_ (some 10) rfl rfl Try.func10 (by kernel_rfl) rfl #[.int .u64 a0, .int .u64 a1] rfl (by (try simp only [List.map_toArray, List.map_cons, List.map_nil]); first | done | rfl | (simp only [List.length_drop, List.length_take]; rfl)) ?_; (with_reducible refine (sandglassref02_Time.calls a0 a1 t111 _ A4.out).mono ?_); rintro e w' ⟨rfl, ⟨nd, rfl⟩⟩; refine ⟨_, rfl, ?_⟩))
    go_ret
    exact ⟨by first | rfl | (simp; done) | (simp [*]; done), by repeat (first | exact Drawn0.refl _ | apply Drawn0.step)⟩

/-- THE ONE PURE STATEMENT of sandglasslaw02_SpanTells: yours. -/
def sandglasslaw02_SpanTells.Pure : Prop := ∀ (a0 : Int) (a1 : Int), (Lit.int .u64 a0).wf = true → (Lit.int .u64 a1).wf = true → sandglasslaw02_SpanTells.f a0 a1 = some true
theorem sandglasslaw02_SpanTells.walk (P : sandglasslaw02_SpanTells.Pure) (a0 : Int) (a1 : Int) (w : World) (w0 : (Lit.int .u64 a0).wf = true) (w1 : (Lit.int .u64 a1).wf = true) :
    Calls Try.prog 3 #[.int .u64 a0, .int .u64 a1] w fun e w' => e = .returned (.bool true) ∧ Below w.heap.size w w' := by
  have h := P a0 a1 w0 w1
  refine (sandglasslaw02_SpanTells.calls a0 a1 true w h).mono ?_
  rintro e w' ⟨rfl, hd⟩
  exact ⟨rfl, hd.below⟩

/-! ### sandglasslaw02_SpanLeast: function 4 -/
def sandglasslaw02_SpanLeast.f (a0 : Int) (a1 : Int) : Option (Bool) := if a1 = 0 then ((span_Time.f a0 0).bind fun t121 => (if t121 = 0 then ((span_Bytes.f a0 0).bind fun t122 => (if t122 = 18446744073709551615 then ((sandglasslaw02_awake.f).bind fun t123 => (some t123)) else (some false))) else (some false))) else ((span_Time.f a0 a1).bind fun t124 => (if t124 = 18446744073709551615 then (if a0 > 0 then ((sandglasslaw02_awake.f).bind fun t125 => (some t125)) else (some false)) else ((span_Bytes.f t124 a1).bind fun t126 => (if t126 ≥ a0 then (if t124 = 0 then ((sandglasslaw02_awake.f).bind fun t127 => (some t127)) else ((span_Bytes.f (IntKind.u64.wrap (t124 - 1)) a1).bind fun t128 => (if t128 < a0 then ((sandglasslaw02_awake.f).bind fun t129 => (some t129)) else (some false)))) else (some false)))))
set_option maxHeartbeats 8000000 in
set_option maxRecDepth 100000 in
theorem sandglasslaw02_SpanLeast.calls (a0 : Int) (a1 : Int) (r : Bool) (w : World) (h : sandglasslaw02_SpanLeast.f a0 a1 = some r) :
    Calls Try.prog 4 #[.int .u64 a0, .int .u64 a1] w fun e w' => e = .returned (.bool r) ∧ Drawn0 w w' := by
  have H : (if a1 = 0 then ((span_Time.f a0 0).bind fun t121 => (if t121 = 0 then ((span_Bytes.f a0 0).bind fun t122 => (if t122 = 18446744073709551615 then ((sandglasslaw02_awake.f).bind fun t123 => (some t123)) else (some false))) else (some false))) else ((span_Time.f a0 a1).bind fun t124 => (if t124 = 18446744073709551615 then (if a0 > 0 then ((sandglasslaw02_awake.f).bind fun t125 => (some t125)) else (some false)) else ((span_Bytes.f t124 a1).bind fun t126 => (if t126 ≥ a0 then (if t124 = 0 then ((sandglasslaw02_awake.f).bind fun t127 => (some t127)) else ((span_Bytes.f (IntKind.u64.wrap (t124 - 1)) a1).bind fun t128 => (if t128 < a0 then ((sandglasslaw02_awake.f).bind fun t129 => (some t129)) else (some false)))) else (some false)))))) = some r := h
  clear h
  by_cases c3 : a1 = 0
  · rw [if_pos c3] at H
    have c3b0 : (a1 == 0) = true := beq_iff_eq.mpr c3
    have c3b1 : (a1 != 0) = false := bne_eq_false_iff_eq.mpr c3
    clear c3
    replace H := Option.bind_eq_some_iff.mp H
    obtain ⟨t121, A40, H⟩ := H
    replace H : (if t121 = 0 then ((span_Bytes.f a0 0).bind fun t122 => (if t122 = 18446744073709551615 then ((sandglasslaw02_awake.f).bind fun t123 => (some t123)) else (some false))) else (some false)) = some r := H
    have A4 := Aside0.mk A40
    clear A40
    by_cases c5 : t121 = 0
    · rw [if_pos c5] at H
      have c5b0 : (t121 == 0) = true := beq_iff_eq.mpr c5
      have c5b1 : (t121 != 0) = false := bne_eq_false_iff_eq.mpr c5
      clear c5
      replace H := Option.bind_eq_some_iff.mp H
      obtain ⟨t122, A60, H⟩ := H
      replace H : (if t122 = 18446744073709551615 then ((sandglasslaw02_awake.f).bind fun t123 => (some t123)) else (some false)) = some r := H
      have A6 := Aside0.mk A60
      clear A60
      by_cases c7 : t122 = 18446744073709551615
      · rw [if_pos c7] at H
        have c7b0 : (t122 == 18446744073709551615) = true := beq_iff_eq.mpr c7
        have c7b1 : (t122 != 18446744073709551615) = false := bne_eq_false_iff_eq.mpr c7
        clear c7
        replace H := Option.bind_eq_some_iff.mp H
        obtain ⟨t123, A80, H⟩ := H
        replace H : (some t123) = some r := H
        have A8 := Aside0.mk A80
        clear A80
        obtain rfl := Option.some.inj H
        go_enter Try.func4, Try.ntmps4
        go_wp2_with (first | ((with_reducible refine gate_callee (f := 9) rfl ?_); refine goesL_ (some 9) rfl rfl Try.func9 (by kernel_rfl) rfl #[.int .u64 a0, .int .u64 0] rfl (by (try simp only [List.map_toArray, List.map_cons, List.map_nil]); first | done | rfl | (simp only [List.length_drop, List.length_take]; rfl)) ?_; (with_reducible refine (span_Time.calls a0 0 t121 _ A4.out).mono ?_); rintro e w' ⟨rfl, ⟨nd, rfl⟩⟩; refine ⟨_, rfl, ?_⟩) | (go_at_call 11; (with_reducible refine (span_Bytes.calls a0 0 t122 _ A6.out).mono ?_); rintro e w' ⟨rfl, ⟨nd, rfl⟩⟩) | (go_at_call 19; (with_reducible refine (sandglasslaw02_awake.calls  t123 _ A8.out).mono ?_); rintro e w' ⟨rfl, ⟨nd, rfl⟩⟩))
        go_ret
        exact ⟨by first | rfl | (simp; done) | (simp [*]; done), by repeat (first | exact Drawn0.refl _ | apply Drawn0.step)⟩
      · rw [if_neg c7] at H
        have c7b0 : (t122 == 18446744073709551615) = false := beq_eq_false_iff_ne.mpr c7
        have c7b1 : (t122 != 18446744073709551615) = true := bne_iff_ne.mpr c7
        obtain rfl := Option.some.inj H
        go_enter Try.func4, Try.ntmps4
        go_wp2_with (first | ((with_reducible refine gate_callee (f := 9) rfl ?_); refine goesL_ (some 9) rfl rfl Try.func9 (by kernel_rfl) rfl #[.int .u64 a0, .int .u64 0] rfl (by (try simp only [List.map_toArray, List.map_cons, List.map_nil]); first | done | rfl | (simp only [List.length_drop, List.length_take]; rfl)) ?_; (with_reducible refine (span_Time.calls a0 0 t121 _ A4.out).mono ?_); rintro e w' ⟨rfl, ⟨nd, rfl⟩⟩; refine ⟨_, rfl, ?_⟩) | (go_at_call 11; (with_reducible refine (span_Bytes.calls a0 0 t122 _ A6.out).mono ?_); rintro e w' ⟨rfl, ⟨nd, rfl⟩⟩))
        go_ret
        exact ⟨by first | rfl | (simp; done) | (simp [*]; done), by repeat (first | exact Drawn0.refl _ | apply Drawn0.step)⟩
    · rw [if_neg c5] at H
      have c5b0 : (t121 == 0) = false := beq_eq_false_iff_ne.mpr c5
      have c5b1 : (t121 != 0) = true := bne_iff_ne.mpr c5
      obtain rfl := Option.some.inj H
      go_enter Try.func4, Try.ntmps4
      go_wp2_with (first | ((with_reducible refine gate_callee (f := 9) rfl ?_); refine goesL_ (some 9) rfl rfl Try.func9 (by kernel_rfl) rfl #[.int .u64 a0, .int .u64 0] rfl (by (try simp only [List.map_toArray, List.map_cons, List.map_nil]); first | done | rfl | (simp only [List.length_drop, List.length_take]; rfl)) ?_; (with_reducible refine (span_Time.calls a0 0 t121 _ A4.out).mono ?_); rintro e w' ⟨rfl, ⟨nd, rfl⟩⟩; refine ⟨_, rfl, ?_⟩))
      go_ret
      exact ⟨by first | rfl | (simp; done) | (simp [*]; done), by repeat (first | exact Drawn0.refl _ | apply Drawn0.step)⟩
  · rw [if_neg c3] at H
    have c3b0 : (a1 == 0) = false := beq_eq_false_iff_ne.mpr c3
    have c3b1 : (a1 != 0) = true := bne_iff_ne.mpr c3
    replace H := Option.bind_eq_some_iff.mp H
    obtain ⟨t124, A90, H⟩ := H
    replace H : (if t124 = 18446744073709551615 then (if a0 > 0 then ((sandglasslaw02_awake.f).bind fun t125 => (some t125)) else (some false)) else ((span_Bytes.f t124 a1).bind fun t126 => (if t126 ≥ a0 then (if t124 = 0 then ((sandglasslaw02_awake.f).bind fun t127 => (some t127)) else ((span_Bytes.f (IntKind.u64.wrap (t124 - 1)) a1).bind fun t128 => (if t128 < a0 then ((sandglasslaw02_awake.f).bind fun t129 => (some t129)) else (some false)))) else (some false)))) = some r := H
    have A9 := Aside0.mk A90
    clear A90
    by_cases c10 : t124 = 18446744073709551615
    · rw [if_pos c10] at H
      have c10b0 : (t124 == 18446744073709551615) = true := beq_iff_eq.mpr c10
      have c10b1 : (t124 != 18446744073709551615) = false := bne_eq_false_iff_eq.mpr c10
      clear c10
      by_cases c11 : a0 > 0
      · rw [if_pos c11] at H
        have c11b0 : decide (0 < a0) = true := decide_eq_true c11
        clear c11
        replace H := Option.bind_eq_some_iff.mp H
        obtain ⟨t125, A120, H⟩ := H
        replace H : (some t125) = some r := H
        have A12 := Aside0.mk A120
        clear A120
        obtain rfl := Option.some.inj H
        go_enter Try.func4, Try.ntmps4
        go_wp2_with (first | ((with_reducible refine gate_callee (f := 9) rfl ?_); refine goesL_ (some 21) rfl rfl Try.func9 (by kernel_rfl) rfl #[.int .u64 a0, .int .u64 a1] rfl (by (try simp only [List.map_toArray, List.map_cons, List.map_nil]); first | done | rfl | (simp only [List.length_drop, List.length_take]; rfl)) ?_; (with_reducible refine (span_Time.calls a0 a1 t124 _ A9.out).mono ?_); rintro e w' ⟨rfl, ⟨nd, rfl⟩⟩; refine ⟨_, rfl, ?_⟩) | (go_at_call 19; (with_reducible refine (sandglasslaw02_awake.calls  t125 _ A12.out).mono ?_); rintro e w' ⟨rfl, ⟨nd, rfl⟩⟩))
        go_ret
        exact ⟨by first | rfl | (simp; done) | (simp [*]; done), by repeat (first | exact Drawn0.refl _ | apply Drawn0.step)⟩
      · rw [if_neg c11] at H
        have c11b0 : decide (0 < a0) = false := decide_eq_false c11
        clear c11
        obtain rfl := Option.some.inj H
        go_enter Try.func4, Try.ntmps4
        go_wp2_with (first | ((with_reducible refine gate_callee (f := 9) rfl ?_); refine goesL_ (some 21) rfl rfl Try.func9 (by kernel_rfl) rfl #[.int .u64 a0, .int .u64 a1] rfl (by (try simp only [List.map_toArray, List.map_cons, List.map_nil]); first | done | rfl | (simp only [List.length_drop, List.length_take]; rfl)) ?_; (with_reducible refine (span_Time.calls a0 a1 t124 _ A9.out).mono ?_); rintro e w' ⟨rfl, ⟨nd, rfl⟩⟩; refine ⟨_, rfl, ?_⟩))
        go_ret
        exact ⟨by first | rfl | (simp; done) | (simp [*]; done), by repeat (first | exact Drawn0.refl _ | apply Drawn0.step)⟩
    · rw [if_neg c10] at H
      have c10b0 : (t124 == 18446744073709551615) = false := beq_eq_false_iff_ne.mpr c10
      have c10b1 : (t124 != 18446744073709551615) = true := bne_iff_ne.mpr c10
      replace H := Option.bind_eq_some_iff.mp H
      obtain ⟨t126, A130, H⟩ := H
      replace H : (if t126 ≥ a0 then (if t124 = 0 then ((sandglasslaw02_awake.f).bind fun t127 => (some t127)) else ((span_Bytes.f (IntKind.u64.wrap (t124 - 1)) a1).bind fun t128 => (if t128 < a0 then ((sandglasslaw02_awake.f).bind fun t129 => (some t129)) else (some false)))) else (some false)) = some r := H
      have A13 := Aside0.mk A130
      clear A130
      by_cases c14 : t126 ≥ a0
      · rw [if_pos c14] at H
        have c14b0 : decide (a0 ≤ t126) = true := decide_eq_true c14
        clear c14
        by_cases c15 : t124 = 0
        · rw [if_pos c15] at H
          have c15b0 : (t124 == 0) = true := beq_iff_eq.mpr c15
          have c15b1 : (t124 != 0) = false := bne_eq_false_iff_eq.mpr c15
          clear c15
          replace H := Option.bind_eq_some_iff.mp H
          obtain ⟨t127, A160, H⟩ := H
          replace H : (some t127) = some r := H
          have A16 := Aside0.mk A160
          clear A160
          obtain rfl := Option.some.inj H
          go_enter Try.func4, Try.ntmps4
          go_wp2_with (first | ((with_reducible refine gate_callee (f := 9) rfl ?_); refine goesL_ (some 21) rfl rfl Try.func9 (by kernel_rfl) rfl #[.int .u64 a0, .int .u64 a1] rfl (by (try simp only [List.map_toArray, List.map_cons, List.map_nil]); first | done | rfl | (simp only [List.length_drop, List.length_take]; rfl)) ?_; (with_reducible refine (span_Time.calls a0 a1 t124 _ A9.out).mono ?_); rintro e w' ⟨rfl, ⟨nd, rfl⟩⟩; refine ⟨_, rfl, ?_⟩) | ((with_reducible refine gate_callee (f := 11) rfl ?_); refine goesL_ (some 31) rfl rfl Try.func11 (by kernel_rfl) rfl #[.int .u64 t124, .int .u64 a1] rfl (by (try simp only [List.map_toArray, List.map_cons, List.map_nil]); first | done | rfl | (simp only [List.length_drop, List.length_take]; rfl)) ?_; (with_reducible refine (span_Bytes.calls t124 a1 t126 _ A13.out).mono ?_); rintro e w' ⟨rfl, ⟨nd, rfl⟩⟩; refine ⟨_, rfl, ?_⟩) | (go_at_call 19; (with_reducible refine (sandglasslaw02_awake.calls  t127 _ A16.out).mono ?_); rintro e w' ⟨rfl, ⟨nd, rfl⟩⟩))
          go_ret
          exact ⟨by first | rfl | (simp; done) | (simp [*]; done), by repeat (first | exact Drawn0.refl _ | apply Drawn0.step)⟩
        · rw [if_neg c15] at H
          have c15b0 : (t124 == 0) = false := beq_eq_false_iff_ne.mpr c15
          have c15b1 : (t124 != 0) = true := bne_iff_ne.mpr c15
          replace H := Option.bind_eq_some_iff.mp H
          obtain ⟨t128, A170, H⟩ := H
          replace H : (if t128 < a0 then ((sandglasslaw02_awake.f).bind fun t129 => (some t129)) else (some false)) = some r := H
          have A17 := Aside0.mk A170
          clear A170
          by_cases c18 : t128 < a0
          · rw [if_pos c18] at H
            have c18b0 : decide (t128 < a0) = true := decide_eq_true c18
            clear c18
            replace H := Option.bind_eq_some_iff.mp H
            obtain ⟨t129, A190, H⟩ := H
            replace H : (some t129) = some r := H
            have A19 := Aside0.mk A190
            clear A190
            obtain rfl := Option.some.inj H
            go_enter Try.func4, Try.ntmps4
            go_wp2_with (first | ((with_reducible refine gate_callee (f := 9) rfl ?_); refine goesL_ (some 21) rfl rfl Try.func9 (by kernel_rfl) rfl #[.int .u64 a0, .int .u64 a1] rfl (by (try simp only [List.map_toArray, List.map_cons, List.map_nil]); first | done | rfl | (simp only [List.length_drop, List.length_take]; rfl)) ?_; (with_reducible refine (span_Time.calls a0 a1 t124 _ A9.out).mono ?_); rintro e w' ⟨rfl, ⟨nd, rfl⟩⟩; refine ⟨_, rfl, ?_⟩) | ((with_reducible refine gate_callee (f := 11) rfl ?_); refine goesL_ (some 31) rfl rfl Try.func11 (by kernel_rfl) rfl #[.int .u64 t124, .int .u64 a1] rfl (by (try simp only [List.map_toArray, List.map_cons, List.map_nil]); first | done | rfl | (simp only [List.length_drop, List.length_take]; rfl)) ?_; (with_reducible refine (span_Bytes.calls t124 a1 t126 _ A13.out).mono ?_); rintro e w' ⟨rfl, ⟨nd, rfl⟩⟩; refine ⟨_, rfl, ?_⟩) | (go_at_call 11; (with_reducible refine (span_Bytes.calls (IntKind.u64.wrap (t124 - 1)) a1 t128 _ A17.out).mono ?_); rintro e w' ⟨rfl, ⟨nd, rfl⟩⟩) | (go_at_call 19; (with_reducible refine (sandglasslaw02_awake.calls  t129 _ A19.out).mono ?_); rintro e w' ⟨rfl, ⟨nd, rfl⟩⟩))
            go_ret
            exact ⟨by first | rfl | (simp; done) | (simp [*]; done), by repeat (first | exact Drawn0.refl _ | apply Drawn0.step)⟩
          · rw [if_neg c18] at H
            have c18b0 : decide (t128 < a0) = false := decide_eq_false c18
            clear c18
            obtain rfl := Option.some.inj H
            go_enter Try.func4, Try.ntmps4
            go_wp2_with (first | ((with_reducible refine gate_callee (f := 9) rfl ?_); refine goesL_ (some 21) rfl rfl Try.func9 (by kernel_rfl) rfl #[.int .u64 a0, .int .u64 a1] rfl (by (try simp only [List.map_toArray, List.map_cons, List.map_nil]); first | done | rfl | (simp only [List.length_drop, List.length_take]; rfl)) ?_; (with_reducible refine (span_Time.calls a0 a1 t124 _ A9.out).mono ?_); rintro e w' ⟨rfl, ⟨nd, rfl⟩⟩; refine ⟨_, rfl, ?_⟩) | ((with_reducible refine gate_callee (f := 11) rfl ?_); refine goesL_ (some 31) rfl rfl Try.func11 (by kernel_rfl) rfl #[.int .u64 t124, .int .u64 a1] rfl (by (try simp only [List.map_toArray, List.map_cons, List.map_nil]); first | done | rfl | (simp only [List.length_drop, List.length_take]; rfl)) ?_; (with_reducible refine (span_Bytes.calls t124 a1 t126 _ A13.out).mono ?_); rintro e w' ⟨rfl, ⟨nd, rfl⟩⟩; refine ⟨_, rfl, ?_⟩) | (go_at_call 11; (with_reducible refine (span_Bytes.calls (IntKind.u64.wrap (t124 - 1)) a1 t128 _ A17.out).mono ?_); rintro e w' ⟨rfl, ⟨nd, rfl⟩⟩))
            go_ret
            exact ⟨by first | rfl | (simp; done) | (simp [*]; done), by repeat (first | exact Drawn0.refl _ | apply Drawn0.step)⟩
      · rw [if_neg c14] at H
        have c14b0 : decide (a0 ≤ t126) = false := decide_eq_false c14
        clear c14
        obtain rfl := Option.some.inj H
        go_enter Try.func4, Try.ntmps4
        go_wp2_with (first | ((with_reducible refine gate_callee (f := 9) rfl ?_); refine goesL_ (some 21) rfl rfl Try.func9 (by kernel_rfl) rfl #[.int .u64 a0, .int .u64 a1] rfl (by (try simp only [List.map_toArray, List.map_cons, List.map_nil]); first | done | rfl | (simp only [List.length_drop, List.length_take]; rfl)) ?_; (with_reducible refine (span_Time.calls a0 a1 t124 _ A9.out).mono ?_); rintro e w' ⟨rfl, ⟨nd, rfl⟩⟩; refine ⟨_, rfl, ?_⟩) | ((with_reducible refine gate_callee (f := 11) rfl ?_); refine goesL_ (some 31) rfl rfl Try.func11 (by kernel_rfl) rfl #[.int .u64 t124, .int .u64 a1] rfl (by (try simp only [List.map_toArray, List.map_cons, List.map_nil]); first | done | rfl | (simp only [List.length_drop, List.length_take]; rfl)) ?_; (with_reducible refine (span_Bytes.calls t124 a1 t126 _ A13.out).mono ?_); rintro e w' ⟨rfl, ⟨nd, rfl⟩⟩; refine ⟨_, rfl, ?_⟩))
        go_ret
        exact ⟨by first | rfl | (simp; done) | (simp [*]; done), by repeat (first | exact Drawn0.refl _ | apply Drawn0.step)⟩

/-- THE ONE PURE STATEMENT of sandglasslaw02_SpanLeast: yours. -/
def sandglasslaw02_SpanLeast.Pure : Prop := ∀ (a0 : Int) (a1 : Int), (Lit.int .u64 a0).wf = true → (Lit.int .u64 a1).wf = true → sandglasslaw02_SpanLeast.f a0 a1 = some true
theorem sandglasslaw02_SpanLeast.walk (P : sandglasslaw02_SpanLeast.Pure) (a0 : Int) (a1 : Int) (w : World) (w0 : (Lit.int .u64 a0).wf = true) (w1 : (Lit.int .u64 a1).wf = true) :
    Calls Try.prog 4 #[.int .u64 a0, .int .u64 a1] w fun e w' => e = .returned (.bool true) ∧ Below w.heap.size w w' := by
  have h := P a0 a1 w0 w1
  refine (sandglasslaw02_SpanLeast.calls a0 a1 true w h).mono ?_
  rintro e w' ⟨rfl, hd⟩
  exact ⟨rfl, hd.below⟩

/-! ### sandglasslaw02_SpanSlots: function 5 -/
def sandglasslaw02_SpanSlots.j0 : Nat → Int → Int → Int → Bool → Option (Bool)
  | 0, _, _, _, _ => none
  | k + 1, x5, x6, x7, x43 => if x43 = true then (some false) else (if x7 = 18446744073709551615 then ((sandglasslaw02_awake.f).bind fun t134 => (some t134)) else ((span_Slot.f x7 x5).bind fun t135 => (if t135 = x6 then ((sandglasslaw02_awake.f).bind fun t136 => (some t136)) else (some false))))
def sandglasslaw02_SpanSlots.f (k : Nat) (a0 : Int) (a1 : Int) : Option (Bool) := (span_Slot.f a0 (Int.tmod a1 9223372036854775809)).bind fun t130 => ((span_Begin.f t130 (mx (Int.tmod a1 9223372036854775809) 1)).bind fun t131 => (if t131 < a0 then (sandglasslaw02_SpanSlots.j0 k (mx (Int.tmod a1 9223372036854775809) 1) t130 t131 true) else (if t131 < 18446744073709551615 then (if (IntKind.u64.wrap (t131 - a0)) ≥ (mx (Int.tmod a1 9223372036854775809) 1) then (sandglasslaw02_SpanSlots.j0 k (mx (Int.tmod a1 9223372036854775809) 1) t130 t131 true) else (if t130 > 0 then ((span_Begin.f (IntKind.u64.wrap (t130 - 1)) (mx (Int.tmod a1 9223372036854775809) 1)).bind fun t132 => (sandglasslaw02_SpanSlots.j0 k (mx (Int.tmod a1 9223372036854775809) 1) t130 t131 (decide (t132 ≥ a0)))) else (sandglasslaw02_SpanSlots.j0 k (mx (Int.tmod a1 9223372036854775809) 1) t130 t131 false))) else (if t130 > 0 then ((span_Begin.f (IntKind.u64.wrap (t130 - 1)) (mx (Int.tmod a1 9223372036854775809) 1)).bind fun t133 => (sandglasslaw02_SpanSlots.j0 k (mx (Int.tmod a1 9223372036854775809) 1) t130 t131 (decide (t133 ≥ a0)))) else (sandglasslaw02_SpanSlots.j0 k (mx (Int.tmod a1 9223372036854775809) 1) t130 t131 false)))))
theorem sandglasslaw02_SpanSlots.mono_l : ∀ k, (∀ y0 y1 y2 y3, LeO (sandglasslaw02_SpanSlots.j0 k y0 y1 y2 y3) (sandglasslaw02_SpanSlots.j0 (k + 1) y0 y1 y2 y3))
  | 0 => fun _ _ _ _ r h => by simp [sandglasslaw02_SpanSlots.j0] at h
  | k + 1 => by
    have ih0 := sandglasslaw02_SpanSlots.mono_l k
    · intro y0 y1 y2 y3
      unfold sandglasslaw02_SpanSlots.j0
      repeat' first
      | (with_reducible exact ih0 _ _ _ _)
      | (with_reducible exact LeO.refl _)
      | (with_reducible exact LeO.none _)
      | (with_reducible refine LeO.ite ?_ ?_)
      | (with_reducible refine LeO.bind ?_ (fun _ => ?_))
      | exact ih0 _ _ _ _
      | exact LeO.none _
      | refine LeO.ite ?_ ?_
      | refine LeO.bind ?_ (fun _ => ?_)
theorem sandglasslaw02_SpanSlots.mono : ∀ a0 a1 k, LeO (sandglasslaw02_SpanSlots.f k a0 a1) (sandglasslaw02_SpanSlots.f (k + 1) a0 a1) := by
  intro a0 a1 k
  have ih0 := sandglasslaw02_SpanSlots.mono_l k
  unfold sandglasslaw02_SpanSlots.f
  repeat' first
      | (with_reducible exact ih0 _ _ _ _)
      | (with_reducible exact LeO.refl _)
      | (with_reducible exact LeO.none _)
      | (with_reducible refine LeO.ite ?_ ?_)
      | (with_reducible refine LeO.bind ?_ (fun _ => ?_))
      | exact ih0 _ _ _ _
      | exact LeO.none _
      | refine LeO.ite ?_ ?_
      | refine LeO.bind ?_ (fun _ => ?_)
set_option maxHeartbeats 8000000 in
set_option maxRecDepth 100000 in
theorem sandglasslaw02_SpanSlots.calls (k : Nat) (a0 : Int) (a1 : Int) (r : Bool) (w : World) (h : sandglasslaw02_SpanSlots.f k a0 a1 = some r) :
    Calls Try.prog 5 #[.int .u64 a0, .int .u64 a1] w fun e w' => e = .returned (.bool r) ∧ Drawn0 w w' := by
  have H : ((span_Slot.f a0 (Int.tmod a1 9223372036854775809)).bind fun t130 => ((span_Begin.f t130 (mx (Int.tmod a1 9223372036854775809) 1)).bind fun t131 => (if t131 < a0 then (sandglasslaw02_SpanSlots.j0 k (mx (Int.tmod a1 9223372036854775809) 1) t130 t131 true) else (if t131 < 18446744073709551615 then (if (IntKind.u64.wrap (t131 - a0)) ≥ (mx (Int.tmod a1 9223372036854775809) 1) then (sandglasslaw02_SpanSlots.j0 k (mx (Int.tmod a1 9223372036854775809) 1) t130 t131 true) else (if t130 > 0 then ((span_Begin.f (IntKind.u64.wrap (t130 - 1)) (mx (Int.tmod a1 9223372036854775809) 1)).bind fun t132 => (sandglasslaw02_SpanSlots.j0 k (mx (Int.tmod a1 9223372036854775809) 1) t130 t131 (decide (t132 ≥ a0)))) else (sandglasslaw02_SpanSlots.j0 k (mx (Int.tmod a1 9223372036854775809) 1) t130 t131 false))) else (if t130 > 0 then ((span_Begin.f (IntKind.u64.wrap (t130 - 1)) (mx (Int.tmod a1 9223372036854775809) 1)).bind fun t133 => (sandglasslaw02_SpanSlots.j0 k (mx (Int.tmod a1 9223372036854775809) 1) t130 t131 (decide (t133 ≥ a0)))) else (sandglasslaw02_SpanSlots.j0 k (mx (Int.tmod a1 9223372036854775809) 1) t130 t131 false)))))) = some r := h
  clear h
  obtain ⟨ji3, hji3⟩ : ∃ j_ : Int, (mx (Int.tmod a1 9223372036854775809) 1) = j_ := ⟨_, rfl⟩
  replace H : ((span_Slot.f a0 (Int.tmod a1 9223372036854775809)).bind fun t130 => ((span_Begin.f t130 (ji3)).bind fun t131 => (if t131 < a0 then (sandglasslaw02_SpanSlots.j0 k ji3 t130 t131 true) else (if t131 < 18446744073709551615 then (if (IntKind.u64.wrap (t131 - a0)) ≥ (ji3) then (sandglasslaw02_SpanSlots.j0 k ji3 t130 t131 true) else (if t130 > 0 then ((span_Begin.f (IntKind.u64.wrap (t130 - 1)) (ji3)).bind fun t132 => (sandglasslaw02_SpanSlots.j0 k ji3 t130 t131 (decide (t132 ≥ a0)))) else (sandglasslaw02_SpanSlots.j0 k ji3 t130 t131 false))) else (if t130 > 0 then ((span_Begin.f (IntKind.u64.wrap (t130 - 1)) (ji3)).bind fun t133 => (sandglasslaw02_SpanSlots.j0 k ji3 t130 t131 (decide (t133 ≥ a0)))) else (sandglasslaw02_SpanSlots.j0 k ji3 t130 t131 false)))))) = some r := by first | (rw [hji3] at H; exact H) | (simp only [hji3] at H ⊢; exact H)
  (try (have hji3l : 1 ≤ ji3 := by (rw [← hji3]; unfold mx; (repeat' split) <;> omega)))
  (try (have hji3m : 0 ≤ ji3 := by omega))
  have hji3_ : (if (Int.tmod a1 9223372036854775809) < 1 then 1 else (Int.tmod a1 9223372036854775809)) = ji3 := hji3
  replace H := Option.bind_eq_some_iff.mp H
  obtain ⟨t130, A40, H⟩ := H
  replace H : ((span_Begin.f t130 (ji3)).bind fun t131 => (if t131 < a0 then (sandglasslaw02_SpanSlots.j0 k ji3 t130 t131 true) else (if t131 < 18446744073709551615 then (if (IntKind.u64.wrap (t131 - a0)) ≥ (ji3) then (sandglasslaw02_SpanSlots.j0 k ji3 t130 t131 true) else (if t130 > 0 then ((span_Begin.f (IntKind.u64.wrap (t130 - 1)) (ji3)).bind fun t132 => (sandglasslaw02_SpanSlots.j0 k ji3 t130 t131 (decide (t132 ≥ a0)))) else (sandglasslaw02_SpanSlots.j0 k ji3 t130 t131 false))) else (if t130 > 0 then ((span_Begin.f (IntKind.u64.wrap (t130 - 1)) (ji3)).bind fun t133 => (sandglasslaw02_SpanSlots.j0 k ji3 t130 t131 (decide (t133 ≥ a0)))) else (sandglasslaw02_SpanSlots.j0 k ji3 t130 t131 false))))) = some r := H
  have A4 := Aside0.mk A40
  clear A40
  replace H := Option.bind_eq_some_iff.mp H
  obtain ⟨t131, A50, H⟩ := H
  replace H : (if t131 < a0 then (sandglasslaw02_SpanSlots.j0 k ji3 t130 t131 true) else (if t131 < 18446744073709551615 then (if (IntKind.u64.wrap (t131 - a0)) ≥ (ji3) then (sandglasslaw02_SpanSlots.j0 k ji3 t130 t131 true) else (if t130 > 0 then ((span_Begin.f (IntKind.u64.wrap (t130 - 1)) (ji3)).bind fun t132 => (sandglasslaw02_SpanSlots.j0 k ji3 t130 t131 (decide (t132 ≥ a0)))) else (sandglasslaw02_SpanSlots.j0 k ji3 t130 t131 false))) else (if t130 > 0 then ((span_Begin.f (IntKind.u64.wrap (t130 - 1)) (ji3)).bind fun t133 => (sandglasslaw02_SpanSlots.j0 k ji3 t130 t131 (decide (t133 ≥ a0)))) else (sandglasslaw02_SpanSlots.j0 k ji3 t130 t131 false)))) = some r := H
  have A5 := Aside0.mk A50
  clear A50
  have HC6 := Aside0.mk H
  clear H
  go_enter Try.func5, Try.ntmps5
  go_upto_region 4 with (first | ((with_reducible refine gate_callee (f := 15) rfl ?_); refine goesL_ (some 14) rfl rfl Try.func15 (by kernel_rfl) rfl #[.int .u64 a0, .int .u64 (Int.tmod a1 9223372036854775809)] rfl (by (try simp only [List.map_toArray, List.map_cons, List.map_nil]); first | done | rfl | (simp only [List.length_drop, List.length_take]; rfl)) ?_; (with_reducible refine (span_Slot.calls a0 (Int.tmod a1 9223372036854775809) t130 _ A4.out).mono ?_); rintro e w' ⟨rfl, ⟨nd, rfl⟩⟩; refine ⟨_, rfl, ?_⟩) | ((with_reducible refine gate_callee (f := 17) rfl ?_); refine goesL_ (some 17) rfl rfl Try.func17 (by kernel_rfl) rfl #[.int .u64 t130, .int .u64 ji3] rfl (by (try simp only [List.map_toArray, List.map_cons, List.map_nil]); first | done | (simp only [hji3]; rfl) | rfl | (simp only [List.length_drop, List.length_take]; rfl)) ?_; (with_reducible refine (span_Begin.calls t130 ji3 t131 _ A5.out).mono ?_); rintro e w' ⟨rfl, ⟨nd, rfl⟩⟩; refine ⟨_, rfl, ?_⟩))
  (try simp only [Act.put, List.setIfInBounds_toArray, List.set_cons_zero, List.set_cons_succ])
  go_cut [43] (fun v43 wc => ∃ (kq : Nat) (x43_5 : Bool), v43 = .bool x43_5 ∧ Aside0 (sandglasslaw02_SpanSlots.j0 kq ji3 t130 t131 x43_5 = some r) ∧ Aside0 (kq ≤ k) ∧ Drawn0 w wc)
  case first =>
    have H := HC6.out
    clear HC6
    by_cases c7 : t131 < a0
    · rw [if_pos c7] at H
      have c7b0 : decide (t131 < a0) = true := decide_eq_true c7
      clear c7
      (first | rw [c7b0] | (simp only [i64_w, i32_w]; rw [c7b0]) | skip)
      have H' := Aside0.mk H
      clear H
      go_wp2
      go_meet
      case rel => exact ⟨_, (true), (by first | rfl | (simp; done) | (simp [*]; done)), H', ⟨by first | omega | exact Nat.le_refl _⟩, by repeat (first | exact Drawn0.refl _ | apply Drawn0.step)⟩
    · rw [if_neg c7] at H
      have c7b0 : decide (t131 < a0) = false := decide_eq_false c7
      clear c7
      (first | rw [c7b0] | (simp only [i64_w, i32_w]; rw [c7b0]) | skip)
      by_cases c8 : t131 < 18446744073709551615
      · rw [if_pos c8] at H
        have c8b0 : decide (t131 < 18446744073709551615) = true := decide_eq_true c8
        clear c8
        by_cases c9 : (IntKind.u64.wrap (t131 - a0)) ≥ (ji3)
        · rw [if_pos c9] at H
          have c9b0 : decide ((ji3) ≤ (IntKind.u64.wrap (t131 - a0))) = true := decide_eq_true c9
          clear c9
          have H' := Aside0.mk H
          clear H
          go_wp2
          go_meet
          case rel => exact ⟨_, (true), (by first | rfl | (simp; done) | (simp [*]; done)), H', ⟨by first | omega | exact Nat.le_refl _⟩, by repeat (first | exact Drawn0.refl _ | apply Drawn0.step)⟩
        · rw [if_neg c9] at H
          have c9b0 : decide ((ji3) ≤ (IntKind.u64.wrap (t131 - a0))) = false := decide_eq_false c9
          clear c9
          by_cases c10 : t130 > 0
          · rw [if_pos c10] at H
            have c10b0 : decide (0 < t130) = true := decide_eq_true c10
            clear c10
            replace H := Option.bind_eq_some_iff.mp H
            obtain ⟨t132, A110, H⟩ := H
            replace H : (sandglasslaw02_SpanSlots.j0 k ji3 t130 t131 (decide (t132 ≥ a0))) = some r := H
            have A11 := Aside0.mk A110
            clear A110
            have H' := Aside0.mk H
            clear H
            go_wp2_with (first | (go_at_call 17; (with_reducible refine (span_Begin.calls (IntKind.u64.wrap (t130 - 1)) ji3 t132 _ A11.out).mono ?_); rintro e w' ⟨rfl, ⟨nd, rfl⟩⟩))
            go_meet
            case rel => exact ⟨_, (decide (t132 ≥ a0)), (by first | rfl | (simp; done) | (simp [*]; done)), H', ⟨by first | omega | exact Nat.le_refl _⟩, by repeat (first | exact Drawn0.refl _ | apply Drawn0.step)⟩
          · rw [if_neg c10] at H
            have c10b0 : decide (0 < t130) = false := decide_eq_false c10
            clear c10
            have H' := Aside0.mk H
            clear H
            go_wp2
            go_meet
            case rel => exact ⟨_, (false), (by first | rfl | (simp; done) | (simp [*]; done)), H', ⟨by first | omega | exact Nat.le_refl _⟩, by repeat (first | exact Drawn0.refl _ | apply Drawn0.step)⟩
      · rw [if_neg c8] at H
        have c8b0 : decide (t131 < 18446744073709551615) = false := decide_eq_false c8
        clear c8
        by_cases c12 : t130 > 0
        · rw [if_pos c12] at H
          have c12b0 : decide (0 < t130) = true := decide_eq_true c12
          clear c12
          replace H := Option.bind_eq_some_iff.mp H
          obtain ⟨t133, A130, H⟩ := H
          replace H : (sandglasslaw02_SpanSlots.j0 k ji3 t130 t131 (decide (t133 ≥ a0))) = some r := H
          have A13 := Aside0.mk A130
          clear A130
          have H' := Aside0.mk H
          clear H
          go_wp2_with (first | (go_at_call 17; (with_reducible refine (span_Begin.calls (IntKind.u64.wrap (t130 - 1)) ji3 t133 _ A13.out).mono ?_); rintro e w' ⟨rfl, ⟨nd, rfl⟩⟩))
          go_meet
          case rel => exact ⟨_, (decide (t133 ≥ a0)), (by first | rfl | (simp; done) | (simp [*]; done)), H', ⟨by first | omega | exact Nat.le_refl _⟩, by repeat (first | exact Drawn0.refl _ | apply Drawn0.step)⟩
        · rw [if_neg c12] at H
          have c12b0 : decide (0 < t130) = false := decide_eq_false c12
          clear c12
          have H' := Aside0.mk H
          clear H
          go_wp2
          go_meet
          case rel => exact ⟨_, (false), (by first | rfl | (simp; done) | (simp [*]; done)), H', ⟨by first | omega | exact Nat.le_refl _⟩, by repeat (first | exact Drawn0.refl _ | apply Drawn0.step)⟩
  case rest =>
    clear HC6
    try clear c1
    try clear p2
    try clear c5
    try clear c7
    try clear c7b0
    try clear c8
    try clear c8b0
    try clear c9
    try clear c9b0
    try clear c10
    try clear c10b0
    try clear c12
    try clear c12b0
    obtain ⟨kq, x43_5, rfl, HA, HJ5, ⟨mc5, rfl⟩⟩ := hcut
    cases kq with
    | zero => exact absurd HA.out (by simp [sandglasslaw02_SpanSlots.j0])
    | succ kj5 =>
      have H := HA.out
      clear HA
      simp only [sandglasslaw02_SpanSlots.j0] at H
      by_cases c14 : x43_5 = true
      · subst c14
        have H1 : (some false) = some r := by rw [if_pos rfl] at H; exact H
        clear H
        have H := H1
        clear H1
        obtain rfl := Option.some.inj H
        go_wp2
        go_ret
        exact ⟨by first | rfl | (simp; done) | (simp only [← hji3] <;> (first | rfl | simp)) | (simp [*]; done), by repeat (first | exact Drawn0.refl _ | apply Drawn0.step)⟩
      · replace c14 := Bool.eq_false_iff.mpr c14
        subst c14
        have H1 : (if t131 = 18446744073709551615 then ((sandglasslaw02_awake.f).bind fun t134 => (some t134)) else ((span_Slot.f t131 ji3).bind fun t135 => (if t135 = t130 then ((sandglasslaw02_awake.f).bind fun t136 => (some t136)) else (some false)))) = some r := by rw [if_neg (show ¬ (false = true) by decide)] at H; exact H
        clear H
        have H := H1
        clear H1
        by_cases c15 : t131 = 18446744073709551615
        · rw [if_pos c15] at H
          have c15b0 : (t131 == 18446744073709551615) = true := beq_iff_eq.mpr c15
          have c15b1 : (t131 != 18446744073709551615) = false := bne_eq_false_iff_eq.mpr c15
          clear c15
          replace H := Option.bind_eq_some_iff.mp H
          obtain ⟨t134, A160, H⟩ := H
          replace H : (some t134) = some r := H
          have A16 := Aside0.mk A160
          clear A160
          obtain rfl := Option.some.inj H
          go_wp2_with (first | (go_at_call 19; (with_reducible refine (sandglasslaw02_awake.calls  t134 _ A16.out).mono ?_); rintro e w' ⟨rfl, ⟨nd, rfl⟩⟩))
          go_ret
          exact ⟨by first | rfl | (simp; done) | (simp only [← hji3] <;> (first | rfl | simp)) | (simp [*]; done), by repeat (first | exact Drawn0.refl _ | apply Drawn0.step)⟩
        · rw [if_neg c15] at H
          have c15b0 : (t131 == 18446744073709551615) = false := beq_eq_false_iff_ne.mpr c15
          have c15b1 : (t131 != 18446744073709551615) = true := bne_iff_ne.mpr c15
          replace H := Option.bind_eq_some_iff.mp H
          obtain ⟨t135, A170, H⟩ := H
          replace H : (if t135 = t130 then ((sandglasslaw02_awake.f).bind fun t136 => (some t136)) else (some false)) = some r := H
          have A17 := Aside0.mk A170
          clear A170
          by_cases c18 : t135 = t130
          · rw [if_pos c18] at H
            have c18b0 : (t135 == t130) = true := beq_iff_eq.mpr c18
            have c18b1 : (t135 != t130) = false := bne_eq_false_iff_eq.mpr c18
            clear c18
            replace H := Option.bind_eq_some_iff.mp H
            obtain ⟨t136, A190, H⟩ := H
            replace H : (some t136) = some r := H
            have A19 := Aside0.mk A190
            clear A190
            obtain rfl := Option.some.inj H
            go_wp2_with (first | (go_at_call 15; (with_reducible refine (span_Slot.calls t131 ji3 t135 _ A17.out).mono ?_); rintro e w' ⟨rfl, ⟨nd, rfl⟩⟩) | (go_at_call 19; (with_reducible refine (sandglasslaw02_awake.calls  t136 _ A19.out).mono ?_); rintro e w' ⟨rfl, ⟨nd, rfl⟩⟩))
            go_ret
            exact ⟨by first | rfl | (simp; done) | (simp only [← hji3] <;> (first | rfl | simp)) | (simp [*]; done), by repeat (first | exact Drawn0.refl _ | apply Drawn0.step)⟩
          · rw [if_neg c18] at H
            have c18b0 : (t135 == t130) = false := beq_eq_false_iff_ne.mpr c18
            have c18b1 : (t135 != t130) = true := bne_iff_ne.mpr c18
            obtain rfl := Option.some.inj H
            go_wp2_with (first | (go_at_call 15; (with_reducible refine (span_Slot.calls t131 ji3 t135 _ A17.out).mono ?_); rintro e w' ⟨rfl, ⟨nd, rfl⟩⟩))
            go_ret
            exact ⟨by first | rfl | (simp; done) | (simp only [← hji3] <;> (first | rfl | simp)) | (simp [*]; done), by repeat (first | exact Drawn0.refl _ | apply Drawn0.step)⟩

/-- THE ONE PURE STATEMENT of sandglasslaw02_SpanSlots: yours. -/
def sandglasslaw02_SpanSlots.Pure : Prop := ∀ (a0 : Int) (a1 : Int), (Lit.int .u64 a0).wf = true → (Lit.int .u64 a1).wf = true → ∃ k, sandglasslaw02_SpanSlots.f k a0 a1 = some true
theorem sandglasslaw02_SpanSlots.walk (P : sandglasslaw02_SpanSlots.Pure) (a0 : Int) (a1 : Int) (w : World) (w0 : (Lit.int .u64 a0).wf = true) (w1 : (Lit.int .u64 a1).wf = true) :
    Calls Try.prog 5 #[.int .u64 a0, .int .u64 a1] w fun e w' => e = .returned (.bool true) ∧ Below w.heap.size w w' := by
  obtain ⟨k, h⟩ := P a0 a1 w0 w1
  refine (sandglasslaw02_SpanSlots.calls k a0 a1 true w h).mono ?_
  rintro e w' ⟨rfl, hd⟩
  exact ⟨rfl, hd.below⟩

end Go.Proofs.Ytihnjbpjikekpab.PLaws
