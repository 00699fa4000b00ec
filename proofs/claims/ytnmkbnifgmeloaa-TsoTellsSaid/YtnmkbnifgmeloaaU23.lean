/- This text of a proof shows: are two lists of packets the same. -/
import Derived.Test.YtnmkbnifgmeloaaV23
set_option linter.unusedVariables false
set_option linter.unusedSimpArgs false
set_option linter.constructorNameAsVariable false
namespace Go.Proofs.Ytnmkbnifgmeloaa.IR
open Go Go.Proofs.Ytnmkbnifgmeloaa.Ev
set_option linter.unusedSimpArgs false
set_option linter.unusedVariables false
set_option maxHeartbeats 4000000
attribute [local go_sem] skipV nc0 nc1 nc2 nc3 bne_self_eq_false decide_true decide_false IOp.step Opd.ev Env.get initEnv Val.cells? Val.one List.all_cons List.all_nil Bool.and_true Bool.and_self Bool.true_and bin ints eqv Val.kindNo lenNo_s lenNo_nils lenNo_sl lenNo_nilm lenNo_m lenOf_s lenOf_nils lenOf_sl lenOf_nilm unary partsOf padTo List.foldl_cons List.foldl_nil wr_nil wr_step wr_zero List.set_cons_zero List.set_cons_succ List.map_cons List.map_nil z1 z2 Nat.succ_ne_zero List.length_cons List.length_nil List.cons_append List.nil_append List.append_nil List.getElem?_cons_zero List.getElem?_cons_succ List.getElem?_nil Option.map_some Option.map_none Nat.zero_add Nat.add_zero List.drop_zero List.drop_succ_cons List.take_succ_cons List.take_zero List.take_nil and_self and_true true_and Nat.le_refl Bool.not_true Bool.not_false Option.getD_some window Val.slen bnd resV resL RV.val Bool.false_eq_true BEq.rfl Bool.true_beq Bool.false_beq beq_true beq_false mk_one ite_true ite_false eqc ceqs ceq NOp.step isK eq_self
attribute [-go_sem] ceqs ceq
theorem ceqs_pk (x y : Pk) : ceqs [0, 0, 0, 0, 0] [.i .u64 x.1, .i .u64 x.2.1, .i .i64 x.2.2.1, .i .u8 x.2.2.2.1, .i .u64 x.2.2.2.2] [.i .u64 y.1, .i .u64 y.2.1, .i .i64 y.2.2.1, .i .u8 y.2.2.2.1, .i .u64 y.2.2.2.2] = some (decide (x = y)) := by
  obtain ⟨a, b, c, d, e⟩ := x
  obtain ⟨a', b', c', d', e'⟩ := y
  simp only [ceqs, ceq]
  by_cases h1 : a = a' <;> by_cases h2 : b = b' <;> by_cases h3 : c = c' <;> by_cases h4 : d = d' <;> by_cases h5 : e = e' <;> simp [h1, h2, h3, h4, h5]
def MInv (a b : List Pk) (n : Nat) (ρ : Env) (H : Heap) : Prop :=
  ∃ i : Nat, i + n = a.length ∧ a.take i = b.take i ∧ AnewS 2 [.rw (a.flatMap ev5), .rw (b.flatMap ev5)] [(0, .sl 0 0 a.length 5), (1, .sl 1 0 b.length 5), (12, .i .i64 a.length), (13, .i .i64 i)] ρ H
theorem ev5_at {l : List Pk} {i : Nat} {x : Pk} (h : l[i]? = some x) : ((l.flatMap ev5).drop (i * 5)).take 5 = [.i .u64 x.1, .i .u64 x.2.1, .i .i64 x.2.2.1, .i .u8 x.2.2.2.1, .i .u64 x.2.2.2.2] := drop_take_flat ev5_len l i x h
theorem same_c (a b : List Pk) (hm : a.length ≤ 65536) : SoundM Try.prog 2 15 [.sl 0 0 a.length 5, .sl 1 0 b.length 5] [.rw (a.flatMap ev5), .rw (b.flatMap ev5)] (fun v H' => v = .b (decide (a = b)) ∧ H' = [.rw (a.flatMap ev5), .rw (b.flatMap ev5)]) := by
  refine sound_told (sound_func Try.func15 c15 rfl (by simp) ?_)
  simp only [e15]
  by_cases hl : a.length = b.length
  · have he : ((a.length : Int) != (b.length : Int)) = false := by simp; omega
    repeat (first
    | ((first | (with_reducible first | apply Aa | apply Ab | apply Ac | apply Ad | apply Ae | apply Af | apply Na | apply Nb) | ((with_reducible first | apply Ag | apply Ah | apply Nc); · (simp only [go_sem, reduceIte, Nat.reduceEqDiff, he]; (try with_reducible exact rfl)))); · (simp only [go_sem, Int.reduceBEq, Int.reduceBNe, Int.reduceLT, Int.reduceLE, Int.reduceAdd, Int.reduceSub, Int.reduceToNat, reduceIte, Nat.reduceEqDiff, Nat.reduceAdd, Nat.reduceMul, Nat.reduceLeDiff, Nat.reduceSub, reduceCtorEq, he]; (try simp (disch := omega) only [OM, mn_lo, mn_hi, mx_lo, mx_hi, if_yes, if_no, Option.map_some, he]); (try with_reducible exact rfl)))
    | ((with_reducible first | apply Ba | apply Bb | apply Bc | apply Bd | apply Be | apply Nd); · (simp only [go_sem, reduceIte, Nat.reduceEqDiff, he]; (try with_reducible exact rfl))) | ((with_reducible first | apply Ca | apply Cb | apply Cc | apply Cd | apply Ce | apply Ne); · (simp only [go_sem, reduceIte, Nat.reduceEqDiff, he]; (try with_reducible exact rfl)))
    | ((with_reducible first | apply Dg | apply Dh); (· decide +kernel); (· (simp only [inOrd, List.getElem?_cons_succ, List.getElem?_cons_zero]; exact rfl)))
    | ((with_reducible first | apply De | apply Df); (· decide +kernel); (· (simp only [inOrd, List.getElem?_cons_succ, List.getElem?_cons_zero]; exact rfl)))
    | (with_reducible first | apply Ea | apply Eb | apply Ec | apply Ed | apply Ee | apply Ef | apply Eg | apply Eh | apply Ei | apply Ej | apply Ek | apply El | apply Em | apply En | apply Eo) | ((with_reducible apply Ep); · rfl))
    refine ei_loop (MInv a b) (n := a.length) ?_ ?_
    · refine ⟨0, by omega, by simp, ?_⟩
      refine anew [0, 1] (by simp [ev5_ren, ev5_wf, nc0] <;> fail) (by decide) (by simp [-List.map_map, embAt, nm, rn_rw, rn_ro, rn_map, rn_iter, rn_dead, renL, Val.ren, ev5_ren, ev5_wf, nc0]) (by simp [-List.map_map, wfAll, wn_rw, wn_ro, wn_map, wn_iter, wn_dead, wfL, Val.wf, ev5_ren, ev5_wf, nc0]) (by simp [ev5_ren, ev5_wf, nc0]) rfl (by simp [-List.map_map, Val.wf, wfL, ev5_ren, ev5_wf, nc0]) (by simp [-List.map_map, Env.get, Val.ren, renL, nm, initEnv, ev5_ren, ev5_wf, nc0])
    · rintro n ρ H ⟨i, hn, hi, ha⟩
      refine ei_anewS ha ?_
      clear ha
      by_cases hlt : i < a.length
      · have hlt' : (i : Int) < a.length := by omega
        obtain ⟨x, hx⟩ : ∃ x, a[i]? = some x := ⟨_, List.getElem?_eq_getElem hlt⟩
        obtain ⟨y, hy⟩ : ∃ y, b[i]? = some y := ⟨_, List.getElem?_eq_getElem (by omega)⟩
        have hxa := ev5_at hx
        have hyb := ev5_at hy
        have g1 : ((i : Int) < (b.length : Int)) := by omega
        by_cases hxy : x = y
        · repeat (first
    | ((first | (with_reducible first | apply Aa | apply Ab | apply Ac | apply Ad | apply Ae | apply Af | apply Na | apply Nb) | ((with_reducible first | apply Ag | apply Ah | apply Nc); · (simp only [go_sem, reduceIte, Nat.reduceEqDiff, hlt', hxa, hyb, ceqs_pk, Int.toNat_natCast, ev5_flat, hxy]; (try with_reducible exact rfl)))); · (simp only [go_sem, Int.reduceBEq, Int.reduceBNe, Int.reduceLT, Int.reduceLE, Int.reduceAdd, Int.reduceSub, Int.reduceToNat, reduceIte, Nat.reduceEqDiff, Nat.reduceAdd, Nat.reduceMul, Nat.reduceLeDiff, Nat.reduceSub, reduceCtorEq, hlt', hxa, hyb, ceqs_pk, Int.toNat_natCast, ev5_flat, hxy]; (try simp (disch := omega) only [OM, mn_lo, mn_hi, mx_lo, mx_hi, if_yes, if_no, Option.map_some, hlt', hxa, hyb, ceqs_pk, Int.toNat_natCast, ev5_flat, hxy]); (try with_reducible exact rfl)))
    | ((with_reducible first | apply Ba | apply Bb | apply Bc | apply Bd | apply Be | apply Nd); · (simp only [go_sem, reduceIte, Nat.reduceEqDiff, hlt', hxa, hyb, ceqs_pk, Int.toNat_natCast, ev5_flat, hxy]; (try with_reducible exact rfl))) | ((with_reducible first | apply Ca | apply Cb | apply Cc | apply Cd | apply Ce | apply Ne); · (simp only [go_sem, reduceIte, Nat.reduceEqDiff, hlt', hxa, hyb, ceqs_pk, Int.toNat_natCast, ev5_flat, hxy]; (try with_reducible exact rfl)))
    | ((with_reducible first | apply Dg | apply Dh); (· decide +kernel); (· (simp only [inOrd, List.getElem?_cons_succ, List.getElem?_cons_zero]; exact rfl)))
    | ((with_reducible first | apply De | apply Df); (· decide +kernel); (· (simp only [inOrd, List.getElem?_cons_succ, List.getElem?_cons_zero]; exact rfl)))
    | (with_reducible first | apply Ea | apply Eb | apply Ec | apply Ed | apply Ee | apply Ef | apply Eg | apply Eh | apply Ei | apply Ej | apply Ek | apply El | apply Em | apply En | apply Eo) | ((with_reducible apply Ep); · rfl))
          refine ⟨n - 1, by omega, i + 1, by omega, ?_, ?_⟩
          · rw [List.take_add_one, List.take_add_one, hx, hy, hi, hxy]
          refine anew [0, 1] (by simp [ev5_ren, ev5_wf, nc0] <;> fail) (by decide) (by simp [-List.map_map, embAt, nm, rn_rw, rn_ro, rn_map, rn_iter, rn_dead, renL, Val.ren, ev5_ren, ev5_wf, nc0]) (by simp [-List.map_map, wfAll, wn_rw, wn_ro, wn_map, wn_iter, wn_dead, wfL, Val.wf, ev5_ren, ev5_wf, nc0]) (by simp [ev5_ren, ev5_wf, nc0]) rfl (by simp [-List.map_map, Val.wf, wfL, ev5_ren, ev5_wf, nc0]) (by simp [-List.map_map, Env.get, Val.ren, renL, nm, initEnv, ev5_ren, ev5_wf, nc0])
        · have hab : ¬ a = b := by
            rintro rfl
            rw [hx] at hy; cases hy; exact hxy rfl
          repeat (first
    | ((first | (with_reducible first | apply Aa | apply Ab | apply Ac | apply Ad | apply Ae | apply Af | apply Na | apply Nb) | ((with_reducible first | apply Ag | apply Ah | apply Nc); · (simp only [go_sem, reduceIte, Nat.reduceEqDiff, hlt', hxa, hyb, ceqs_pk, Int.toNat_natCast, ev5_flat, hxy]; (try with_reducible exact rfl)))); · (simp only [go_sem, Int.reduceBEq, Int.reduceBNe, Int.reduceLT, Int.reduceLE, Int.reduceAdd, Int.reduceSub, Int.reduceToNat, reduceIte, Nat.reduceEqDiff, Nat.reduceAdd, Nat.reduceMul, Nat.reduceLeDiff, Nat.reduceSub, reduceCtorEq, hlt', hxa, hyb, ceqs_pk, Int.toNat_natCast, ev5_flat, hxy]; (try simp (disch := omega) only [OM, mn_lo, mn_hi, mx_lo, mx_hi, if_yes, if_no, Option.map_some, hlt', hxa, hyb, ceqs_pk, Int.toNat_natCast, ev5_flat, hxy]); (try with_reducible exact rfl)))
    | ((with_reducible first | apply Ba | apply Bb | apply Bc | apply Bd | apply Be | apply Nd); · (simp only [go_sem, reduceIte, Nat.reduceEqDiff, hlt', hxa, hyb, ceqs_pk, Int.toNat_natCast, ev5_flat, hxy]; (try with_reducible exact rfl))) | ((with_reducible first | apply Ca | apply Cb | apply Cc | apply Cd | apply Ce | apply Ne); · (simp only [go_sem, reduceIte, Nat.reduceEqDiff, hlt', hxa, hyb, ceqs_pk, Int.toNat_natCast, ev5_flat, hxy]; (try with_reducible exact rfl)))
    | ((with_reducible first | apply Dg | apply Dh); (· decide +kernel); (· (simp only [inOrd, List.getElem?_cons_succ, List.getElem?_cons_zero]; exact rfl)))
    | ((with_reducible first | apply De | apply Df); (· decide +kernel); (· (simp only [inOrd, List.getElem?_cons_succ, List.getElem?_cons_zero]; exact rfl)))
    | (with_reducible first | apply Ea | apply Eb | apply Ec | apply Ed | apply Ee | apply Ef | apply Eg | apply Eh | apply Ei | apply Ej | apply Ek | apply El | apply Em | apply En | apply Eo) | ((with_reducible apply Ep); · rfl))
          refine told [0, 1] [.rw (a.flatMap ev5), .rw (b.flatMap ev5)] (.b false) (by simp [ev5_ren, ev5_wf] <;> fail) (by decide) (by simp [-List.map_map, embAt, nm, rn_rw, rn_ro, rn_map, rn_iter, rn_dead, renL, Val.ren, ev5_ren, ev5_wf]) (by simp [-List.map_map, wfAll, wn_rw, wn_ro, wn_map, wn_iter, wn_dead, wfL, Val.wf, ev5_ren, ev5_wf]) (by simp [ev5_ren, ev5_wf]) rfl (by simp [-List.map_map, Val.wf, wfL, ev5_ren, ev5_wf]) (by simp [-List.map_map, Val.ren, renL, nm, ev5_ren, ev5_wf]) ?_
          exact ⟨by simp [hab], rfl⟩
      · have hlt' : ¬ (i : Int) < a.length := by omega
        have hab : a = b := by
          rw [List.take_of_length_le (by omega), List.take_of_length_le (by omega)] at hi
          exact hi
        repeat (first
    | ((first | (with_reducible first | apply Aa | apply Ab | apply Ac | apply Ad | apply Ae | apply Af | apply Na | apply Nb) | ((with_reducible first | apply Ag | apply Ah | apply Nc); · (simp only [go_sem, reduceIte, Nat.reduceEqDiff, hlt']; (try with_reducible exact rfl)))); · (simp only [go_sem, Int.reduceBEq, Int.reduceBNe, Int.reduceLT, Int.reduceLE, Int.reduceAdd, Int.reduceSub, Int.reduceToNat, reduceIte, Nat.reduceEqDiff, Nat.reduceAdd, Nat.reduceMul, Nat.reduceLeDiff, Nat.reduceSub, reduceCtorEq, hlt']; (try simp (disch := omega) only [OM, mn_lo, mn_hi, mx_lo, mx_hi, if_yes, if_no, Option.map_some, hlt']); (try with_reducible exact rfl)))
    | ((with_reducible first | apply Ba | apply Bb | apply Bc | apply Bd | apply Be | apply Nd); · (simp only [go_sem, reduceIte, Nat.reduceEqDiff, hlt']; (try with_reducible exact rfl))) | ((with_reducible first | apply Ca | apply Cb | apply Cc | apply Cd | apply Ce | apply Ne); · (simp only [go_sem, reduceIte, Nat.reduceEqDiff, hlt']; (try with_reducible exact rfl)))
    | ((with_reducible first | apply Dg | apply Dh); (· decide +kernel); (· (simp only [inOrd, List.getElem?_cons_succ, List.getElem?_cons_zero]; exact rfl)))
    | ((with_reducible first | apply De | apply Df); (· decide +kernel); (· (simp only [inOrd, List.getElem?_cons_succ, List.getElem?_cons_zero]; exact rfl)))
    | (with_reducible first | apply Ea | apply Eb | apply Ec | apply Ed | apply Ee | apply Ef | apply Eg | apply Eh | apply Ei | apply Ej | apply Ek | apply El | apply Em | apply En | apply Eo) | ((with_reducible apply Ep); · rfl))
        refine told [0, 1] [.rw (a.flatMap ev5), .rw (b.flatMap ev5)] (.b true) (by simp [ev5_ren, ev5_wf] <;> fail) (by decide) (by simp [-List.map_map, embAt, nm, rn_rw, rn_ro, rn_map, rn_iter, rn_dead, renL, Val.ren, ev5_ren, ev5_wf]) (by simp [-List.map_map, wfAll, wn_rw, wn_ro, wn_map, wn_iter, wn_dead, wfL, Val.wf, ev5_ren, ev5_wf]) (by simp [ev5_ren, ev5_wf]) rfl (by simp [-List.map_map, Val.wf, wfL, ev5_ren, ev5_wf]) (by simp [-List.map_map, Val.ren, renL, nm, ev5_ren, ev5_wf]) ?_
        exact ⟨by simp [hab], rfl⟩
  · have he : ((a.length : Int) != (b.length : Int)) = true := by simp; omega
    have hab : ¬ a = b := by rintro rfl; exact hl rfl
    repeat (first
    | ((first | (with_reducible first | apply Aa | apply Ab | apply Ac | apply Ad | apply Ae | apply Af | apply Na | apply Nb) | ((with_reducible first | apply Ag | apply Ah | apply Nc); · (simp only [go_sem, reduceIte, Nat.reduceEqDiff, he]; (try with_reducible exact rfl)))); · (simp only [go_sem, Int.reduceBEq, Int.reduceBNe, Int.reduceLT, Int.reduceLE, Int.reduceAdd, Int.reduceSub, Int.reduceToNat, reduceIte, Nat.reduceEqDiff, Nat.reduceAdd, Nat.reduceMul, Nat.reduceLeDiff, Nat.reduceSub, reduceCtorEq, he]; (try simp (disch := omega) only [OM, mn_lo, mn_hi, mx_lo, mx_hi, if_yes, if_no, Option.map_some, he]); (try with_reducible exact rfl)))
    | ((with_reducible first | apply Ba | apply Bb | apply Bc | apply Bd | apply Be | apply Nd); · (simp only [go_sem, reduceIte, Nat.reduceEqDiff, he]; (try with_reducible exact rfl))) | ((with_reducible first | apply Ca | apply Cb | apply Cc | apply Cd | apply Ce | apply Ne); · (simp only [go_sem, reduceIte, Nat.reduceEqDiff, he]; (try with_reducible exact rfl)))
    | ((with_reducible first | apply Dg | apply Dh); (· decide +kernel); (· (simp only [inOrd, List.getElem?_cons_succ, List.getElem?_cons_zero]; exact rfl)))
    | ((with_reducible first | apply De | apply Df); (· decide +kernel); (· (simp only [inOrd, List.getElem?_cons_succ, List.getElem?_cons_zero]; exact rfl)))
    | (with_reducible first | apply Ea | apply Eb | apply Ec | apply Ed | apply Ee | apply Ef | apply Eg | apply Eh | apply Ei | apply Ej | apply Ek | apply El | apply Em | apply En | apply Eo) | ((with_reducible apply Ep); · rfl))
    refine told [0, 1] [.rw (a.flatMap ev5), .rw (b.flatMap ev5)] (.b false) (by simp [ev5_ren, ev5_wf] <;> fail) (by decide) (by simp [-List.map_map, embAt, nm, rn_rw, rn_ro, rn_map, rn_iter, rn_dead, renL, Val.ren, ev5_ren, ev5_wf]) (by simp [-List.map_map, wfAll, wn_rw, wn_ro, wn_map, wn_iter, wn_dead, wfL, Val.wf, ev5_ren, ev5_wf]) (by simp [ev5_ren, ev5_wf]) rfl (by simp [-List.map_map, Val.wf, wfL, ev5_ren, ev5_wf]) (by simp [-List.map_map, Val.ren, renL, nm, ev5_ren, ev5_wf]) ?_
    exact ⟨by simp [hab], rfl⟩
theorem same_nil (H : Heap) : SoundCall Try.prog 15 [.nils, .nils] H (fun v H' => v = .b true ∧ H' = H) := by
  refine sound_pure rfl (by rintro v rfl; rfl) ?_ H
  refine sound_func Try.func15 c15 rfl (by simp) ?_
  simp only [e15]
  repeat (first
    | ((first | (with_reducible first | apply Aa | apply Ab | apply Ac | apply Ad | apply Ae | apply Af | apply Na | apply Nb) | ((with_reducible first | apply Ag | apply Ah | apply Nc); · (simp only [go_sem, reduceIte, Nat.reduceEqDiff]; (try with_reducible exact rfl)))); · (simp only [go_sem, Int.reduceBEq, Int.reduceBNe, Int.reduceLT, Int.reduceLE, Int.reduceAdd, Int.reduceSub, Int.reduceToNat, reduceIte, Nat.reduceEqDiff, Nat.reduceAdd, Nat.reduceMul, Nat.reduceLeDiff, Nat.reduceSub, reduceCtorEq]; (try simp (disch := omega) only [OM, mn_lo, mn_hi, mx_lo, mx_hi, if_yes, if_no, Option.map_some]); (try with_reducible exact rfl)))
    | ((with_reducible first | apply Ba | apply Bb | apply Bc | apply Bd | apply Be | apply Nd); · (simp only [go_sem, reduceIte, Nat.reduceEqDiff]; (try with_reducible exact rfl))) | ((with_reducible first | apply Ca | apply Cb | apply Cc | apply Cd | apply Ce | apply Ne); · (simp only [go_sem, reduceIte, Nat.reduceEqDiff]; (try with_reducible exact rfl)))
    | ((with_reducible first | apply Dg | apply Dh); (· decide +kernel); (· (simp only [inOrd, List.getElem?_cons_succ, List.getElem?_cons_zero]; exact rfl)))
    | ((with_reducible first | apply De | apply Df); (· decide +kernel); (· (simp only [inOrd, List.getElem?_cons_succ, List.getElem?_cons_zero]; exact rfl)))
    | (with_reducible first | apply Ea | apply Eb | apply Ec | apply Ed | apply Ee | apply Ef | apply Eg | apply Eh | apply Ei | apply Ej | apply Ek | apply El | apply Em | apply En | apply Eo) | ((with_reducible apply Ep); · rfl))
  refine ei_loop (fun n ρ H => n = 0 ∧ AnewS 0 [] [(12, .i .i64 0), (13, .i .i64 0)] ρ H) (n := 0) ?_ ?_
  · refine ⟨rfl, ?_⟩
    refine anew [] (by simp [nc0] <;> fail) (by decide) (by simp [-List.map_map, embAt, nm, rn_rw, rn_ro, rn_map, rn_iter, rn_dead, renL, Val.ren, nc0]) (by simp [-List.map_map, wfAll, wn_rw, wn_ro, wn_map, wn_iter, wn_dead, wfL, Val.wf, nc0]) (by simp [nc0]) rfl (by simp [-List.map_map, Val.wf, wfL, nc0]) (by simp [-List.map_map, Env.get, Val.ren, renL, nm, initEnv, nc0])
  · rintro n ρ H ⟨rfl, ha⟩
    refine ei_anewS ha ?_
    clear ha
    repeat (first
    | ((first | (with_reducible first | apply Aa | apply Ab | apply Ac | apply Ad | apply Ae | apply Af | apply Na | apply Nb) | ((with_reducible first | apply Ag | apply Ah | apply Nc); · (simp only [go_sem, reduceIte, Nat.reduceEqDiff]; (try with_reducible exact rfl)))); · (simp only [go_sem, Int.reduceBEq, Int.reduceBNe, Int.reduceLT, Int.reduceLE, Int.reduceAdd, Int.reduceSub, Int.reduceToNat, reduceIte, Nat.reduceEqDiff, Nat.reduceAdd, Nat.reduceMul, Nat.reduceLeDiff, Nat.reduceSub, reduceCtorEq]; (try simp (disch := omega) only [OM, mn_lo, mn_hi, mx_lo, mx_hi, if_yes, if_no, Option.map_some]); (try with_reducible exact rfl)))
    | ((with_reducible first | apply Ba | apply Bb | apply Bc | apply Bd | apply Be | apply Nd); · (simp only [go_sem, reduceIte, Nat.reduceEqDiff]; (try with_reducible exact rfl))) | ((with_reducible first | apply Ca | apply Cb | apply Cc | apply Cd | apply Ce | apply Ne); · (simp only [go_sem, reduceIte, Nat.reduceEqDiff]; (try with_reducible exact rfl)))
    | ((with_reducible first | apply Dg | apply Dh); (· decide +kernel); (· (simp only [inOrd, List.getElem?_cons_succ, List.getElem?_cons_zero]; exact rfl)))
    | ((with_reducible first | apply De | apply Df); (· decide +kernel); (· (simp only [inOrd, List.getElem?_cons_succ, List.getElem?_cons_zero]; exact rfl)))
    | (with_reducible first | apply Ea | apply Eb | apply Ec | apply Ed | apply Ee | apply Ef | apply Eg | apply Eh | apply Ei | apply Ej | apply Ek | apply El | apply Em | apply En | apply Eo) | ((with_reducible apply Ep); · rfl))
    rfl
end Go.Proofs.Ytnmkbnifgmeloaa.IR
