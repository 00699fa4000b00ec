/- This text of a proof shows: what the document's Cut comes to. -/
import Derived.Test.YtnmkbnifgmeloaaU23
set_option linter.unusedVariables false
set_option linter.unusedSimpArgs false
set_option linter.constructorNameAsVariable false
namespace Go.Proofs.Ytnmkbnifgmeloaa.IR
open Go Go.Proofs.Ytnmkbnifgmeloaa.Ev
set_option linter.unusedSimpArgs false
set_option linter.unusedVariables false
set_option maxHeartbeats 4000000
attribute [local go_sem] skipV nc0 nc1 nc2 nc3 bne_self_eq_false decide_true decide_false IOp.step Opd.ev Env.get initEnv Val.cells? Val.one List.all_cons List.all_nil Bool.and_true Bool.and_self Bool.true_and bin ints eqv Val.kindNo lenNo_s lenNo_nils lenNo_sl lenNo_nilm lenNo_m lenOf_s lenOf_nils lenOf_sl lenOf_nilm unary partsOf padTo List.foldl_cons List.foldl_nil wr_nil wr_step wr_zero List.set_cons_zero List.set_cons_succ List.map_cons List.map_nil z1 z2 Nat.succ_ne_zero List.length_cons List.length_nil List.cons_append List.nil_append List.append_nil List.getElem?_cons_zero List.getElem?_cons_succ List.getElem?_nil Option.map_some Option.map_none Nat.zero_add Nat.add_zero List.drop_zero List.drop_succ_cons List.take_succ_cons List.take_zero List.take_nil and_self and_true true_and Nat.le_refl Bool.not_true Bool.not_false Option.getD_some window Val.slen bnd resV resL RV.val Bool.false_eq_true BEq.rfl Bool.true_beq Bool.false_beq beq_true beq_false mk_one ite_true ite_false eqc ceqs ceq NOp.step isK eq_self
theorem lens_min {n z : Int} (h1 : 1 ≤ n) (h : n ≤ 65536) (hz : 1 ≤ z) : lens n (if z ≤ 65536 then z else 65536) = lens n z := by
  split
  · rfl
  · rw [lens_pos (by omega) (by omega), lens_pos (n := n) (s := z) (by omega) (by omega), if_pos (by omega), if_pos (by omega), lens_neg (by omega), lens_neg (by omega)]
/-- The pieces of a packet. -/
def pcs (p : Pk) (z : Int) : List Pk := (lens p.2.2.1 z).map p.at
def okC (p : Pk) (z : Int) : Prop := 1 ≤ p.2.2.1 ∧ p.2.2.1 ≤ 65536 ∧ 1 ≤ z
instance (p : Pk) (z : Int) : Decidable (okC p z) := inferInstanceAs (Decidable (_ ∧ _))
theorem cut_y (p : Pk) (z : Int) (h : okC p z) :
    SoundM Try.prog 0 13 [.agg (ev5 p), .i .i64 z] [] (fun v H' => v = .tup [.sl 0 0 (pcs p z).length 5, .i .i64 0] ∧ H' = [.rw ((pcs p z).flatMap ev5)]) := by
  have := cut_c p z ⟨h.1, h.2.1⟩ h.2.2
  rw [lens_min h.1 h.2.1 h.2.2] at this
  simpa [pcs] using this
theorem cut_n (p : Pk) (z : Int) (h : ¬ okC p z) (H : Heap) :
    SoundCall Try.prog 13 [.agg (ev5 p), .i .i64 z] H (fun v H' => v = .tup [.nils, .i .i64 2] ∧ H' = H) := by
  refine sound_pure rfl (by rintro v rfl; rfl) ?_ H
  refine sound_func Try.func13 c13 rfl (by simp) ?_
  simp only [e13, ev5]
  repeat (first
    | ((first | (with_reducible first | apply Aa | apply Ab | apply Ac | apply Ad | apply Ae | apply Af | apply Na | apply Nb) | ((with_reducible first | apply Ag | apply Ah | apply Nc); · (simp only [go_sem, reduceIte, Nat.reduceEqDiff]; (try with_reducible exact rfl)))); · (simp only [go_sem, Int.reduceBEq, Int.reduceBNe, Int.reduceLT, Int.reduceLE, Int.reduceAdd, Int.reduceSub, Int.reduceToNat, reduceIte, Nat.reduceEqDiff, Nat.reduceAdd, Nat.reduceMul, Nat.reduceLeDiff, Nat.reduceSub, reduceCtorEq]; (try simp (disch := omega) only [OM, mn_lo, mn_hi, mx_lo, mx_hi, if_yes, if_no, Option.map_some]); (try with_reducible exact rfl)))
    | ((with_reducible first | apply Ba | apply Bb | apply Bc | apply Bd | apply Be | apply Nd); · (simp only [go_sem, reduceIte, Nat.reduceEqDiff]; (try with_reducible exact rfl))) | ((with_reducible first | apply Ca | apply Cb | apply Cc | apply Cd | apply Ce | apply Ne); · (simp only [go_sem, reduceIte, Nat.reduceEqDiff]; (try with_reducible exact rfl)))
    | (with_reducible first | apply Ea | apply Eb | apply Ec | apply Ed | apply Ee | apply Ef | apply Eg | apply Eh | apply Ei | apply Ej | apply Ek | apply El | apply Em | apply En | apply Eo) | ((with_reducible apply Ep); · rfl))
  (first | ((with_reducible apply RunP.call); (· (simp only [go_sem, reduceIte, Nat.reduceEqDiff]; (try with_reducible exact rfl))); (· (simp only [go_sem, reduceIte, Nat.reduceEqDiff]; (try with_reducible exact rfl)))) | ((with_reducible apply Run.call); (· (simp only [go_sem, reduceIte, Nat.reduceEqDiff]; (try with_reducible exact rfl))); (· (simp only [go_sem, reduceIte, Nat.reduceEqDiff]; (try with_reducible exact rfl)))) | ((with_reducible apply Run.callY); (· (simp only [go_sem, reduceIte, Nat.reduceEqDiff]; (try with_reducible exact rfl))); (· (simp only [go_sem, reduceIte, Nat.reduceEqDiff]; (try with_reducible exact rfl))); (· (simp only [go_sem, reduceIte, Nat.reduceEqDiff]; (try with_reducible exact rfl)))) | ((with_reducible apply RunP.callY); (· (simp only [go_sem, reduceIte, Nat.reduceEqDiff]; (try with_reducible exact rfl))); (· (simp only [go_sem, reduceIte, Nat.reduceEqDiff]; (try with_reducible exact rfl))); (· (simp only [go_sem, reduceIte, Nat.reduceEqDiff]; (try with_reducible exact rfl)))) | ((with_reducible apply Run.call0); (· (simp only [go_sem, reduceIte, Nat.reduceEqDiff]; (try with_reducible exact rfl))); (· (simp only [go_sem, reduceIte, Nat.reduceEqDiff]; (try with_reducible exact rfl)))))
  refine (may_c p z _).mono ?_
  rintro v H' ⟨rfl, rfl⟩
  have hd : decide (1 ≤ p.2.2.1 ∧ p.2.2.1 ≤ 65536 ∧ 1 ≤ z) = false := by simpa [okC] using h
  repeat (first
    | ((first | (with_reducible first | apply Aa | apply Ab | apply Ac | apply Ad | apply Ae | apply Af | apply Na | apply Nb) | ((with_reducible first | apply Ag | apply Ah | apply Nc); · (simp only [go_sem, reduceIte, Nat.reduceEqDiff, hd]; (try with_reducible exact rfl)))); · (simp only [go_sem, Int.reduceBEq, Int.reduceBNe, Int.reduceLT, Int.reduceLE, Int.reduceAdd, Int.reduceSub, Int.reduceToNat, reduceIte, Nat.reduceEqDiff, Nat.reduceAdd, Nat.reduceMul, Nat.reduceLeDiff, Nat.reduceSub, reduceCtorEq, hd]; (try simp (disch := omega) only [OM, mn_lo, mn_hi, mx_lo, mx_hi, if_yes, if_no, Option.map_some, hd]); (try with_reducible exact rfl)))
    | ((with_reducible first | apply Ba | apply Bb | apply Bc | apply Bd | apply Be | apply Nd); · (simp only [go_sem, reduceIte, Nat.reduceEqDiff, hd]; (try with_reducible exact rfl))) | ((with_reducible first | apply Ca | apply Cb | apply Cc | apply Cd | apply Ce | apply Ne); · (simp only [go_sem, reduceIte, Nat.reduceEqDiff, hd]; (try with_reducible exact rfl)))
    | (with_reducible first | apply Ea | apply Eb | apply Ec | apply Ed | apply Ee | apply Ef | apply Eg | apply Eh | apply Ei | apply Ej | apply Ek | apply El | apply Em | apply En | apply Eo) | ((with_reducible apply Ep); · rfl))
  rfl
theorem rcut_n (p : Pk) (z : Int) (h : ¬ okC p z) (H : Heap) :
    SoundCall Try.prog 14 [.agg (ev5 p), .i .i64 z] H (fun v H' => v = .tup [.nils, .b false] ∧ H' = H) := by
  refine sound_pure rfl (by rintro v rfl; rfl) ?_ H
  refine sound_func Try.func14 c14 rfl (by simp) ?_
  simp only [e14, ev5]
  simp only [okC] at h
  by_cases h1 : p.2.2.1 < 1
  · repeat (first
    | ((first | (with_reducible first | apply Aa | apply Ab | apply Ac | apply Ad | apply Ae | apply Af | apply Na | apply Nb) | ((with_reducible first | apply Ag | apply Ah | apply Nc); · (simp only [go_sem, reduceIte, Nat.reduceEqDiff, h1]; (try with_reducible exact rfl)))); · (simp only [go_sem, Int.reduceBEq, Int.reduceBNe, Int.reduceLT, Int.reduceLE, Int.reduceAdd, Int.reduceSub, Int.reduceToNat, reduceIte, Nat.reduceEqDiff, Nat.reduceAdd, Nat.reduceMul, Nat.reduceLeDiff, Nat.reduceSub, reduceCtorEq, h1]; (try simp (disch := omega) only [OM, mn_lo, mn_hi, mx_lo, mx_hi, if_yes, if_no, Option.map_some, h1]); (try with_reducible exact rfl)))
    | ((with_reducible first | apply Ba | apply Bb | apply Bc | apply Bd | apply Be | apply Nd); · (simp only [go_sem, reduceIte, Nat.reduceEqDiff, h1]; (try with_reducible exact rfl))) | ((with_reducible first | apply Ca | apply Cb | apply Cc | apply Cd | apply Ce | apply Ne); · (simp only [go_sem, reduceIte, Nat.reduceEqDiff, h1]; (try with_reducible exact rfl)))
    | (with_reducible first | apply Ea | apply Eb | apply Ec | apply Ed | apply Ee | apply Ef | apply Eg | apply Eh | apply Ei | apply Ej | apply Ek | apply El | apply Em | apply En | apply Eo) | ((with_reducible apply Ep); · rfl))
    rfl
  by_cases h2 : p.2.2.1 > 65536
  · repeat (first
    | ((first | (with_reducible first | apply Aa | apply Ab | apply Ac | apply Ad | apply Ae | apply Af | apply Na | apply Nb) | ((with_reducible first | apply Ag | apply Ah | apply Nc); · (simp only [go_sem, reduceIte, Nat.reduceEqDiff, h1, h2]; (try with_reducible exact rfl)))); · (simp only [go_sem, Int.reduceBEq, Int.reduceBNe, Int.reduceLT, Int.reduceLE, Int.reduceAdd, Int.reduceSub, Int.reduceToNat, reduceIte, Nat.reduceEqDiff, Nat.reduceAdd, Nat.reduceMul, Nat.reduceLeDiff, Nat.reduceSub, reduceCtorEq, h1, h2]; (try simp (disch := omega) only [OM, mn_lo, mn_hi, mx_lo, mx_hi, if_yes, if_no, Option.map_some, h1, h2]); (try with_reducible exact rfl)))
    | ((with_reducible first | apply Ba | apply Bb | apply Bc | apply Bd | apply Be | apply Nd); · (simp only [go_sem, reduceIte, Nat.reduceEqDiff, h1, h2]; (try with_reducible exact rfl))) | ((with_reducible first | apply Ca | apply Cb | apply Cc | apply Cd | apply Ce | apply Ne); · (simp only [go_sem, reduceIte, Nat.reduceEqDiff, h1, h2]; (try with_reducible exact rfl)))
    | (with_reducible first | apply Ea | apply Eb | apply Ec | apply Ed | apply Ee | apply Ef | apply Eg | apply Eh | apply Ei | apply Ej | apply Ek | apply El | apply Em | apply En | apply Eo) | ((with_reducible apply Ep); · rfl))
    rfl
  by_cases h3 : z < 1
  · repeat (first
    | ((first | (with_reducible first | apply Aa | apply Ab | apply Ac | apply Ad | apply Ae | apply Af | apply Na | apply Nb) | ((with_reducible first | apply Ag | apply Ah | apply Nc); · (simp only [go_sem, reduceIte, Nat.reduceEqDiff, h1, h2, h3]; (try with_reducible exact rfl)))); · (simp only [go_sem, Int.reduceBEq, Int.reduceBNe, Int.reduceLT, Int.reduceLE, Int.reduceAdd, Int.reduceSub, Int.reduceToNat, reduceIte, Nat.reduceEqDiff, Nat.reduceAdd, Nat.reduceMul, Nat.reduceLeDiff, Nat.reduceSub, reduceCtorEq, h1, h2, h3]; (try simp (disch := omega) only [OM, mn_lo, mn_hi, mx_lo, mx_hi, if_yes, if_no, Option.map_some, h1, h2, h3]); (try with_reducible exact rfl)))
    | ((with_reducible first | apply Ba | apply Bb | apply Bc | apply Bd | apply Be | apply Nd); · (simp only [go_sem, reduceIte, Nat.reduceEqDiff, h1, h2, h3]; (try with_reducible exact rfl))) | ((with_reducible first | apply Ca | apply Cb | apply Cc | apply Cd | apply Ce | apply Ne); · (simp only [go_sem, reduceIte, Nat.reduceEqDiff, h1, h2, h3]; (try with_reducible exact rfl)))
    | (with_reducible first | apply Ea | apply Eb | apply Ec | apply Ed | apply Ee | apply Ef | apply Eg | apply Eh | apply Ei | apply Ej | apply Ek | apply El | apply Em | apply En | apply Eo) | ((with_reducible apply Ep); · rfl))
    rfl
  omega
def RInv (p : Pk) (z : Int) (n : Nat) (ρ : Env) (H : Heap) : Prop :=
  ∃ (d : List Pk) (r c : Int), n = r.toNat ∧ 1 ≤ r ∧ r ≤ 65536 ∧ pcs p z = d ++ (lens r z).map p.at ∧
    AnewS 0 (.rw (ev5 (p.at c)) :: oH d) [(1, .i .i64 z), (2, .p 0 0), (6, oV 1 d), (7, .i .i64 r)] ρ H
theorem pcs_len (p : Pk) {z : Int} (hz : 1 ≤ z) (h : p.2.2.1 ≤ 65536) : (pcs p z).length ≤ 65536 := by
  have := lens_len (n := p.2.2.1) hz
  simp [pcs]; omega
theorem ev5_app2 (p : Pk) (k : Int) (l : List Pk) : l.flatMap ev5 ++ [.i .u64 p.1, .i .u64 p.2.1, .i .i64 k, .i .u8 p.2.2.2.1, .i .u64 p.2.2.2.2] = (l ++ [p.at k]).flatMap ev5 := by simp [ev5, Pk.at]
theorem rcut_y (p : Pk) (z : Int) (h : okC p z) :
    SoundM Try.prog 0 14 [.agg (ev5 p), .i .i64 z] [] (fun v H' => v = .tup [.sl 0 0 (pcs p z).length 5, .b true] ∧ H' = [.rw ((pcs p z).flatMap ev5)]) := by
  refine sound_told (sound_func Try.func14 c14 rfl (by simp) ?_)
  obtain ⟨h1, h2, h3⟩ := h
  simp only [e14, ev5]
  have g1 : ¬ p.2.2.1 < 1 := by omega
  have g2 : ¬ p.2.2.1 > 65536 := by omega
  have g3 : ¬ z < 1 := by omega
  repeat (first
    | ((first | (with_reducible first | apply Aa | apply Ab | apply Ac | apply Ad | apply Ae | apply Af | apply Na | apply Nb) | ((with_reducible first | apply Ag | apply Ah | apply Nc); · (simp only [go_sem, reduceIte, Nat.reduceEqDiff, g1, g2, g3]; (try with_reducible exact rfl)))); · (simp only [go_sem, Int.reduceBEq, Int.reduceBNe, Int.reduceLT, Int.reduceLE, Int.reduceAdd, Int.reduceSub, Int.reduceToNat, reduceIte, Nat.reduceEqDiff, Nat.reduceAdd, Nat.reduceMul, Nat.reduceLeDiff, Nat.reduceSub, reduceCtorEq, g1, g2, g3]; (try simp (disch := omega) only [OM, mn_lo, mn_hi, mx_lo, mx_hi, if_yes, if_no, Option.map_some, g1, g2, g3]); (try with_reducible exact rfl)))
    | ((with_reducible first | apply Ba | apply Bb | apply Bc | apply Bd | apply Be | apply Nd); · (simp only [go_sem, reduceIte, Nat.reduceEqDiff, g1, g2, g3]; (try with_reducible exact rfl))) | ((with_reducible first | apply Ca | apply Cb | apply Cc | apply Cd | apply Ce | apply Ne); · (simp only [go_sem, reduceIte, Nat.reduceEqDiff, g1, g2, g3]; (try with_reducible exact rfl)))
    | (with_reducible first | apply Ea | apply Eb | apply Ec | apply Ed | apply Ee | apply Ef | apply Eg | apply Eh | apply Ei | apply Ej | apply Ek | apply El | apply Em | apply En | apply Eo) | ((with_reducible apply Ep); · rfl))
  refine ei_loop (RInv p z) (n := p.2.2.1.toNat) ?_ ?_
  · refine ⟨[], p.2.2.1, p.2.2.1, rfl, h1, h2, rfl, ?_⟩
    refine anew [0] (by simp [oV, oH, ev5, Pk.at] <;> fail) (by decide) (by simp [-List.map_map, embAt, nm, rn_rw, rn_ro, rn_map, rn_iter, rn_dead, renL, Val.ren, oV, oH, ev5, Pk.at]) (by simp [-List.map_map, wfAll, wn_rw, wn_ro, wn_map, wn_iter, wn_dead, wfL, Val.wf, oV, oH, ev5, Pk.at]) (by simp [oV, oH, ev5, Pk.at]) rfl (by simp [-List.map_map, Val.wf, wfL, oV, oH, ev5, Pk.at]) (by simp [-List.map_map, Env.get, Val.ren, renL, nm, initEnv, oV, oH, ev5, Pk.at])
  · rintro n ρ H ⟨d, r, c, rfl, hr1, hr2, hd, ha⟩
    refine ei_anewS ha ?_
    clear ha
    have hlen : d.length + 1 ≤ 65536 := by
      have h5 := congrArg List.length hd
      have h6 := pcs_len p h3 h2
      rw [lens_pos h3 (by omega)] at h5
      simp at h5
      omega
    rw [lens_pos h3 (by omega)] at hd
    by_cases hd0 : d = []
    · subst hd0
      simp only [oV, oH, if_true, ev5, Pk.at]
      by_cases hr : r > z
      · rw [if_neg (by omega)] at hd
        repeat (first
    | ((first | (with_reducible first | apply Aa | apply Ab | apply Ac | apply Ad | apply Ae | apply Af | apply Na | apply Nb) | ((with_reducible first | apply Ag | apply Ah | apply Nc); · (simp only [go_sem, reduceIte, Nat.reduceEqDiff, hr]; (try with_reducible exact rfl)))); · (simp only [go_sem, Int.reduceBEq, Int.reduceBNe, Int.reduceLT, Int.reduceLE, Int.reduceAdd, Int.reduceSub, Int.reduceToNat, reduceIte, Nat.reduceEqDiff, Nat.reduceAdd, Nat.reduceMul, Nat.reduceLeDiff, Nat.reduceSub, reduceCtorEq, hr]; (try simp (disch := omega) only [OM, mn_lo, mn_hi, mx_lo, mx_hi, if_yes, if_no, Option.map_some, hr]); (try with_reducible exact rfl)))
    | ((with_reducible first | apply Ba | apply Bb | apply Bc | apply Bd | apply Be | apply Nd); · (simp only [go_sem, reduceIte, Nat.reduceEqDiff, hr]; (try with_reducible exact rfl))) | ((with_reducible first | apply Ca | apply Cb | apply Cc | apply Cd | apply Ce | apply Ne); · (simp only [go_sem, reduceIte, Nat.reduceEqDiff, hr]; (try with_reducible exact rfl)))
    | (with_reducible first | apply Ea | apply Eb | apply Ec | apply Ed | apply Ee | apply Ef | apply Eg | apply Eh | apply Ei | apply Ej | apply Ek | apply El | apply Em | apply En | apply Eo) | ((with_reducible apply Ep); · rfl))
        refine ⟨(r - z).toNat, by omega, [p.at z], r - z, z, rfl, by omega, by omega, by rw [hd]; simp, ?_⟩
        refine anew [0, 2] (by simp [oV, oH, ev5, Pk.at] <;> fail) (by decide) (by simp [-List.map_map, embAt, nm, rn_rw, rn_ro, rn_map, rn_iter, rn_dead, renL, Val.ren, oV, oH, ev5, Pk.at]) (by simp [-List.map_map, wfAll, wn_rw, wn_ro, wn_map, wn_iter, wn_dead, wfL, Val.wf, oV, oH, ev5, Pk.at]) (by simp [oV, oH, ev5, Pk.at]) rfl (by simp [-List.map_map, Val.wf, wfL, oV, oH, ev5, Pk.at]) (by simp [-List.map_map, Env.get, Val.ren, renL, nm, initEnv, oV, oH, ev5, Pk.at])
      · rw [if_pos (by omega), lens_neg (n := r - z) (by omega)] at hd
        repeat (first
    | ((first | (with_reducible first | apply Aa | apply Ab | apply Ac | apply Ad | apply Ae | apply Af | apply Na | apply Nb) | ((with_reducible first | apply Ag | apply Ah | apply Nc); · (simp only [go_sem, reduceIte, Nat.reduceEqDiff, hr]; (try with_reducible exact rfl)))); · (simp only [go_sem, Int.reduceBEq, Int.reduceBNe, Int.reduceLT, Int.reduceLE, Int.reduceAdd, Int.reduceSub, Int.reduceToNat, reduceIte, Nat.reduceEqDiff, Nat.reduceAdd, Nat.reduceMul, Nat.reduceLeDiff, Nat.reduceSub, reduceCtorEq, hr]; (try simp (disch := omega) only [OM, mn_lo, mn_hi, mx_lo, mx_hi, if_yes, if_no, Option.map_some, hr]); (try with_reducible exact rfl)))
    | ((with_reducible first | apply Ba | apply Bb | apply Bc | apply Bd | apply Be | apply Nd); · (simp only [go_sem, reduceIte, Nat.reduceEqDiff, hr]; (try with_reducible exact rfl))) | ((with_reducible first | apply Ca | apply Cb | apply Cc | apply Cd | apply Ce | apply Ne); · (simp only [go_sem, reduceIte, Nat.reduceEqDiff, hr]; (try with_reducible exact rfl)))
    | (with_reducible first | apply Ea | apply Eb | apply Ec | apply Ed | apply Ee | apply Ef | apply Eg | apply Eh | apply Ei | apply Ej | apply Ek | apply El | apply Em | apply En | apply Eo) | ((with_reducible apply Ep); · rfl))
        rw [hd]
        refine told [2] [.rw ([p.at r].flatMap ev5)] (.tup [.sl 0 0 1 5, .b true]) (by simp [ev5, Pk.at] <;> fail) (by decide) (by simp [-List.map_map, embAt, nm, rn_rw, rn_ro, rn_map, rn_iter, rn_dead, renL, Val.ren, ev5, Pk.at]) (by simp [-List.map_map, wfAll, wn_rw, wn_ro, wn_map, wn_iter, wn_dead, wfL, Val.wf, ev5, Pk.at]) (by simp [ev5, Pk.at]) rfl (by simp [-List.map_map, Val.wf, wfL, ev5, Pk.at]) (by simp [-List.map_map, Val.ren, renL, nm, ev5, Pk.at]) ?_
        exact ⟨rfl, rfl⟩
    · simp only [oV, oH, if_neg hd0, ev5, Pk.at]
      by_cases hr : r > z
      · rw [if_neg (by omega)] at hd
        repeat (first
    | ((first | (with_reducible first | apply Aa | apply Ab | apply Ac | apply Ad | apply Ae | apply Af | apply Na | apply Nb) | ((with_reducible first | apply Ag | apply Ah | apply Nc); · (simp only [go_sem, reduceIte, Nat.reduceEqDiff, hr, ev5_take, ev5_flat, ev5_app2]; (try with_reducible exact rfl)))); · (simp only [go_sem, Int.reduceBEq, Int.reduceBNe, Int.reduceLT, Int.reduceLE, Int.reduceAdd, Int.reduceSub, Int.reduceToNat, reduceIte, Nat.reduceEqDiff, Nat.reduceAdd, Nat.reduceMul, Nat.reduceLeDiff, Nat.reduceSub, reduceCtorEq, hr, ev5_take, ev5_flat, ev5_app2]; (try simp (disch := omega) only [OM, mn_lo, mn_hi, mx_lo, mx_hi, if_yes, if_no, Option.map_some, hr, ev5_take, ev5_flat, ev5_app2]); (try with_reducible exact rfl)))
    | ((with_reducible first | apply Ba | apply Bb | apply Bc | apply Bd | apply Be | apply Nd); · (simp only [go_sem, reduceIte, Nat.reduceEqDiff, hr, ev5_take, ev5_flat, ev5_app2]; (try with_reducible exact rfl))) | ((with_reducible first | apply Ca | apply Cb | apply Cc | apply Cd | apply Ce | apply Ne); · (simp only [go_sem, reduceIte, Nat.reduceEqDiff, hr, ev5_take, ev5_flat, ev5_app2]; (try with_reducible exact rfl)))
    | (with_reducible first | apply Ea | apply Eb | apply Ec | apply Ed | apply Ee | apply Ef | apply Eg | apply Eh | apply Ei | apply Ej | apply Ek | apply El | apply Em | apply En | apply Eo) | ((with_reducible apply Ep); · rfl))
        refine ⟨(r - z).toNat, by omega, d ++ [p.at z], r - z, z, rfl, by omega, by omega, by rw [hd]; simp, ?_⟩
        refine anew [0, 3] (by simp [oV, oH, ev5_ren, ev5_wf, ev5, Pk.at, List.flatMap_append, renL_append, wfL_append, renL, wfL, Val.ren, Val.wf] <;> fail) (by decide) (by simp [-List.map_map, embAt, nm, rn_rw, rn_ro, rn_map, rn_iter, rn_dead, renL, Val.ren, oV, oH, ev5_ren, ev5_wf, ev5, Pk.at, List.flatMap_append, renL_append, wfL_append, renL, wfL, Val.ren, Val.wf]) (by simp [-List.map_map, wfAll, wn_rw, wn_ro, wn_map, wn_iter, wn_dead, wfL, Val.wf, oV, oH, ev5_ren, ev5_wf, ev5, Pk.at, List.flatMap_append, renL_append, wfL_append, renL, wfL, Val.ren, Val.wf]) (by simp [oV, oH, ev5_ren, ev5_wf, ev5, Pk.at, List.flatMap_append, renL_append, wfL_append, renL, wfL, Val.ren, Val.wf]) rfl (by simp [-List.map_map, Val.wf, wfL, oV, oH, ev5_ren, ev5_wf, ev5, Pk.at, List.flatMap_append, renL_append, wfL_append, renL, wfL, Val.ren, Val.wf]) (by simp [-List.map_map, Env.get, Val.ren, renL, nm, initEnv, oV, oH, ev5_ren, ev5_wf, ev5, Pk.at, List.flatMap_append, renL_append, wfL_append, renL, wfL, Val.ren, Val.wf])
      · rw [if_pos (by omega), lens_neg (n := r - z) (by omega)] at hd
        repeat (first
    | ((first | (with_reducible first | apply Aa | apply Ab | apply Ac | apply Ad | apply Ae | apply Af | apply Na | apply Nb) | ((with_reducible first | apply Ag | apply Ah | apply Nc); · (simp only [go_sem, reduceIte, Nat.reduceEqDiff, hr, ev5_take, ev5_flat, ev5_app2]; (try with_reducible exact rfl)))); · (simp only [go_sem, Int.reduceBEq, Int.reduceBNe, Int.reduceLT, Int.reduceLE, Int.reduceAdd, Int.reduceSub, Int.reduceToNat, reduceIte, Nat.reduceEqDiff, Nat.reduceAdd, Nat.reduceMul, Nat.reduceLeDiff, Nat.reduceSub, reduceCtorEq, hr, ev5_take, ev5_flat, ev5_app2]; (try simp (disch := omega) only [OM, mn_lo, mn_hi, mx_lo, mx_hi, if_yes, if_no, Option.map_some, hr, ev5_take, ev5_flat, ev5_app2]); (try with_reducible exact rfl)))
    | ((with_reducible first | apply Ba | apply Bb | apply Bc | apply Bd | apply Be | apply Nd); · (simp only [go_sem, reduceIte, Nat.reduceEqDiff, hr, ev5_take, ev5_flat, ev5_app2]; (try with_reducible exact rfl))) | ((with_reducible first | apply Ca | apply Cb | apply Cc | apply Cd | apply Ce | apply Ne); · (simp only [go_sem, reduceIte, Nat.reduceEqDiff, hr, ev5_take, ev5_flat, ev5_app2]; (try with_reducible exact rfl)))
    | (with_reducible first | apply Ea | apply Eb | apply Ec | apply Ed | apply Ee | apply Ef | apply Eg | apply Eh | apply Ei | apply Ej | apply Ek | apply El | apply Em | apply En | apply Eo) | ((with_reducible apply Ep); · rfl))
        rw [hd]
        refine told [3] [.rw ((d ++ [p.at r]).flatMap ev5)] (.tup [.sl 0 0 (d.length + 1) 5, .b true]) (by simp [ev5_ren, e1_ren, e1_wf, ev5_wf, List.flatMap_append, renL_append, wfL_append, renL, wfL, Val.ren, Val.wf] <;> fail) (by decide) (by simp [-List.map_map, embAt, nm, rn_rw, rn_ro, rn_map, rn_iter, rn_dead, renL, Val.ren, ev5_ren, e1_ren, e1_wf, ev5_wf, List.flatMap_append, renL_append, wfL_append, renL, wfL, Val.ren, Val.wf]) (by simp [-List.map_map, wfAll, wn_rw, wn_ro, wn_map, wn_iter, wn_dead, wfL, Val.wf, ev5_ren, e1_ren, e1_wf, ev5_wf, List.flatMap_append, renL_append, wfL_append, renL, wfL, Val.ren, Val.wf]) (by simp [ev5_ren, e1_ren, e1_wf, ev5_wf, List.flatMap_append, renL_append, wfL_append, renL, wfL, Val.ren, Val.wf]) rfl (by simp [-List.map_map, Val.wf, wfL, ev5_ren, e1_ren, e1_wf, ev5_wf, List.flatMap_append, renL_append, wfL_append, renL, wfL, Val.ren, Val.wf]) (by simp [-List.map_map, Val.ren, renL, nm, ev5_ren, e1_ren, e1_wf, ev5_wf, List.flatMap_append, renL_append, wfL_append, renL, wfL, Val.ren, Val.wf]) ?_
        exact ⟨by simp, by simp⟩
end Go.Proofs.Ytnmkbnifgmeloaa.IR
