/- This text of a proof shows: what the document's functions of a bitmap come to. -/
import Derived.Test.YtphlceiachdneaaDoorY08
set_option linter.unusedVariables false
set_option linter.unusedSimpArgs false
set_option linter.constructorNameAsVariable false
namespace Go.Proofs.YtphlceiachdneaaDoor.IR
open Go Go.Proofs.YtphlceiachdneaaDoor.Ev
set_option linter.unusedSimpArgs false
set_option linter.unusedVariables false
set_option maxHeartbeats 4000000
attribute [local go_sem] skipV nc0 nc1 nc2 nc3 bne_self_eq_false decide_true decide_false IOp.step Opd.ev Env.get initEnv Val.cells? Val.one List.all_cons List.all_nil Bool.and_true Bool.and_self Bool.true_and bin_shr6 bin_rem bin_shrw bin_shl1 bin_shl6 bin_and1 bin_or bin_andNot bitN_eq bin_quo bin_mul bin_add bin_sub bin_lss bin_leq bin_gtr bin_geq bin_eql bin_neq eqv Val.kindNo lenNo_s lenNo_nils lenNo_sl lenNo_nilm lenNo_m lenOf_s lenOf_nils lenOf_sl lenOf_nilm unary mxs mx2 partsOf padTo List.foldl_cons List.foldl_nil wr_nil wr_step wr_zero List.set_cons_zero List.set_cons_succ List.map_cons List.map_nil z1 z2 Nat.succ_ne_zero List.length_cons List.length_nil List.cons_append List.nil_append List.append_nil List.getElem?_cons_zero List.getElem?_cons_succ List.getElem?_nil Option.map_some Option.map_none Nat.zero_add Nat.add_zero List.drop_zero List.drop_succ_cons List.take_succ_cons List.take_zero List.take_nil and_self and_true true_and Nat.le_refl Bool.not_true Bool.not_false Option.getD_some window Val.slen bnd resV resL RV.val Bool.false_eq_true BEq.rfl Bool.true_beq Bool.false_beq beq_true beq_false mk_one ite_true ite_false eqc ceqs ceq
def MB (p : Nat → Bool) (n : Nat) : List Val := (List.range n).map fun i => .b (p i)
theorem MB_get (p : Nat → Bool) (n j : Nat) (h : j < n) : (MB p n)[j]? = some (.b (p j)) := by
  unfold MB; rw [List.getElem?_map, List.getElem?_range h]; rfl
theorem MB_len (p : Nat → Bool) (n : Nat) : (MB p n).length = n := by unfold MB; rw [List.length_map, List.length_range]
theorem MB_ren (ι : Nat → Nat) (p : Nat → Bool) (n : Nat) : renL ι (MB p n) = MB p n := by unfold MB; rw [renL_map]; simp [Val.ren]
theorem MB_wf (m : Nat) (p : Nat → Bool) (n : Nat) : wfL m (MB p n) = true := by
  unfold MB
  generalize List.range n = l
  induction l with
  | nil => rfl
  | cons x l ih => simp [wfL, Val.wf, ih]
theorem MB_wr (p : Nat → Bool) (i : Nat) (v : Bool) (n : Nat) : wr (MB p n) i [.b v] = MB (upd p i v) n := by
  show (MB p n).set i _ = _
  apply List.ext_getElem?
  intro j
  rw [List.getElem?_set]
  by_cases h : i = j
  · subst h
    rw [if_pos rfl]
    by_cases hL : i < (MB p n).length
    · rw [if_pos hL, MB_get _ _ _ (by rwa [MB_len] at hL)]; simp [upd]
    · rw [if_neg hL, List.getElem?_eq_none (by rw [MB_len] at *; omega)]
  · rw [if_neg h]
    by_cases hL : j < n
    · rw [MB_get _ _ _ hL, MB_get _ _ _ hL]; simp [upd, Ne.symm h]
    · rw [List.getElem?_eq_none (by rw [MB_len]; omega), List.getElem?_eq_none (by rw [MB_len]; omega)]
theorem MB_take (p : Nat → Bool) (n : Nat) : (MB p n).take n = MB p n := List.take_of_length_le (by rw [MB_len]; exact Nat.le_refl _)
theorem mk_MB (n : Nat) : Ev.mk [.b false] n = MB (fun _ => false) n := by
  unfold MB
  generalize hl : List.range n = l
  have : l.length = n := by rw [← hl, List.length_range]
  rw [List.map_const', this]
  clear hl this l
  induction n with
  | zero => rfl
  | succ n ih => exact congrArg (fun x => Val.b false :: x) ih
attribute [local simp] MB_ren MB_wf map_i64 map_i64_wf
theorem rnew_bad (n : Int) (hn : n < 1 ∨ n > 65536) (H : Heap) : SoundCall Tryd.prog 16 [.i .i64 n] H (fun v H' => v = .tup [.agg [.nils], .b false] ∧ H' = H) := by
  refine sound_pure rfl (by rintro v rfl; rfl) ?_ H
  refine sound_func Tryd.func16 c16 rfl (by simp) ?_
  simp only [e16]
  by_cases h1 : n < 1
  · repeat (first
    | ((first | (with_reducible first | apply Aa | apply Ab | apply Ac | apply Ad | apply Ae | apply Af | apply Na | apply Nb) | ((with_reducible first | apply Ag | apply Ah | apply Nc); · (simp only [go_sem, reduceIte, Nat.reduceEqDiff, decide_t h1]; (try with_reducible exact rfl)))); · (simp only [go_sem, Int.reduceBEq, Int.reduceBNe, Int.reduceLT, Int.reduceLE, Int.reduceAdd, Int.reduceSub, Int.reduceToNat, reduceIte, Nat.reduceEqDiff, Nat.reduceAdd, Nat.reduceMul, Nat.reduceLeDiff, Nat.reduceSub, reduceCtorEq, decide_t h1]; (try simp (disch := omega) only [OM, mn_lo, mn_hi, mx_lo, mx_hi, if_yes, if_no, Option.map_some, decide_t h1]); (try with_reducible exact rfl)))
    | ((with_reducible first | apply Ba | apply Bb | apply Bc | apply Bd | apply Be | apply Nd); · (simp only [go_sem, reduceIte, Nat.reduceEqDiff, decide_t h1]; (try with_reducible exact rfl))) | ((with_reducible first | apply Ca | apply Cb | apply Cc | apply Cd | apply Ce | apply Ne); · (simp only [go_sem, reduceIte, Nat.reduceEqDiff, decide_t h1]; (try with_reducible exact rfl)))
    | ((with_reducible first | apply Dg | apply Dh); (· decide +kernel); (· (simp only [inOrd, List.getElem?_cons_succ, List.getElem?_cons_zero]; exact rfl)))
    | ((with_reducible first | apply De | apply Df); (· decide +kernel); (· (simp only [inOrd, List.getElem?_cons_succ, List.getElem?_cons_zero]; exact rfl)))
    | (with_reducible first | apply Ea | apply Eb | apply Ec | apply Ed | apply Ee | apply Ef | apply Eg | apply Eh | apply Ei | apply Ej | apply Ek | apply El | apply Em | apply En | apply Eo) | ((with_reducible apply Ep); · rfl))
    rfl
  · have h2 : n > 65536 := by omega
    repeat (first
    | ((first | (with_reducible first | apply Aa | apply Ab | apply Ac | apply Ad | apply Ae | apply Af | apply Na | apply Nb) | ((with_reducible first | apply Ag | apply Ah | apply Nc); · (simp only [go_sem, reduceIte, Nat.reduceEqDiff, decide_f h1, decide_t h2]; (try with_reducible exact rfl)))); · (simp only [go_sem, Int.reduceBEq, Int.reduceBNe, Int.reduceLT, Int.reduceLE, Int.reduceAdd, Int.reduceSub, Int.reduceToNat, reduceIte, Nat.reduceEqDiff, Nat.reduceAdd, Nat.reduceMul, Nat.reduceLeDiff, Nat.reduceSub, reduceCtorEq, decide_f h1, decide_t h2]; (try simp (disch := omega) only [OM, mn_lo, mn_hi, mx_lo, mx_hi, if_yes, if_no, Option.map_some, decide_f h1, decide_t h2]); (try with_reducible exact rfl)))
    | ((with_reducible first | apply Ba | apply Bb | apply Bc | apply Bd | apply Be | apply Nd); · (simp only [go_sem, reduceIte, Nat.reduceEqDiff, decide_f h1, decide_t h2]; (try with_reducible exact rfl))) | ((with_reducible first | apply Ca | apply Cb | apply Cc | apply Cd | apply Ce | apply Ne); · (simp only [go_sem, reduceIte, Nat.reduceEqDiff, decide_f h1, decide_t h2]; (try with_reducible exact rfl)))
    | ((with_reducible first | apply Dg | apply Dh); (· decide +kernel); (· (simp only [inOrd, List.getElem?_cons_succ, List.getElem?_cons_zero]; exact rfl)))
    | ((with_reducible first | apply De | apply Df); (· decide +kernel); (· (simp only [inOrd, List.getElem?_cons_succ, List.getElem?_cons_zero]; exact rfl)))
    | (with_reducible first | apply Ea | apply Eb | apply Ec | apply Ed | apply Ee | apply Ef | apply Eg | apply Eh | apply Ei | apply Ej | apply Ek | apply El | apply Em | apply En | apply Eo) | ((with_reducible apply Ep); · rfl))
    rfl
theorem rnew_c (n : Nat) (h1 : 1 ≤ n) (h2 : n ≤ 65536) : SoundM Tryd.prog 0 16 [.i .i64 n] [] (fun v H' => v = .tup [.agg [.sl 0 0 n 1], .b true] ∧ H' = [.rw (MB (fun _ => false) n)]) := by
  have g1 : ¬ (n : Int) < 1 := by omega
  have g2 : ¬ (n : Int) > 65536 := by omega
  refine sound_told (sound_func Tryd.func16 c16 rfl (by simp) ?_)
  simp only [e16]
  repeat (first
    | ((first | (with_reducible first | apply Aa | apply Ab | apply Ac | apply Ad | apply Ae | apply Af | apply Na | apply Nb) | ((with_reducible first | apply Ag | apply Ah | apply Nc); · (simp only [go_sem, reduceIte, Nat.reduceEqDiff, decide_f g1, decide_f g2, Int.toNat_natCast, mk_MB]; (try with_reducible exact rfl)))); · (simp only [go_sem, Int.reduceBEq, Int.reduceBNe, Int.reduceLT, Int.reduceLE, Int.reduceAdd, Int.reduceSub, Int.reduceToNat, reduceIte, Nat.reduceEqDiff, Nat.reduceAdd, Nat.reduceMul, Nat.reduceLeDiff, Nat.reduceSub, reduceCtorEq, decide_f g1, decide_f g2, Int.toNat_natCast, mk_MB]; (try simp (disch := omega) only [OM, mn_lo, mn_hi, mx_lo, mx_hi, if_yes, if_no, Option.map_some, decide_f g1, decide_f g2, Int.toNat_natCast, mk_MB]); (try with_reducible exact rfl)))
    | ((with_reducible first | apply Ba | apply Bb | apply Bc | apply Bd | apply Be | apply Nd); · (simp only [go_sem, reduceIte, Nat.reduceEqDiff, decide_f g1, decide_f g2, Int.toNat_natCast, mk_MB]; (try with_reducible exact rfl))) | ((with_reducible first | apply Ca | apply Cb | apply Cc | apply Cd | apply Ce | apply Ne); · (simp only [go_sem, reduceIte, Nat.reduceEqDiff, decide_f g1, decide_f g2, Int.toNat_natCast, mk_MB]; (try with_reducible exact rfl)))
    | ((with_reducible first | apply Dg | apply Dh); (· decide +kernel); (· (simp only [inOrd, List.getElem?_cons_succ, List.getElem?_cons_zero]; exact rfl)))
    | ((with_reducible first | apply De | apply Df); (· decide +kernel); (· (simp only [inOrd, List.getElem?_cons_succ, List.getElem?_cons_zero]; exact rfl)))
    | (with_reducible first | apply Ea | apply Eb | apply Ec | apply Ed | apply Ee | apply Ef | apply Eg | apply Eh | apply Ei | apply Ej | apply Ek | apply El | apply Em | apply En | apply Eo) | ((with_reducible apply Ep); · rfl))
  refine told [1] [.rw (MB (fun _ => false) n)] (.tup [.agg [.sl 0 0 n 1], .b true]) (by simp [mk_MB] <;> fail) (by decide) (by simp [-List.map_map, embAt, nm, AObj.ren, renL, Val.ren, mk_MB]) (by simp [-List.map_map, wfAll, AObj.wf, wfL, Val.wf, mk_MB]) (by simp [mk_MB]) rfl (by simp [-List.map_map, Val.wf, wfL, mk_MB]) (by simp [-List.map_map, Val.ren, renL, nm, mk_MB]) ?_
  exact ⟨rfl, rfl⟩
theorem rwith_no (p : Nat → Bool) (n : Nat) (i : Int) (mark : Bool) (h : ¬ (0 ≤ i ∧ i < n) ∨ p i.toNat = mark) : SoundM Tryd.prog 1 17 [.agg [.sl 0 0 n 1], .i .i64 i, .b mark] [.rw (MB p n)] (fun v H' => v = .tup [.agg [.sl 0 0 n 1], .b false] ∧ H' = [.rw (MB p n)]) := by
  refine sound_told (sound_func Tryd.func17 c17 rfl (by simp) ?_)
  simp only [e17]
  by_cases h1 : i < 0
  · repeat (first
    | ((first | (with_reducible first | apply Aa | apply Ab | apply Ac | apply Ad | apply Ae | apply Af | apply Na | apply Nb) | ((with_reducible first | apply Ag | apply Ah | apply Nc); · (simp only [go_sem, reduceIte, Nat.reduceEqDiff, decide_t h1]; (try with_reducible exact rfl)))); · (simp only [go_sem, Int.reduceBEq, Int.reduceBNe, Int.reduceLT, Int.reduceLE, Int.reduceAdd, Int.reduceSub, Int.reduceToNat, reduceIte, Nat.reduceEqDiff, Nat.reduceAdd, Nat.reduceMul, Nat.reduceLeDiff, Nat.reduceSub, reduceCtorEq, decide_t h1]; (try simp (disch := omega) only [OM, mn_lo, mn_hi, mx_lo, mx_hi, if_yes, if_no, Option.map_some, decide_t h1]); (try with_reducible exact rfl)))
    | ((with_reducible first | apply Ba | apply Bb | apply Bc | apply Bd | apply Be | apply Nd); · (simp only [go_sem, reduceIte, Nat.reduceEqDiff, decide_t h1]; (try with_reducible exact rfl))) | ((with_reducible first | apply Ca | apply Cb | apply Cc | apply Cd | apply Ce | apply Ne); · (simp only [go_sem, reduceIte, Nat.reduceEqDiff, decide_t h1]; (try with_reducible exact rfl)))
    | ((with_reducible first | apply Dg | apply Dh); (· decide +kernel); (· (simp only [inOrd, List.getElem?_cons_succ, List.getElem?_cons_zero]; exact rfl)))
    | ((with_reducible first | apply De | apply Df); (· decide +kernel); (· (simp only [inOrd, List.getElem?_cons_succ, List.getElem?_cons_zero]; exact rfl)))
    | (with_reducible first | apply Ea | apply Eb | apply Ec | apply Ed | apply Ee | apply Ef | apply Eg | apply Eh | apply Ei | apply Ej | apply Ek | apply El | apply Em | apply En | apply Eo) | ((with_reducible apply Ep); · rfl))
    refine told [0] [.rw (MB p n)] (.tup [.agg [.sl 0 0 n 1], .b false]) (by simp [nc0] <;> fail) (by decide) (by simp [-List.map_map, embAt, nm, AObj.ren, renL, Val.ren, nc0]) (by simp [-List.map_map, wfAll, AObj.wf, wfL, Val.wf, nc0]) (by simp [nc0]) rfl (by simp [-List.map_map, Val.wf, wfL, nc0]) (by simp [-List.map_map, Val.ren, renL, nm, nc0]) ?_
    exact ⟨rfl, rfl⟩
  · by_cases h2 : i ≥ n
    · repeat (first
    | ((first | (with_reducible first | apply Aa | apply Ab | apply Ac | apply Ad | apply Ae | apply Af | apply Na | apply Nb) | ((with_reducible first | apply Ag | apply Ah | apply Nc); · (simp only [go_sem, reduceIte, Nat.reduceEqDiff, decide_f h1, decide_t h2]; (try with_reducible exact rfl)))); · (simp only [go_sem, Int.reduceBEq, Int.reduceBNe, Int.reduceLT, Int.reduceLE, Int.reduceAdd, Int.reduceSub, Int.reduceToNat, reduceIte, Nat.reduceEqDiff, Nat.reduceAdd, Nat.reduceMul, Nat.reduceLeDiff, Nat.reduceSub, reduceCtorEq, decide_f h1, decide_t h2]; (try simp (disch := omega) only [OM, mn_lo, mn_hi, mx_lo, mx_hi, if_yes, if_no, Option.map_some, decide_f h1, decide_t h2]); (try with_reducible exact rfl)))
    | ((with_reducible first | apply Ba | apply Bb | apply Bc | apply Bd | apply Be | apply Nd); · (simp only [go_sem, reduceIte, Nat.reduceEqDiff, decide_f h1, decide_t h2]; (try with_reducible exact rfl))) | ((with_reducible first | apply Ca | apply Cb | apply Cc | apply Cd | apply Ce | apply Ne); · (simp only [go_sem, reduceIte, Nat.reduceEqDiff, decide_f h1, decide_t h2]; (try with_reducible exact rfl)))
    | ((with_reducible first | apply Dg | apply Dh); (· decide +kernel); (· (simp only [inOrd, List.getElem?_cons_succ, List.getElem?_cons_zero]; exact rfl)))
    | ((with_reducible first | apply De | apply Df); (· decide +kernel); (· (simp only [inOrd, List.getElem?_cons_succ, List.getElem?_cons_zero]; exact rfl)))
    | (with_reducible first | apply Ea | apply Eb | apply Ec | apply Ed | apply Ee | apply Ef | apply Eg | apply Eh | apply Ei | apply Ej | apply Ek | apply El | apply Em | apply En | apply Eo) | ((with_reducible apply Ep); · rfl))
      refine told [0] [.rw (MB p n)] (.tup [.agg [.sl 0 0 n 1], .b false]) (by simp [nc0] <;> fail) (by decide) (by simp [-List.map_map, embAt, nm, AObj.ren, renL, Val.ren, nc0]) (by simp [-List.map_map, wfAll, AObj.wf, wfL, Val.wf, nc0]) (by simp [nc0]) rfl (by simp [-List.map_map, Val.wf, wfL, nc0]) (by simp [-List.map_map, Val.ren, renL, nm, nc0]) ?_
      exact ⟨rfl, rfl⟩
    · obtain ⟨j, rfl⟩ : ∃ j : Nat, i = j := ⟨i.toNat, by omega⟩
      have hj : j < n := by omega
      have hp : p j = mark := by rcases h with h | h; (· exact absurd ⟨by omega, by omega⟩ h); simpa using h
      repeat (first
    | ((first | (with_reducible first | apply Aa | apply Ab | apply Ac | apply Ad | apply Ae | apply Af | apply Na | apply Nb) | ((with_reducible first | apply Ag | apply Ah | apply Nc); · (simp only [go_sem, reduceIte, Nat.reduceEqDiff, decide_f h1, decide_f h2, Int.toNat_natCast, Nat.mul_one, MB_get, hp]; (try with_reducible exact rfl)))); · (simp only [go_sem, Int.reduceBEq, Int.reduceBNe, Int.reduceLT, Int.reduceLE, Int.reduceAdd, Int.reduceSub, Int.reduceToNat, reduceIte, Nat.reduceEqDiff, Nat.reduceAdd, Nat.reduceMul, Nat.reduceLeDiff, Nat.reduceSub, reduceCtorEq, decide_f h1, decide_f h2, Int.toNat_natCast, Nat.mul_one, MB_get, hp]; (try simp (disch := omega) only [OM, mn_lo, mn_hi, mx_lo, mx_hi, if_yes, if_no, Option.map_some, decide_f h1, decide_f h2, Int.toNat_natCast, Nat.mul_one, MB_get, hp]); (try with_reducible exact rfl)))
    | ((with_reducible first | apply Ba | apply Bb | apply Bc | apply Bd | apply Be | apply Nd); · (simp only [go_sem, reduceIte, Nat.reduceEqDiff, decide_f h1, decide_f h2, Int.toNat_natCast, Nat.mul_one, MB_get, hp]; (try with_reducible exact rfl))) | ((with_reducible first | apply Ca | apply Cb | apply Cc | apply Cd | apply Ce | apply Ne); · (simp only [go_sem, reduceIte, Nat.reduceEqDiff, decide_f h1, decide_f h2, Int.toNat_natCast, Nat.mul_one, MB_get, hp]; (try with_reducible exact rfl)))
    | ((with_reducible first | apply Dg | apply Dh); (· decide +kernel); (· (simp only [inOrd, List.getElem?_cons_succ, List.getElem?_cons_zero]; exact rfl)))
    | ((with_reducible first | apply De | apply Df); (· decide +kernel); (· (simp only [inOrd, List.getElem?_cons_succ, List.getElem?_cons_zero]; exact rfl)))
    | (with_reducible first | apply Ea | apply Eb | apply Ec | apply Ed | apply Ee | apply Ef | apply Eg | apply Eh | apply Ei | apply Ej | apply Ek | apply El | apply Em | apply En | apply Eo) | ((with_reducible apply Ep); · rfl))
      refine told [0] [.rw (MB p n)] (.tup [.agg [.sl 0 0 n 1], .b false]) (by simp [nc0] <;> fail) (by decide) (by simp [-List.map_map, embAt, nm, AObj.ren, renL, Val.ren, nc0]) (by simp [-List.map_map, wfAll, AObj.wf, wfL, Val.wf, nc0]) (by simp [nc0]) rfl (by simp [-List.map_map, Val.wf, wfL, nc0]) (by simp [-List.map_map, Val.ren, renL, nm, nc0]) ?_
      exact ⟨rfl, rfl⟩
theorem rwith_c (p : Nat → Bool) (n j : Nat) (mark : Bool) (hn : n ≤ 65536) (hj : j < n) (hp : (p j == mark) = false) : SoundM Tryd.prog 1 17 [.agg [.sl 0 0 n 1], .i .i64 j, .b mark] [.rw (MB p n)] (fun v H' => v = .tup [.agg [.sl 1 0 n 1], .b true] ∧ H' = [.rw (MB p n), .rw (MB (upd p j mark) n)]) := by
  have h1 : ¬ (j : Int) < 0 := by omega
  have h2 : ¬ (j : Int) ≥ n := by omega
  have hn0 : n ≠ 0 := by omega
  refine sound_told (sound_func Tryd.func17 c17 rfl (by simp) ?_)
  simp only [e17]
  repeat (first
    | ((first | (with_reducible first | apply Aa | apply Ab | apply Ac | apply Ad | apply Ae | apply Af | apply Na | apply Nb) | ((with_reducible first | apply Ag | apply Ah | apply Nc); · (simp only [go_sem, reduceIte, Nat.reduceEqDiff, decide_f h1, decide_f h2, Int.toNat_natCast, Nat.mul_one, MB_get, MB_len, MB_take, MB_wr, hp]; (try with_reducible exact rfl)))); · (simp only [go_sem, Int.reduceBEq, Int.reduceBNe, Int.reduceLT, Int.reduceLE, Int.reduceAdd, Int.reduceSub, Int.reduceToNat, reduceIte, Nat.reduceEqDiff, Nat.reduceAdd, Nat.reduceMul, Nat.reduceLeDiff, Nat.reduceSub, reduceCtorEq, decide_f h1, decide_f h2, Int.toNat_natCast, Nat.mul_one, MB_get, MB_len, MB_take, MB_wr, hp]; (try simp (disch := omega) only [OM, mn_lo, mn_hi, mx_lo, mx_hi, if_yes, if_no, Option.map_some, decide_f h1, decide_f h2, Int.toNat_natCast, Nat.mul_one, MB_get, MB_len, MB_take, MB_wr, hp]); (try with_reducible exact rfl)))
    | ((with_reducible first | apply Ba | apply Bb | apply Bc | apply Bd | apply Be | apply Nd); · (simp only [go_sem, reduceIte, Nat.reduceEqDiff, decide_f h1, decide_f h2, Int.toNat_natCast, Nat.mul_one, MB_get, MB_len, MB_take, MB_wr, hp]; (try with_reducible exact rfl))) | ((with_reducible first | apply Ca | apply Cb | apply Cc | apply Cd | apply Ce | apply Ne); · (simp only [go_sem, reduceIte, Nat.reduceEqDiff, decide_f h1, decide_f h2, Int.toNat_natCast, Nat.mul_one, MB_get, MB_len, MB_take, MB_wr, hp]; (try with_reducible exact rfl)))
    | ((with_reducible first | apply Dg | apply Dh); (· decide +kernel); (· (simp only [inOrd, List.getElem?_cons_succ, List.getElem?_cons_zero]; exact rfl)))
    | ((with_reducible first | apply De | apply Df); (· decide +kernel); (· (simp only [inOrd, List.getElem?_cons_succ, List.getElem?_cons_zero]; exact rfl)))
    | (with_reducible first | apply Ea | apply Eb | apply Ec | apply Ed | apply Ee | apply Ef | apply Eg | apply Eh | apply Ei | apply Ej | apply Ek | apply El | apply Em | apply En | apply Eo) | ((with_reducible apply Ep); · rfl))
  refine told [0, 4] [.rw (MB p n), .rw (MB (upd p j mark) n)] (.tup [.agg [.sl 1 0 n 1], .b true]) (by simp [nc0] <;> fail) (by decide) (by simp [-List.map_map, embAt, nm, AObj.ren, renL, Val.ren, nc0]) (by simp [-List.map_map, wfAll, AObj.wf, wfL, Val.wf, nc0]) (by simp [nc0]) rfl (by simp [-List.map_map, Val.wf, wfL, nc0]) (by simp [-List.map_map, Val.ren, renL, nm, nc0]) ?_
  exact ⟨rfl, rfl⟩
theorem rhas_c (p : Nat → Bool) (n : Nat) (hb : Below p n) (i : Int) : SoundM Tryd.prog 1 22 [.agg [.sl 0 0 n 1], .i .i64 i] [.rw (MB p n)] (fun v H' => v = .b (decide (0 ≤ i) && p i.toNat) ∧ H' = [.rw (MB p n)]) := by
  refine sound_told (sound_func Tryd.func22 c22 rfl (by simp) ?_)
  simp only [e22]
  by_cases h1 : i ≥ 0
  · obtain ⟨j, rfl⟩ : ∃ j : Nat, i = j := ⟨i.toNat, by omega⟩
    rw [decide_t (p := (0 : Int) ≤ j) h1, Bool.true_and, Int.toNat_natCast]
    by_cases h2 : (j : Int) < n
    · have hj : j < n := by omega
      repeat (first
    | ((first | (with_reducible first | apply Aa | apply Ab | apply Ac | apply Ad | apply Ae | apply Af | apply Na | apply Nb) | ((with_reducible first | apply Ag | apply Ah | apply Nc); · (simp only [go_sem, reduceIte, Nat.reduceEqDiff, decide_t h1, decide_t h2, Int.toNat_natCast, Nat.mul_one, MB_get]; (try with_reducible exact rfl)))); · (simp only [go_sem, Int.reduceBEq, Int.reduceBNe, Int.reduceLT, Int.reduceLE, Int.reduceAdd, Int.reduceSub, Int.reduceToNat, reduceIte, Nat.reduceEqDiff, Nat.reduceAdd, Nat.reduceMul, Nat.reduceLeDiff, Nat.reduceSub, reduceCtorEq, decide_t h1, decide_t h2, Int.toNat_natCast, Nat.mul_one, MB_get]; (try simp (disch := omega) only [OM, mn_lo, mn_hi, mx_lo, mx_hi, if_yes, if_no, Option.map_some, decide_t h1, decide_t h2, Int.toNat_natCast, Nat.mul_one, MB_get]); (try with_reducible exact rfl)))
    | ((with_reducible first | apply Ba | apply Bb | apply Bc | apply Bd | apply Be | apply Nd); · (simp only [go_sem, reduceIte, Nat.reduceEqDiff, decide_t h1, decide_t h2, Int.toNat_natCast, Nat.mul_one, MB_get]; (try with_reducible exact rfl))) | ((with_reducible first | apply Ca | apply Cb | apply Cc | apply Cd | apply Ce | apply Ne); · (simp only [go_sem, reduceIte, Nat.reduceEqDiff, decide_t h1, decide_t h2, Int.toNat_natCast, Nat.mul_one, MB_get]; (try with_reducible exact rfl)))
    | ((with_reducible first | apply Dg | apply Dh); (· decide +kernel); (· (simp only [inOrd, List.getElem?_cons_succ, List.getElem?_cons_zero]; exact rfl)))
    | ((with_reducible first | apply De | apply Df); (· decide +kernel); (· (simp only [inOrd, List.getElem?_cons_succ, List.getElem?_cons_zero]; exact rfl)))
    | (with_reducible first | apply Ea | apply Eb | apply Ec | apply Ed | apply Ee | apply Ef | apply Eg | apply Eh | apply Ei | apply Ej | apply Ek | apply El | apply Em | apply En | apply Eo) | ((with_reducible apply Ep); · rfl))
      refine told [0] [.rw (MB p n)] (.b (p j)) (by simp [nc0] <;> fail) (by decide) (by simp [-List.map_map, embAt, nm, AObj.ren, renL, Val.ren, nc0]) (by simp [-List.map_map, wfAll, AObj.wf, wfL, Val.wf, nc0]) (by simp [nc0]) rfl (by simp [-List.map_map, Val.wf, wfL, nc0]) (by simp [-List.map_map, Val.ren, renL, nm, nc0]) ?_
      exact ⟨rfl, rfl⟩
    · rw [hb j (by omega)]
      repeat (first
    | ((first | (with_reducible first | apply Aa | apply Ab | apply Ac | apply Ad | apply Ae | apply Af | apply Na | apply Nb) | ((with_reducible first | apply Ag | apply Ah | apply Nc); · (simp only [go_sem, reduceIte, Nat.reduceEqDiff, decide_t h1, decide_f h2]; (try with_reducible exact rfl)))); · (simp only [go_sem, Int.reduceBEq, Int.reduceBNe, Int.reduceLT, Int.reduceLE, Int.reduceAdd, Int.reduceSub, Int.reduceToNat, reduceIte, Nat.reduceEqDiff, Nat.reduceAdd, Nat.reduceMul, Nat.reduceLeDiff, Nat.reduceSub, reduceCtorEq, decide_t h1, decide_f h2]; (try simp (disch := omega) only [OM, mn_lo, mn_hi, mx_lo, mx_hi, if_yes, if_no, Option.map_some, decide_t h1, decide_f h2]); (try with_reducible exact rfl)))
    | ((with_reducible first | apply Ba | apply Bb | apply Bc | apply Bd | apply Be | apply Nd); · (simp only [go_sem, reduceIte, Nat.reduceEqDiff, decide_t h1, decide_f h2]; (try with_reducible exact rfl))) | ((with_reducible first | apply Ca | apply Cb | apply Cc | apply Cd | apply Ce | apply Ne); · (simp only [go_sem, reduceIte, Nat.reduceEqDiff, decide_t h1, decide_f h2]; (try with_reducible exact rfl)))
    | ((with_reducible first | apply Dg | apply Dh); (· decide +kernel); (· (simp only [inOrd, List.getElem?_cons_succ, List.getElem?_cons_zero]; exact rfl)))
    | ((with_reducible first | apply De | apply Df); (· decide +kernel); (· (simp only [inOrd, List.getElem?_cons_succ, List.getElem?_cons_zero]; exact rfl)))
    | (with_reducible first | apply Ea | apply Eb | apply Ec | apply Ed | apply Ee | apply Ef | apply Eg | apply Eh | apply Ei | apply Ej | apply Ek | apply El | apply Em | apply En | apply Eo) | ((with_reducible apply Ep); · rfl))
      refine told [0] [.rw (MB p n)] (.b false) (by simp [nc0] <;> fail) (by decide) (by simp [-List.map_map, embAt, nm, AObj.ren, renL, Val.ren, nc0]) (by simp [-List.map_map, wfAll, AObj.wf, wfL, Val.wf, nc0]) (by simp [nc0]) rfl (by simp [-List.map_map, Val.wf, wfL, nc0]) (by simp [-List.map_map, Val.ren, renL, nm, nc0]) ?_
      exact ⟨rfl, rfl⟩
  · rw [decide_f (p := (0 : Int) ≤ i) h1, Bool.false_and]
    repeat (first
    | ((first | (with_reducible first | apply Aa | apply Ab | apply Ac | apply Ad | apply Ae | apply Af | apply Na | apply Nb) | ((with_reducible first | apply Ag | apply Ah | apply Nc); · (simp only [go_sem, reduceIte, Nat.reduceEqDiff, decide_f h1]; (try with_reducible exact rfl)))); · (simp only [go_sem, Int.reduceBEq, Int.reduceBNe, Int.reduceLT, Int.reduceLE, Int.reduceAdd, Int.reduceSub, Int.reduceToNat, reduceIte, Nat.reduceEqDiff, Nat.reduceAdd, Nat.reduceMul, Nat.reduceLeDiff, Nat.reduceSub, reduceCtorEq, decide_f h1]; (try simp (disch := omega) only [OM, mn_lo, mn_hi, mx_lo, mx_hi, if_yes, if_no, Option.map_some, decide_f h1]); (try with_reducible exact rfl)))
    | ((with_reducible first | apply Ba | apply Bb | apply Bc | apply Bd | apply Be | apply Nd); · (simp only [go_sem, reduceIte, Nat.reduceEqDiff, decide_f h1]; (try with_reducible exact rfl))) | ((with_reducible first | apply Ca | apply Cb | apply Cc | apply Cd | apply Ce | apply Ne); · (simp only [go_sem, reduceIte, Nat.reduceEqDiff, decide_f h1]; (try with_reducible exact rfl)))
    | ((with_reducible first | apply Dg | apply Dh); (· decide +kernel); (· (simp only [inOrd, List.getElem?_cons_succ, List.getElem?_cons_zero]; exact rfl)))
    | ((with_reducible first | apply De | apply Df); (· decide +kernel); (· (simp only [inOrd, List.getElem?_cons_succ, List.getElem?_cons_zero]; exact rfl)))
    | (with_reducible first | apply Ea | apply Eb | apply Ec | apply Ed | apply Ee | apply Ef | apply Eg | apply Eh | apply Ei | apply Ej | apply Ek | apply El | apply Em | apply En | apply Eo) | ((with_reducible apply Ep); · rfl))
    refine told [0] [.rw (MB p n)] (.b false) (by simp [nc0] <;> fail) (by decide) (by simp [-List.map_map, embAt, nm, AObj.ren, renL, Val.ren, nc0]) (by simp [-List.map_map, wfAll, AObj.wf, wfL, Val.wf, nc0]) (by simp [nc0]) rfl (by simp [-List.map_map, Val.wf, wfL, nc0]) (by simp [-List.map_map, Val.ren, renL, nm, nc0]) ?_
    exact ⟨rfl, rfl⟩
def RNInv (p : Nat → Bool) (n : Nat) (f : Int) (c : Nat) (ρ : Env) (H : Heap) : Prop :=
  ∃ a : Nat, c + a = n ∧ (∀ k : Nat, f ≤ k → k < a → p k = false) ∧ AnewS 1 [.rw (MB p n), .rw [.sl 0 0 n 1]] [(1, .i .i64 f), (2, .p 1 0), (6, .i .i64 a)] ρ H
theorem rnext_c (p : Nat → Bool) (n : Nat) (hn : n ≤ 65536) (hb : Below p n) (f : Int) : SoundM Tryd.prog 1 20 [.agg [.sl 0 0 n 1], .i .i64 f] [.rw (MB p n)] (fun v H' => H' = [.rw (MB p n)] ∧ ∃ o, IsNext p f.toNat o ∧ v = ans o) := by
  refine sound_told (sound_func Tryd.func20 c20 rfl (by simp) ?_)
  simp only [e20]
  repeat (first
    | ((first | (with_reducible first | apply Aa | apply Ab | apply Ac | apply Ad | apply Ae | apply Af | apply Na | apply Nb) | ((with_reducible first | apply Ag | apply Ah | apply Nc); · (simp only [go_sem, reduceIte, Nat.reduceEqDiff]; (try with_reducible exact rfl)))); · (simp only [go_sem, Int.reduceBEq, Int.reduceBNe, Int.reduceLT, Int.reduceLE, Int.reduceAdd, Int.reduceSub, Int.reduceToNat, reduceIte, Nat.reduceEqDiff, Nat.reduceAdd, Nat.reduceMul, Nat.reduceLeDiff, Nat.reduceSub, reduceCtorEq]; (try simp (disch := omega) only [OM, mn_lo, mn_hi, mx_lo, mx_hi, if_yes, if_no, Option.map_some]); (try with_reducible exact rfl)))
    | ((with_reducible first | apply Ba | apply Bb | apply Bc | apply Bd | apply Be | apply Nd); · (simp only [go_sem, reduceIte, Nat.reduceEqDiff]; (try with_reducible exact rfl))) | ((with_reducible first | apply Ca | apply Cb | apply Cc | apply Cd | apply Ce | apply Ne); · (simp only [go_sem, reduceIte, Nat.reduceEqDiff]; (try with_reducible exact rfl)))
    | ((with_reducible first | apply Dg | apply Dh); (· decide +kernel); (· (simp only [inOrd, List.getElem?_cons_succ, List.getElem?_cons_zero]; exact rfl)))
    | ((with_reducible first | apply De | apply Df); (· decide +kernel); (· (simp only [inOrd, List.getElem?_cons_succ, List.getElem?_cons_zero]; exact rfl)))
    | (with_reducible first | apply Ea | apply Eb | apply Ec | apply Ed | apply Ee | apply Ef | apply Eg | apply Eh | apply Ei | apply Ej | apply Ek | apply El | apply Em | apply En | apply Eo) | ((with_reducible apply Ep); · rfl))
  refine ei_loop (RNInv p n f) (n := n) ?_ ?_
  · refine ⟨0, rfl, fun k h1 h2 => by omega, ?_⟩
    refine anew [0, 1] (by simp [nc0] <;> fail) (by decide) (by simp [-List.map_map, embAt, nm, AObj.ren, renL, Val.ren, nc0]) (by simp [-List.map_map, wfAll, AObj.wf, wfL, Val.wf, nc0]) (by simp [nc0]) rfl (by simp [-List.map_map, Val.wf, wfL, nc0]) (by simp [-List.map_map, Env.get, Val.ren, renL, nm, initEnv, nc0])
  · rintro c ρ H ⟨a, hc, hno, ha⟩
    refine ei_anewS ha ?_
    clear ha
    by_cases h1 : (a : Int) < n
    · have h1' : a < n := by omega
      by_cases h2 : (a : Int) ≥ f
      · cases hp : p a
        · repeat (first
    | ((first | (with_reducible first | apply Aa | apply Ab | apply Ac | apply Ad | apply Ae | apply Af | apply Na | apply Nb) | ((with_reducible first | apply Ag | apply Ah | apply Nc); · (simp only [go_sem, reduceIte, Nat.reduceEqDiff, decide_t h1, decide_t h2, Int.toNat_natCast, Nat.mul_one, MB_get, hp]; (try with_reducible exact rfl)))); · (simp only [go_sem, Int.reduceBEq, Int.reduceBNe, Int.reduceLT, Int.reduceLE, Int.reduceAdd, Int.reduceSub, Int.reduceToNat, reduceIte, Nat.reduceEqDiff, Nat.reduceAdd, Nat.reduceMul, Nat.reduceLeDiff, Nat.reduceSub, reduceCtorEq, decide_t h1, decide_t h2, Int.toNat_natCast, Nat.mul_one, MB_get, hp]; (try simp (disch := omega) only [OM, mn_lo, mn_hi, mx_lo, mx_hi, if_yes, if_no, Option.map_some, decide_t h1, decide_t h2, Int.toNat_natCast, Nat.mul_one, MB_get, hp]); (try with_reducible exact rfl)))
    | ((with_reducible first | apply Ba | apply Bb | apply Bc | apply Bd | apply Be | apply Nd); · (simp only [go_sem, reduceIte, Nat.reduceEqDiff, decide_t h1, decide_t h2, Int.toNat_natCast, Nat.mul_one, MB_get, hp]; (try with_reducible exact rfl))) | ((with_reducible first | apply Ca | apply Cb | apply Cc | apply Cd | apply Ce | apply Ne); · (simp only [go_sem, reduceIte, Nat.reduceEqDiff, decide_t h1, decide_t h2, Int.toNat_natCast, Nat.mul_one, MB_get, hp]; (try with_reducible exact rfl)))
    | ((with_reducible first | apply Dg | apply Dh); (· decide +kernel); (· (simp only [inOrd, List.getElem?_cons_succ, List.getElem?_cons_zero]; exact rfl)))
    | ((with_reducible first | apply De | apply Df); (· decide +kernel); (· (simp only [inOrd, List.getElem?_cons_succ, List.getElem?_cons_zero]; exact rfl)))
    | (with_reducible first | apply Ea | apply Eb | apply Ec | apply Ed | apply Ee | apply Ef | apply Eg | apply Eh | apply Ei | apply Ej | apply Ek | apply El | apply Em | apply En | apply Eo) | ((with_reducible apply Ep); · rfl))
          refine ⟨c - 1, by omega, a + 1, by omega, fun k k1 k2 => by rcases Nat.lt_succ_iff_lt_or_eq.1 k2 with q | rfl; (· exact hno k k1 q); exact hp, ?_⟩
          refine anew [0, 1] (by simp [nc0] <;> fail) (by decide) (by simp [-List.map_map, embAt, nm, AObj.ren, renL, Val.ren, nc0]) (by simp [-List.map_map, wfAll, AObj.wf, wfL, Val.wf, nc0]) (by simp [nc0]) rfl (by simp [-List.map_map, Val.wf, wfL, nc0]) (by simp [-List.map_map, Env.get, Val.ren, renL, nm, initEnv, nc0])
        · repeat (first
    | ((first | (with_reducible first | apply Aa | apply Ab | apply Ac | apply Ad | apply Ae | apply Af | apply Na | apply Nb) | ((with_reducible first | apply Ag | apply Ah | apply Nc); · (simp only [go_sem, reduceIte, Nat.reduceEqDiff, decide_t h1, decide_t h2, Int.toNat_natCast, Nat.mul_one, MB_get, hp]; (try with_reducible exact rfl)))); · (simp only [go_sem, Int.reduceBEq, Int.reduceBNe, Int.reduceLT, Int.reduceLE, Int.reduceAdd, Int.reduceSub, Int.reduceToNat, reduceIte, Nat.reduceEqDiff, Nat.reduceAdd, Nat.reduceMul, Nat.reduceLeDiff, Nat.reduceSub, reduceCtorEq, decide_t h1, decide_t h2, Int.toNat_natCast, Nat.mul_one, MB_get, hp]; (try simp (disch := omega) only [OM, mn_lo, mn_hi, mx_lo, mx_hi, if_yes, if_no, Option.map_some, decide_t h1, decide_t h2, Int.toNat_natCast, Nat.mul_one, MB_get, hp]); (try with_reducible exact rfl)))
    | ((with_reducible first | apply Ba | apply Bb | apply Bc | apply Bd | apply Be | apply Nd); · (simp only [go_sem, reduceIte, Nat.reduceEqDiff, decide_t h1, decide_t h2, Int.toNat_natCast, Nat.mul_one, MB_get, hp]; (try with_reducible exact rfl))) | ((with_reducible first | apply Ca | apply Cb | apply Cc | apply Cd | apply Ce | apply Ne); · (simp only [go_sem, reduceIte, Nat.reduceEqDiff, decide_t h1, decide_t h2, Int.toNat_natCast, Nat.mul_one, MB_get, hp]; (try with_reducible exact rfl)))
    | ((with_reducible first | apply Dg | apply Dh); (· decide +kernel); (· (simp only [inOrd, List.getElem?_cons_succ, List.getElem?_cons_zero]; exact rfl)))
    | ((with_reducible first | apply De | apply Df); (· decide +kernel); (· (simp only [inOrd, List.getElem?_cons_succ, List.getElem?_cons_zero]; exact rfl)))
    | (with_reducible first | apply Ea | apply Eb | apply Ec | apply Ed | apply Ee | apply Ef | apply Eg | apply Eh | apply Ei | apply Ej | apply Ek | apply El | apply Em | apply En | apply Eo) | ((with_reducible apply Ep); · rfl))
          refine told [0] [.rw (MB p n)] (ans (some a)) (by simp [ans] <;> fail) (by decide) (by simp [-List.map_map, embAt, nm, AObj.ren, renL, Val.ren, ans]) (by simp [-List.map_map, wfAll, AObj.wf, wfL, Val.wf, ans]) (by simp [ans]) rfl (by simp [-List.map_map, Val.wf, wfL, ans]) (by simp [-List.map_map, Val.ren, renL, nm, ans]) ?_
          exact ⟨rfl, some a, ⟨hp, by omega, fun k k1 k2 => hno k (by omega) k2⟩, rfl⟩
      · repeat (first
    | ((first | (with_reducible first | apply Aa | apply Ab | apply Ac | apply Ad | apply Ae | apply Af | apply Na | apply Nb) | ((with_reducible first | apply Ag | apply Ah | apply Nc); · (simp only [go_sem, reduceIte, Nat.reduceEqDiff, decide_t h1, decide_f h2, Int.toNat_natCast, Nat.mul_one, MB_get]; (try with_reducible exact rfl)))); · (simp only [go_sem, Int.reduceBEq, Int.reduceBNe, Int.reduceLT, Int.reduceLE, Int.reduceAdd, Int.reduceSub, Int.reduceToNat, reduceIte, Nat.reduceEqDiff, Nat.reduceAdd, Nat.reduceMul, Nat.reduceLeDiff, Nat.reduceSub, reduceCtorEq, decide_t h1, decide_f h2, Int.toNat_natCast, Nat.mul_one, MB_get]; (try simp (disch := omega) only [OM, mn_lo, mn_hi, mx_lo, mx_hi, if_yes, if_no, Option.map_some, decide_t h1, decide_f h2, Int.toNat_natCast, Nat.mul_one, MB_get]); (try with_reducible exact rfl)))
    | ((with_reducible first | apply Ba | apply Bb | apply Bc | apply Bd | apply Be | apply Nd); · (simp only [go_sem, reduceIte, Nat.reduceEqDiff, decide_t h1, decide_f h2, Int.toNat_natCast, Nat.mul_one, MB_get]; (try with_reducible exact rfl))) | ((with_reducible first | apply Ca | apply Cb | apply Cc | apply Cd | apply Ce | apply Ne); · (simp only [go_sem, reduceIte, Nat.reduceEqDiff, decide_t h1, decide_f h2, Int.toNat_natCast, Nat.mul_one, MB_get]; (try with_reducible exact rfl)))
    | ((with_reducible first | apply Dg | apply Dh); (· decide +kernel); (· (simp only [inOrd, List.getElem?_cons_succ, List.getElem?_cons_zero]; exact rfl)))
    | ((with_reducible first | apply De | apply Df); (· decide +kernel); (· (simp only [inOrd, List.getElem?_cons_succ, List.getElem?_cons_zero]; exact rfl)))
    | (with_reducible first | apply Ea | apply Eb | apply Ec | apply Ed | apply Ee | apply Ef | apply Eg | apply Eh | apply Ei | apply Ej | apply Ek | apply El | apply Em | apply En | apply Eo) | ((with_reducible apply Ep); · rfl))
        refine ⟨c - 1, by omega, a + 1, by omega, fun k k1 k2 => by omega, ?_⟩
        refine anew [0, 1] (by simp [nc0] <;> fail) (by decide) (by simp [-List.map_map, embAt, nm, AObj.ren, renL, Val.ren, nc0]) (by simp [-List.map_map, wfAll, AObj.wf, wfL, Val.wf, nc0]) (by simp [nc0]) rfl (by simp [-List.map_map, Val.wf, wfL, nc0]) (by simp [-List.map_map, Env.get, Val.ren, renL, nm, initEnv, nc0])
    · repeat (first
    | ((first | (with_reducible first | apply Aa | apply Ab | apply Ac | apply Ad | apply Ae | apply Af | apply Na | apply Nb) | ((with_reducible first | apply Ag | apply Ah | apply Nc); · (simp only [go_sem, reduceIte, Nat.reduceEqDiff, decide_f h1]; (try with_reducible exact rfl)))); · (simp only [go_sem, Int.reduceBEq, Int.reduceBNe, Int.reduceLT, Int.reduceLE, Int.reduceAdd, Int.reduceSub, Int.reduceToNat, reduceIte, Nat.reduceEqDiff, Nat.reduceAdd, Nat.reduceMul, Nat.reduceLeDiff, Nat.reduceSub, reduceCtorEq, decide_f h1]; (try simp (disch := omega) only [OM, mn_lo, mn_hi, mx_lo, mx_hi, if_yes, if_no, Option.map_some, decide_f h1]); (try with_reducible exact rfl)))
    | ((with_reducible first | apply Ba | apply Bb | apply Bc | apply Bd | apply Be | apply Nd); · (simp only [go_sem, reduceIte, Nat.reduceEqDiff, decide_f h1]; (try with_reducible exact rfl))) | ((with_reducible first | apply Ca | apply Cb | apply Cc | apply Cd | apply Ce | apply Ne); · (simp only [go_sem, reduceIte, Nat.reduceEqDiff, decide_f h1]; (try with_reducible exact rfl)))
    | ((with_reducible first | apply Dg | apply Dh); (· decide +kernel); (· (simp only [inOrd, List.getElem?_cons_succ, List.getElem?_cons_zero]; exact rfl)))
    | ((with_reducible first | apply De | apply Df); (· decide +kernel); (· (simp only [inOrd, List.getElem?_cons_succ, List.getElem?_cons_zero]; exact rfl)))
    | (with_reducible first | apply Ea | apply Eb | apply Ec | apply Ed | apply Ee | apply Ef | apply Eg | apply Eh | apply Ei | apply Ej | apply Ek | apply El | apply Em | apply En | apply Eo) | ((with_reducible apply Ep); · rfl))
      refine told [0] [.rw (MB p n)] (ans none) (by simp [ans] <;> fail) (by decide) (by simp [-List.map_map, embAt, nm, AObj.ren, renL, Val.ren, ans]) (by simp [-List.map_map, wfAll, AObj.wf, wfL, Val.wf, ans]) (by simp [ans]) rfl (by simp [-List.map_map, Val.wf, wfL, ans]) (by simp [-List.map_map, Val.ren, renL, nm, ans]) ?_
      exact ⟨rfl, none, fun k k1 => by by_cases q : k < a; (· exact hno k (by omega) q); exact hb k (by omega), rfl⟩
theorem rround_c (p : Nat → Bool) (n : Nat) (hn : n ≤ 65536) (hb : Below p n) (f : Int) : SoundM Tryd.prog 1 21 [.agg [.sl 0 0 n 1], .i .i64 f] [.rw (MB p n)] (fun v H' => H' = [.rw (MB p n)] ∧ ∃ o, IsRound p f.toNat o ∧ v = ans o) := by
  refine sound_told (sound_func Tryd.func21 c21 rfl (by simp) ?_)
  simp only [e21]
  repeat (first
    | ((first | (with_reducible first | apply Aa | apply Ab | apply Ac | apply Ad | apply Ae | apply Af | apply Na | apply Nb) | ((with_reducible first | apply Ag | apply Ah | apply Nc); · (simp only [go_sem, reduceIte, Nat.reduceEqDiff]; (try with_reducible exact rfl)))); · (simp only [go_sem, Int.reduceBEq, Int.reduceBNe, Int.reduceLT, Int.reduceLE, Int.reduceAdd, Int.reduceSub, Int.reduceToNat, reduceIte, Nat.reduceEqDiff, Nat.reduceAdd, Nat.reduceMul, Nat.reduceLeDiff, Nat.reduceSub, reduceCtorEq]; (try simp (disch := omega) only [OM, mn_lo, mn_hi, mx_lo, mx_hi, if_yes, if_no, Option.map_some]); (try with_reducible exact rfl)))
    | ((with_reducible first | apply Ba | apply Bb | apply Bc | apply Bd | apply Be | apply Nd); · (simp only [go_sem, reduceIte, Nat.reduceEqDiff]; (try with_reducible exact rfl))) | ((with_reducible first | apply Ca | apply Cb | apply Cc | apply Cd | apply Ce | apply Ne); · (simp only [go_sem, reduceIte, Nat.reduceEqDiff]; (try with_reducible exact rfl)))
    | ((with_reducible first | apply Dg | apply Dh); (· decide +kernel); (· (simp only [inOrd, List.getElem?_cons_succ, List.getElem?_cons_zero]; exact rfl)))
    | ((with_reducible first | apply De | apply Df); (· decide +kernel); (· (simp only [inOrd, List.getElem?_cons_succ, List.getElem?_cons_zero]; exact rfl)))
    | (with_reducible first | apply Ea | apply Eb | apply Ec | apply Ed | apply Ee | apply Ef | apply Eg | apply Eh | apply Ei | apply Ej | apply Ek | apply El | apply Em | apply En | apply Eo) | ((with_reducible apply Ep); · rfl))
  (first | ((with_reducible apply RunP.call); (· (simp only [go_sem, reduceIte, Nat.reduceEqDiff]; (try with_reducible exact rfl))); (· (simp only [go_sem, reduceIte, Nat.reduceEqDiff]; (try with_reducible exact rfl)))) | ((with_reducible apply Run.call); (· (simp only [go_sem, reduceIte, Nat.reduceEqDiff]; (try with_reducible exact rfl))); (· (simp only [go_sem, reduceIte, Nat.reduceEqDiff]; (try with_reducible exact rfl)))) | ((with_reducible apply Run.callY); (· (simp only [go_sem, reduceIte, Nat.reduceEqDiff]; (try with_reducible exact rfl))); (· (simp only [go_sem, reduceIte, Nat.reduceEqDiff]; (try with_reducible exact rfl))); (· (simp only [go_sem, reduceIte, Nat.reduceEqDiff]; (try with_reducible exact rfl)))) | ((with_reducible apply RunP.callY); (· (simp only [go_sem, reduceIte, Nat.reduceEqDiff]; (try with_reducible exact rfl))); (· (simp only [go_sem, reduceIte, Nat.reduceEqDiff]; (try with_reducible exact rfl))); (· (simp only [go_sem, reduceIte, Nat.reduceEqDiff]; (try with_reducible exact rfl)))) | ((with_reducible apply Run.call0); (· (simp only [go_sem, reduceIte, Nat.reduceEqDiff]; (try with_reducible exact rfl))); (· (simp only [go_sem, reduceIte, Nat.reduceEqDiff]; (try with_reducible exact rfl)))))
  refine sound_use (rnext_c p n hn hb f) [0] rfl (by decide) (by simp [-List.map_map, embAt, nm, AObj.ren, renL, Val.ren, nc0]) (by simp [-List.map_map, wfAll, AObj.wf, wfL, Val.wf, nc0]) (by simp [-List.map_map, Val.wf, wfL, nc0]) (by simp [-List.map_map, Val.ren, renL, nm, nc0]) ?_
  rintro v C' ⟨rfl, o, ho, rfl⟩
  cases o with
  | some k =>
    simp only [ans]
    simp only [merge, place, after, nm, MG, Val.ren, renL, AObj.ren, reduceIte, Nat.reduceLT, Nat.reduceAdd, Nat.reduceSub, Nat.lt_irrefl, Nat.zero_lt_one, Nat.zero_lt_succ, MB_ren]
    repeat (first
    | ((first | (with_reducible first | apply Aa | apply Ab | apply Ac | apply Ad | apply Ae | apply Af | apply Na | apply Nb) | ((with_reducible first | apply Ag | apply Ah | apply Nc); · (simp only [go_sem, reduceIte, Nat.reduceEqDiff]; (try with_reducible exact rfl)))); · (simp only [go_sem, Int.reduceBEq, Int.reduceBNe, Int.reduceLT, Int.reduceLE, Int.reduceAdd, Int.reduceSub, Int.reduceToNat, reduceIte, Nat.reduceEqDiff, Nat.reduceAdd, Nat.reduceMul, Nat.reduceLeDiff, Nat.reduceSub, reduceCtorEq]; (try simp (disch := omega) only [OM, mn_lo, mn_hi, mx_lo, mx_hi, if_yes, if_no, Option.map_some]); (try with_reducible exact rfl)))
    | ((with_reducible first | apply Ba | apply Bb | apply Bc | apply Bd | apply Be | apply Nd); · (simp only [go_sem, reduceIte, Nat.reduceEqDiff]; (try with_reducible exact rfl))) | ((with_reducible first | apply Ca | apply Cb | apply Cc | apply Cd | apply Ce | apply Ne); · (simp only [go_sem, reduceIte, Nat.reduceEqDiff]; (try with_reducible exact rfl)))
    | ((with_reducible first | apply Dg | apply Dh); (· decide +kernel); (· (simp only [inOrd, List.getElem?_cons_succ, List.getElem?_cons_zero]; exact rfl)))
    | ((with_reducible first | apply De | apply Df); (· decide +kernel); (· (simp only [inOrd, List.getElem?_cons_succ, List.getElem?_cons_zero]; exact rfl)))
    | (with_reducible first | apply Ea | apply Eb | apply Ec | apply Ed | apply Ee | apply Ef | apply Eg | apply Eh | apply Ei | apply Ej | apply Ek | apply El | apply Em | apply En | apply Eo) | ((with_reducible apply Ep); · rfl))
    refine told [0] [.rw (MB p n)] (ans (some k)) (by simp [ans] <;> fail) (by decide) (by simp [-List.map_map, embAt, nm, AObj.ren, renL, Val.ren, ans]) (by simp [-List.map_map, wfAll, AObj.wf, wfL, Val.wf, ans]) (by simp [ans]) rfl (by simp [-List.map_map, Val.wf, wfL, ans]) (by simp [-List.map_map, Val.ren, renL, nm, ans]) ?_
    exact ⟨rfl, some k, .inl ⟨k, ho, rfl⟩, rfl⟩
  | none =>
    simp only [ans]
    simp only [merge, place, after, nm, MG, Val.ren, renL, AObj.ren, reduceIte, Nat.reduceLT, Nat.reduceAdd, Nat.reduceSub, Nat.lt_irrefl, Nat.zero_lt_one, Nat.zero_lt_succ, MB_ren]
    repeat (first
    | ((first | (with_reducible first | apply Aa | apply Ab | apply Ac | apply Ad | apply Ae | apply Af | apply Na | apply Nb) | ((with_reducible first | apply Ag | apply Ah | apply Nc); · (simp only [go_sem, reduceIte, Nat.reduceEqDiff]; (try with_reducible exact rfl)))); · (simp only [go_sem, Int.reduceBEq, Int.reduceBNe, Int.reduceLT, Int.reduceLE, Int.reduceAdd, Int.reduceSub, Int.reduceToNat, reduceIte, Nat.reduceEqDiff, Nat.reduceAdd, Nat.reduceMul, Nat.reduceLeDiff, Nat.reduceSub, reduceCtorEq]; (try simp (disch := omega) only [OM, mn_lo, mn_hi, mx_lo, mx_hi, if_yes, if_no, Option.map_some]); (try with_reducible exact rfl)))
    | ((with_reducible first | apply Ba | apply Bb | apply Bc | apply Bd | apply Be | apply Nd); · (simp only [go_sem, reduceIte, Nat.reduceEqDiff]; (try with_reducible exact rfl))) | ((with_reducible first | apply Ca | apply Cb | apply Cc | apply Cd | apply Ce | apply Ne); · (simp only [go_sem, reduceIte, Nat.reduceEqDiff]; (try with_reducible exact rfl)))
    | ((with_reducible first | apply Dg | apply Dh); (· decide +kernel); (· (simp only [inOrd, List.getElem?_cons_succ, List.getElem?_cons_zero]; exact rfl)))
    | ((with_reducible first | apply De | apply Df); (· decide +kernel); (· (simp only [inOrd, List.getElem?_cons_succ, List.getElem?_cons_zero]; exact rfl)))
    | (with_reducible first | apply Ea | apply Eb | apply Ec | apply Ed | apply Ee | apply Ef | apply Eg | apply Eh | apply Ei | apply Ej | apply Ek | apply El | apply Em | apply En | apply Eo) | ((with_reducible apply Ep); · rfl))
    (first | ((with_reducible apply RunP.call); (· (simp only [go_sem, reduceIte, Nat.reduceEqDiff]; (try with_reducible exact rfl))); (· (simp only [go_sem, reduceIte, Nat.reduceEqDiff]; (try with_reducible exact rfl)))) | ((with_reducible apply Run.call); (· (simp only [go_sem, reduceIte, Nat.reduceEqDiff]; (try with_reducible exact rfl))); (· (simp only [go_sem, reduceIte, Nat.reduceEqDiff]; (try with_reducible exact rfl)))) | ((with_reducible apply Run.callY); (· (simp only [go_sem, reduceIte, Nat.reduceEqDiff]; (try with_reducible exact rfl))); (· (simp only [go_sem, reduceIte, Nat.reduceEqDiff]; (try with_reducible exact rfl))); (· (simp only [go_sem, reduceIte, Nat.reduceEqDiff]; (try with_reducible exact rfl)))) | ((with_reducible apply RunP.callY); (· (simp only [go_sem, reduceIte, Nat.reduceEqDiff]; (try with_reducible exact rfl))); (· (simp only [go_sem, reduceIte, Nat.reduceEqDiff]; (try with_reducible exact rfl))); (· (simp only [go_sem, reduceIte, Nat.reduceEqDiff]; (try with_reducible exact rfl)))) | ((with_reducible apply Run.call0); (· (simp only [go_sem, reduceIte, Nat.reduceEqDiff]; (try with_reducible exact rfl))); (· (simp only [go_sem, reduceIte, Nat.reduceEqDiff]; (try with_reducible exact rfl)))))
    refine sound_use (rnext_c p n hn hb 0) [0] rfl (by decide) (by simp [-List.map_map, embAt, nm, AObj.ren, renL, Val.ren, nc0]) (by simp [-List.map_map, wfAll, AObj.wf, wfL, Val.wf, nc0]) (by simp [-List.map_map, Val.wf, wfL, nc0]) (by simp [-List.map_map, Val.ren, renL, nm, nc0]) ?_
    rintro v C' ⟨rfl, o, ho2, rfl⟩
    rw [ans_eq]
    simp only [merge, place, after, nm, MG, Val.ren, renL, AObj.ren, reduceIte, Nat.reduceLT, Nat.reduceAdd, Nat.reduceSub, Nat.lt_irrefl, Nat.zero_lt_one, Nat.zero_lt_succ, MB_ren]
    repeat (first
    | ((first | (with_reducible first | apply Aa | apply Ab | apply Ac | apply Ad | apply Ae | apply Af | apply Na | apply Nb) | ((with_reducible first | apply Ag | apply Ah | apply Nc); · (simp only [go_sem, reduceIte, Nat.reduceEqDiff]; (try with_reducible exact rfl)))); · (simp only [go_sem, Int.reduceBEq, Int.reduceBNe, Int.reduceLT, Int.reduceLE, Int.reduceAdd, Int.reduceSub, Int.reduceToNat, reduceIte, Nat.reduceEqDiff, Nat.reduceAdd, Nat.reduceMul, Nat.reduceLeDiff, Nat.reduceSub, reduceCtorEq]; (try simp (disch := omega) only [OM, mn_lo, mn_hi, mx_lo, mx_hi, if_yes, if_no, Option.map_some]); (try with_reducible exact rfl)))
    | ((with_reducible first | apply Ba | apply Bb | apply Bc | apply Bd | apply Be | apply Nd); · (simp only [go_sem, reduceIte, Nat.reduceEqDiff]; (try with_reducible exact rfl))) | ((with_reducible first | apply Ca | apply Cb | apply Cc | apply Cd | apply Ce | apply Ne); · (simp only [go_sem, reduceIte, Nat.reduceEqDiff]; (try with_reducible exact rfl)))
    | ((with_reducible first | apply Dg | apply Dh); (· decide +kernel); (· (simp only [inOrd, List.getElem?_cons_succ, List.getElem?_cons_zero]; exact rfl)))
    | ((with_reducible first | apply De | apply Df); (· decide +kernel); (· (simp only [inOrd, List.getElem?_cons_succ, List.getElem?_cons_zero]; exact rfl)))
    | (with_reducible first | apply Ea | apply Eb | apply Ec | apply Ed | apply Ee | apply Ef | apply Eg | apply Eh | apply Ei | apply Ej | apply Ek | apply El | apply Em | apply En | apply Eo) | ((with_reducible apply Ep); · rfl))
    refine told [0] [.rw (MB p n)] (ans o) (by simp [ans_eq] <;> fail) (by decide) (by simp [-List.map_map, embAt, nm, AObj.ren, renL, Val.ren, ans_eq]) (by simp [-List.map_map, wfAll, AObj.wf, wfL, Val.wf, ans_eq]) (by simp [ans_eq]) rfl (by simp [-List.map_map, Val.wf, wfL, ans_eq]) (by simp [-List.map_map, Val.ren, renL, nm, ans_eq]) ?_
    exact ⟨rfl, o, .inr ⟨ho, ho2⟩, rfl⟩
def RAInv (p : Nat → Bool) (n c : Nat) (ρ : Env) (H : Heap) : Prop :=
  ∃ a : Nat, c + a = n ∧ AnewS 1 ([.rw (MB p n), .rw [.sl 0 0 n 1]] ++ iH (upto p a)) [(1, .p 1 0), (3, iV 2 (upto p a)), (4, .i .i64 a)] ρ H
theorem rall_c (p : Nat → Bool) (n : Nat) (hn : n ≤ 65536) : SoundM Tryd.prog 1 23 [.agg [.sl 0 0 n 1]] [.rw (MB p n)] (fun v H' => v = iV 1 (upto p n) ∧ H' = [.rw (MB p n)] ++ iH (upto p n)) := by
  refine sound_told (sound_func Tryd.func23 c23 rfl (by simp) ?_)
  simp only [e23]
  repeat (first
    | ((first | (with_reducible first | apply Aa | apply Ab | apply Ac | apply Ad | apply Ae | apply Af | apply Na | apply Nb) | ((with_reducible first | apply Ag | apply Ah | apply Nc); · (simp only [go_sem, reduceIte, Nat.reduceEqDiff]; (try with_reducible exact rfl)))); · (simp only [go_sem, Int.reduceBEq, Int.reduceBNe, Int.reduceLT, Int.reduceLE, Int.reduceAdd, Int.reduceSub, Int.reduceToNat, reduceIte, Nat.reduceEqDiff, Nat.reduceAdd, Nat.reduceMul, Nat.reduceLeDiff, Nat.reduceSub, reduceCtorEq]; (try simp (disch := omega) only [OM, mn_lo, mn_hi, mx_lo, mx_hi, if_yes, if_no, Option.map_some]); (try with_reducible exact rfl)))
    | ((with_reducible first | apply Ba | apply Bb | apply Bc | apply Bd | apply Be | apply Nd); · (simp only [go_sem, reduceIte, Nat.reduceEqDiff]; (try with_reducible exact rfl))) | ((with_reducible first | apply Ca | apply Cb | apply Cc | apply Cd | apply Ce | apply Ne); · (simp only [go_sem, reduceIte, Nat.reduceEqDiff]; (try with_reducible exact rfl)))
    | ((with_reducible first | apply Dg | apply Dh); (· decide +kernel); (· (simp only [inOrd, List.getElem?_cons_succ, List.getElem?_cons_zero]; exact rfl)))
    | ((with_reducible first | apply De | apply Df); (· decide +kernel); (· (simp only [inOrd, List.getElem?_cons_succ, List.getElem?_cons_zero]; exact rfl)))
    | (with_reducible first | apply Ea | apply Eb | apply Ec | apply Ed | apply Ee | apply Ef | apply Eg | apply Eh | apply Ei | apply Ej | apply Ek | apply El | apply Em | apply En | apply Eo) | ((with_reducible apply Ep); · rfl))
  refine ei_loop (RAInv p n) (n := n) ?_ ?_
  · refine ⟨0, rfl, ?_⟩
    refine anew [0, 1] (by simp [upto, iH, iV] <;> fail) (by decide) (by simp [-List.map_map, embAt, nm, AObj.ren, renL, Val.ren, upto, iH, iV]) (by simp [-List.map_map, wfAll, AObj.wf, wfL, Val.wf, upto, iH, iV]) (by simp [upto, iH, iV]) rfl (by simp [-List.map_map, Val.wf, wfL, upto, iH, iV]) (by simp [-List.map_map, Env.get, Val.ren, renL, nm, initEnv, upto, iH, iV])
  · rintro c ρ H ⟨a, hc, ha⟩
    refine ei_anewS ha ?_
    clear ha
    have hul := upto_len p a
    have hup := upto_succ p a
    by_cases hu : upto p a = []
    · simp only [iH, iV, hu, if_true, if_false, List.append_nil]
      by_cases h1 : (a : Int) < n
      · have h1' : a < n := by omega
        cases hp : p a
        · rw [hp, if_neg (by simp)] at hup
          repeat (first
    | ((first | (with_reducible first | apply Aa | apply Ab | apply Ac | apply Ad | apply Ae | apply Af | apply Na | apply Nb) | ((with_reducible first | apply Ag | apply Ah | apply Nc); · (simp only [go_sem, reduceIte, Nat.reduceEqDiff, decide_t h1, Int.toNat_natCast, Nat.mul_one, MB_get, hp]; (try with_reducible exact rfl)))); · (simp only [go_sem, Int.reduceBEq, Int.reduceBNe, Int.reduceLT, Int.reduceLE, Int.reduceAdd, Int.reduceSub, Int.reduceToNat, reduceIte, Nat.reduceEqDiff, Nat.reduceAdd, Nat.reduceMul, Nat.reduceLeDiff, Nat.reduceSub, reduceCtorEq, decide_t h1, Int.toNat_natCast, Nat.mul_one, MB_get, hp]; (try simp (disch := omega) only [OM, mn_lo, mn_hi, mx_lo, mx_hi, if_yes, if_no, Option.map_some, decide_t h1, Int.toNat_natCast, Nat.mul_one, MB_get, hp]); (try with_reducible exact rfl)))
    | ((with_reducible first | apply Ba | apply Bb | apply Bc | apply Bd | apply Be | apply Nd); · (simp only [go_sem, reduceIte, Nat.reduceEqDiff, decide_t h1, Int.toNat_natCast, Nat.mul_one, MB_get, hp]; (try with_reducible exact rfl))) | ((with_reducible first | apply Ca | apply Cb | apply Cc | apply Cd | apply Ce | apply Ne); · (simp only [go_sem, reduceIte, Nat.reduceEqDiff, decide_t h1, Int.toNat_natCast, Nat.mul_one, MB_get, hp]; (try with_reducible exact rfl)))
    | ((with_reducible first | apply Dg | apply Dh); (· decide +kernel); (· (simp only [inOrd, List.getElem?_cons_succ, List.getElem?_cons_zero]; exact rfl)))
    | ((with_reducible first | apply De | apply Df); (· decide +kernel); (· (simp only [inOrd, List.getElem?_cons_succ, List.getElem?_cons_zero]; exact rfl)))
    | (with_reducible first | apply Ea | apply Eb | apply Ec | apply Ed | apply Ee | apply Ef | apply Eg | apply Eh | apply Ei | apply Ej | apply Ek | apply El | apply Em | apply En | apply Eo) | ((with_reducible apply Ep); · rfl))
          refine ⟨c - 1, by omega, a + 1, by omega, ?_⟩
          refine anew [0, 1] (by simp [iH, iV, hup, hu] <;> fail) (by decide) (by simp [-List.map_map, embAt, nm, AObj.ren, renL, Val.ren, iH, iV, hup, hu]) (by simp [-List.map_map, wfAll, AObj.wf, wfL, Val.wf, iH, iV, hup, hu]) (by simp [iH, iV, hup, hu]) rfl (by simp [-List.map_map, Val.wf, wfL, iH, iV, hup, hu]) (by simp [-List.map_map, Env.get, Val.ren, renL, nm, initEnv, iH, iV, hup, hu])
        · rw [hp, if_pos rfl] at hup
          repeat (first
    | ((first | (with_reducible first | apply Aa | apply Ab | apply Ac | apply Ad | apply Ae | apply Af | apply Na | apply Nb) | ((with_reducible first | apply Ag | apply Ah | apply Nc); · (simp only [go_sem, reduceIte, Nat.reduceEqDiff, decide_t h1, Int.toNat_natCast, Nat.mul_one, MB_get, hp]; (try with_reducible exact rfl)))); · (simp only [go_sem, Int.reduceBEq, Int.reduceBNe, Int.reduceLT, Int.reduceLE, Int.reduceAdd, Int.reduceSub, Int.reduceToNat, reduceIte, Nat.reduceEqDiff, Nat.reduceAdd, Nat.reduceMul, Nat.reduceLeDiff, Nat.reduceSub, reduceCtorEq, decide_t h1, Int.toNat_natCast, Nat.mul_one, MB_get, hp]; (try simp (disch := omega) only [OM, mn_lo, mn_hi, mx_lo, mx_hi, if_yes, if_no, Option.map_some, decide_t h1, Int.toNat_natCast, Nat.mul_one, MB_get, hp]); (try with_reducible exact rfl)))
    | ((with_reducible first | apply Ba | apply Bb | apply Bc | apply Bd | apply Be | apply Nd); · (simp only [go_sem, reduceIte, Nat.reduceEqDiff, decide_t h1, Int.toNat_natCast, Nat.mul_one, MB_get, hp]; (try with_reducible exact rfl))) | ((with_reducible first | apply Ca | apply Cb | apply Cc | apply Cd | apply Ce | apply Ne); · (simp only [go_sem, reduceIte, Nat.reduceEqDiff, decide_t h1, Int.toNat_natCast, Nat.mul_one, MB_get, hp]; (try with_reducible exact rfl)))
    | ((with_reducible first | apply Dg | apply Dh); (· decide +kernel); (· (simp only [inOrd, List.getElem?_cons_succ, List.getElem?_cons_zero]; exact rfl)))
    | ((with_reducible first | apply De | apply Df); (· decide +kernel); (· (simp only [inOrd, List.getElem?_cons_succ, List.getElem?_cons_zero]; exact rfl)))
    | (with_reducible first | apply Ea | apply Eb | apply Ec | apply Ed | apply Ee | apply Ef | apply Eg | apply Eh | apply Ei | apply Ej | apply Ek | apply El | apply Em | apply En | apply Eo) | ((with_reducible apply Ep); · rfl))
          refine ⟨c - 1, by omega, a + 1, by omega, ?_⟩
          refine anew [0, 1, 3] (by simp [iH, iV, hup, hu] <;> fail) (by decide) (by simp [-List.map_map, embAt, nm, AObj.ren, renL, Val.ren, iH, iV, hup, hu]) (by simp [-List.map_map, wfAll, AObj.wf, wfL, Val.wf, iH, iV, hup, hu]) (by simp [iH, iV, hup, hu]) rfl (by simp [-List.map_map, Val.wf, wfL, iH, iV, hup, hu]) (by simp [-List.map_map, Env.get, Val.ren, renL, nm, initEnv, iH, iV, hup, hu])
      · have ha : a = n := by omega
        subst ha
        repeat (first
    | ((first | (with_reducible first | apply Aa | apply Ab | apply Ac | apply Ad | apply Ae | apply Af | apply Na | apply Nb) | ((with_reducible first | apply Ag | apply Ah | apply Nc); · (simp only [go_sem, reduceIte, Nat.reduceEqDiff, decide_f h1]; (try with_reducible exact rfl)))); · (simp only [go_sem, Int.reduceBEq, Int.reduceBNe, Int.reduceLT, Int.reduceLE, Int.reduceAdd, Int.reduceSub, Int.reduceToNat, reduceIte, Nat.reduceEqDiff, Nat.reduceAdd, Nat.reduceMul, Nat.reduceLeDiff, Nat.reduceSub, reduceCtorEq, decide_f h1]; (try simp (disch := omega) only [OM, mn_lo, mn_hi, mx_lo, mx_hi, if_yes, if_no, Option.map_some, decide_f h1]); (try with_reducible exact rfl)))
    | ((with_reducible first | apply Ba | apply Bb | apply Bc | apply Bd | apply Be | apply Nd); · (simp only [go_sem, reduceIte, Nat.reduceEqDiff, decide_f h1]; (try with_reducible exact rfl))) | ((with_reducible first | apply Ca | apply Cb | apply Cc | apply Cd | apply Ce | apply Ne); · (simp only [go_sem, reduceIte, Nat.reduceEqDiff, decide_f h1]; (try with_reducible exact rfl)))
    | ((with_reducible first | apply Dg | apply Dh); (· decide +kernel); (· (simp only [inOrd, List.getElem?_cons_succ, List.getElem?_cons_zero]; exact rfl)))
    | ((with_reducible first | apply De | apply Df); (· decide +kernel); (· (simp only [inOrd, List.getElem?_cons_succ, List.getElem?_cons_zero]; exact rfl)))
    | (with_reducible first | apply Ea | apply Eb | apply Ec | apply Ed | apply Ee | apply Ef | apply Eg | apply Eh | apply Ei | apply Ej | apply Ek | apply El | apply Em | apply En | apply Eo) | ((with_reducible apply Ep); · rfl))
        refine told [0] ([.rw (MB p a)] ++ iH (upto p a)) (iV 1 (upto p a)) (by simp [iH, iV, hu] <;> fail) (by decide) (by simp [-List.map_map, embAt, nm, AObj.ren, renL, Val.ren, iH, iV, hu]) (by simp [-List.map_map, wfAll, AObj.wf, wfL, Val.wf, iH, iV, hu]) (by simp [iH, iV, hu]) rfl (by simp [-List.map_map, Val.wf, wfL, iH, iV, hu]) (by simp [-List.map_map, Val.ren, renL, nm, iH, iV, hu]) ?_
        exact ⟨rfl, rfl⟩
    · simp only [iH, iV, hu, if_true, if_false, List.cons_append, List.nil_append]
      by_cases h1 : (a : Int) < n
      · have h1' : a < n := by omega
        cases hp : p a
        · rw [hp, if_neg (by simp)] at hup
          repeat (first
    | ((first | (with_reducible first | apply Aa | apply Ab | apply Ac | apply Ad | apply Ae | apply Af | apply Na | apply Nb) | ((with_reducible first | apply Ag | apply Ah | apply Nc); · (simp only [go_sem, reduceIte, Nat.reduceEqDiff, decide_t h1, Int.toNat_natCast, Nat.mul_one, MB_get, hp]; (try with_reducible exact rfl)))); · (simp only [go_sem, Int.reduceBEq, Int.reduceBNe, Int.reduceLT, Int.reduceLE, Int.reduceAdd, Int.reduceSub, Int.reduceToNat, reduceIte, Nat.reduceEqDiff, Nat.reduceAdd, Nat.reduceMul, Nat.reduceLeDiff, Nat.reduceSub, reduceCtorEq, decide_t h1, Int.toNat_natCast, Nat.mul_one, MB_get, hp]; (try simp (disch := omega) only [OM, mn_lo, mn_hi, mx_lo, mx_hi, if_yes, if_no, Option.map_some, decide_t h1, Int.toNat_natCast, Nat.mul_one, MB_get, hp]); (try with_reducible exact rfl)))
    | ((with_reducible first | apply Ba | apply Bb | apply Bc | apply Bd | apply Be | apply Nd); · (simp only [go_sem, reduceIte, Nat.reduceEqDiff, decide_t h1, Int.toNat_natCast, Nat.mul_one, MB_get, hp]; (try with_reducible exact rfl))) | ((with_reducible first | apply Ca | apply Cb | apply Cc | apply Cd | apply Ce | apply Ne); · (simp only [go_sem, reduceIte, Nat.reduceEqDiff, decide_t h1, Int.toNat_natCast, Nat.mul_one, MB_get, hp]; (try with_reducible exact rfl)))
    | ((with_reducible first | apply Dg | apply Dh); (· decide +kernel); (· (simp only [inOrd, List.getElem?_cons_succ, List.getElem?_cons_zero]; exact rfl)))
    | ((with_reducible first | apply De | apply Df); (· decide +kernel); (· (simp only [inOrd, List.getElem?_cons_succ, List.getElem?_cons_zero]; exact rfl)))
    | (with_reducible first | apply Ea | apply Eb | apply Ec | apply Ed | apply Ee | apply Ef | apply Eg | apply Eh | apply Ei | apply Ej | apply Ek | apply El | apply Em | apply En | apply Eo) | ((with_reducible apply Ep); · rfl))
          refine ⟨c - 1, by omega, a + 1, by omega, ?_⟩
          refine anew [0, 1, 2] (by simp [iH, iV, hup, hu] <;> fail) (by decide) (by simp [-List.map_map, embAt, nm, AObj.ren, renL, Val.ren, iH, iV, hup, hu]) (by simp [-List.map_map, wfAll, AObj.wf, wfL, Val.wf, iH, iV, hup, hu]) (by simp [iH, iV, hup, hu]) rfl (by simp [-List.map_map, Val.wf, wfL, iH, iV, hup, hu]) (by simp [-List.map_map, Env.get, Val.ren, renL, nm, initEnv, iH, iV, hup, hu])
        · rw [hp, if_pos rfl] at hup
          repeat (first
    | ((first | (with_reducible first | apply Aa | apply Ab | apply Ac | apply Ad | apply Ae | apply Af | apply Na | apply Nb) | ((with_reducible first | apply Ag | apply Ah | apply Nc); · (simp only [go_sem, reduceIte, Nat.reduceEqDiff, decide_t h1, Int.toNat_natCast, Nat.mul_one, MB_get, hp, take_i64, List.length_map]; (try with_reducible exact rfl)))); · (simp only [go_sem, Int.reduceBEq, Int.reduceBNe, Int.reduceLT, Int.reduceLE, Int.reduceAdd, Int.reduceSub, Int.reduceToNat, reduceIte, Nat.reduceEqDiff, Nat.reduceAdd, Nat.reduceMul, Nat.reduceLeDiff, Nat.reduceSub, reduceCtorEq, decide_t h1, Int.toNat_natCast, Nat.mul_one, MB_get, hp, take_i64, List.length_map]; (try simp (disch := omega) only [OM, mn_lo, mn_hi, mx_lo, mx_hi, if_yes, if_no, Option.map_some, decide_t h1, Int.toNat_natCast, Nat.mul_one, MB_get, hp, take_i64, List.length_map]); (try with_reducible exact rfl)))
    | ((with_reducible first | apply Ba | apply Bb | apply Bc | apply Bd | apply Be | apply Nd); · (simp only [go_sem, reduceIte, Nat.reduceEqDiff, decide_t h1, Int.toNat_natCast, Nat.mul_one, MB_get, hp, take_i64, List.length_map]; (try with_reducible exact rfl))) | ((with_reducible first | apply Ca | apply Cb | apply Cc | apply Cd | apply Ce | apply Ne); · (simp only [go_sem, reduceIte, Nat.reduceEqDiff, decide_t h1, Int.toNat_natCast, Nat.mul_one, MB_get, hp, take_i64, List.length_map]; (try with_reducible exact rfl)))
    | ((with_reducible first | apply Dg | apply Dh); (· decide +kernel); (· (simp only [inOrd, List.getElem?_cons_succ, List.getElem?_cons_zero]; exact rfl)))
    | ((with_reducible first | apply De | apply Df); (· decide +kernel); (· (simp only [inOrd, List.getElem?_cons_succ, List.getElem?_cons_zero]; exact rfl)))
    | (with_reducible first | apply Ea | apply Eb | apply Ec | apply Ed | apply Ee | apply Ef | apply Eg | apply Eh | apply Ei | apply Ej | apply Ek | apply El | apply Em | apply En | apply Eo) | ((with_reducible apply Ep); · rfl))
          refine ⟨c - 1, by omega, a + 1, by omega, ?_⟩
          refine anew [0, 1, 4] (by simp [iH, iV, hup, hu, renL_append, wfL_append] <;> fail) (by decide) (by simp [-List.map_map, embAt, nm, AObj.ren, renL, Val.ren, iH, iV, hup, hu, renL_append, wfL_append]) (by simp [-List.map_map, wfAll, AObj.wf, wfL, Val.wf, iH, iV, hup, hu, renL_append, wfL_append]) (by simp [iH, iV, hup, hu, renL_append, wfL_append]) rfl (by simp [-List.map_map, Val.wf, wfL, iH, iV, hup, hu, renL_append, wfL_append]) (by simp [-List.map_map, Env.get, Val.ren, renL, nm, initEnv, iH, iV, hup, hu, renL_append, wfL_append])
      · have ha : a = n := by omega
        subst ha
        repeat (first
    | ((first | (with_reducible first | apply Aa | apply Ab | apply Ac | apply Ad | apply Ae | apply Af | apply Na | apply Nb) | ((with_reducible first | apply Ag | apply Ah | apply Nc); · (simp only [go_sem, reduceIte, Nat.reduceEqDiff, decide_f h1]; (try with_reducible exact rfl)))); · (simp only [go_sem, Int.reduceBEq, Int.reduceBNe, Int.reduceLT, Int.reduceLE, Int.reduceAdd, Int.reduceSub, Int.reduceToNat, reduceIte, Nat.reduceEqDiff, Nat.reduceAdd, Nat.reduceMul, Nat.reduceLeDiff, Nat.reduceSub, reduceCtorEq, decide_f h1]; (try simp (disch := omega) only [OM, mn_lo, mn_hi, mx_lo, mx_hi, if_yes, if_no, Option.map_some, decide_f h1]); (try with_reducible exact rfl)))
    | ((with_reducible first | apply Ba | apply Bb | apply Bc | apply Bd | apply Be | apply Nd); · (simp only [go_sem, reduceIte, Nat.reduceEqDiff, decide_f h1]; (try with_reducible exact rfl))) | ((with_reducible first | apply Ca | apply Cb | apply Cc | apply Cd | apply Ce | apply Ne); · (simp only [go_sem, reduceIte, Nat.reduceEqDiff, decide_f h1]; (try with_reducible exact rfl)))
    | ((with_reducible first | apply Dg | apply Dh); (· decide +kernel); (· (simp only [inOrd, List.getElem?_cons_succ, List.getElem?_cons_zero]; exact rfl)))
    | ((with_reducible first | apply De | apply Df); (· decide +kernel); (· (simp only [inOrd, List.getElem?_cons_succ, List.getElem?_cons_zero]; exact rfl)))
    | (with_reducible first | apply Ea | apply Eb | apply Ec | apply Ed | apply Ee | apply Ef | apply Eg | apply Eh | apply Ei | apply Ej | apply Ek | apply El | apply Em | apply En | apply Eo) | ((with_reducible apply Ep); · rfl))
        refine told [0, 2] ([.rw (MB p a)] ++ iH (upto p a)) (iV 1 (upto p a)) (by simp [iH, iV, hu] <;> fail) (by decide) (by simp [-List.map_map, embAt, nm, AObj.ren, renL, Val.ren, iH, iV, hu]) (by simp [-List.map_map, wfAll, AObj.wf, wfL, Val.wf, iH, iV, hu]) (by simp [iH, iV, hu]) rfl (by simp [-List.map_map, Val.wf, wfL, iH, iV, hu]) (by simp [-List.map_map, Val.ren, renL, nm, iH, iV, hu]) ?_
        exact ⟨rfl, rfl⟩
end Go.Proofs.YtphlceiachdneaaDoor.IR
