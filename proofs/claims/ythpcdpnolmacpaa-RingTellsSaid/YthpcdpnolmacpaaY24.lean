/- This text of a proof shows: what the document's Put and Done of a ring come to. -/
import Derived.Test.YthpcdpnolmacpaaX24
set_option linter.unusedVariables false
set_option linter.unusedSimpArgs false
set_option linter.constructorNameAsVariable false
namespace Go.Proofs.Ythpcdpnolmacpaa.IR
open Go Go.Proofs.Ythpcdpnolmacpaa.Ev Go.Proofs.Ythpcdpnolmacpaa.Ext
set_option linter.unusedSimpArgs false
set_option linter.unusedVariables false
set_option maxHeartbeats 4000000
attribute [local go_sem] skipV nc0 nc1 nc2 nc3 bne_self_eq_false decide_true decide_false IOp.step Opd.ev Env.get initEnv Val.cells? Val.one List.all_cons List.all_nil Bool.and_true Bool.and_self Bool.true_and bin ints eqv Val.kindNo lenNo_s lenNo_nils lenNo_sl lenNo_nilm lenNo_m lenOf_s lenOf_nils lenOf_sl lenOf_nilm unary mxs mx2 partsOf padTo List.foldl_cons List.foldl_nil wr_nil wr_step wr_zero List.set_cons_zero List.set_cons_succ List.map_cons List.map_nil z1 z2 Nat.succ_ne_zero List.length_cons List.length_nil List.cons_append List.nil_append List.append_nil List.getElem?_cons_zero List.getElem?_cons_succ List.getElem?_nil Option.map_some Option.map_none Nat.zero_add Nat.add_zero List.drop_zero List.drop_succ_cons List.take_succ_cons List.take_zero List.take_nil and_self and_true true_and Nat.le_refl Bool.not_true Bool.not_false Option.getD_some window Val.slen bnd resV resL RV.val Bool.false_eq_true BEq.rfl Bool.true_beq Bool.false_beq beq_true beq_false mk_one ite_true ite_false eqc ceqs ceq
theorem rnew_c (room rate : Int) (H : Heap) : SoundCall Try.prog 21 [.i .i64 room, .i .u64 rate] H (fun v H' => v = .tup [.agg [.i .i64 room, .i .u64 rate, .nils, .i .i64 0, .i .u64 0, .b false], .b (decide (1 ≤ room ∧ room ≤ 4096))] ∧ H' = H) := by
  refine sound_pure rfl (by rintro v rfl; rfl) ?_ H
  refine sound_func Try.func21 c21 rfl (by simp) ?_
  simp only [e21]
  by_cases h1 : room ≥ 1
  · by_cases h2 : room ≤ 4096
    · repeat (first
    | ((first | (with_reducible first | apply Aa | apply Ab | apply Ac | apply Ad | apply Ae | apply Af) | ((with_reducible first | apply Ag | apply Ah); · (simp only [go_sem, reduceIte, Nat.reduceEqDiff, decide_t h1, decide_t h2]; (try with_reducible exact rfl)))); · (simp only [go_sem, Int.reduceBEq, Int.reduceBNe, Int.reduceLT, Int.reduceLE, Int.reduceAdd, Int.reduceSub, Int.reduceToNat, reduceIte, Nat.reduceEqDiff, Nat.reduceAdd, Nat.reduceMul, Nat.reduceLeDiff, Nat.reduceSub, reduceCtorEq, decide_t h1, decide_t h2]; (try simp (disch := omega) only [OM, if_yes, if_no, Option.map_some, decide_t h1, decide_t h2]); (try with_reducible exact rfl)))
    | ((with_reducible first | apply Ba | apply Bb | apply Bc | apply Bd | apply Be); · (simp only [go_sem, reduceIte, Nat.reduceEqDiff, decide_t h1, decide_t h2]; (try with_reducible exact rfl))) | ((with_reducible first | apply Ca | apply Cb | apply Cc | apply Cd | apply Ce); · (simp only [go_sem, reduceIte, Nat.reduceEqDiff, decide_t h1, decide_t h2]; (try with_reducible exact rfl)))
    | ((with_reducible first | apply Dg | apply Dh); (· decide +kernel); (· (simp only [inOrd, List.getElem?_cons_succ, List.getElem?_cons_zero]; exact rfl)))
    | ((with_reducible first | apply De | apply Df); (· decide +kernel); (· (simp only [inOrd, List.getElem?_cons_succ, List.getElem?_cons_zero]; exact rfl)))
    | (with_reducible first | apply Ea | apply Eb | apply Ec | apply Ed | apply Ee | apply Ef | apply Eg | apply Eh | apply Ei | apply Ej | apply Ek | apply El | apply Em | apply En | apply Eo) | ((with_reducible apply Ep); · rfl))
      rw [decide_t (p := 1 ≤ room ∧ room ≤ 4096) ⟨h1, h2⟩]
    · repeat (first
    | ((first | (with_reducible first | apply Aa | apply Ab | apply Ac | apply Ad | apply Ae | apply Af) | ((with_reducible first | apply Ag | apply Ah); · (simp only [go_sem, reduceIte, Nat.reduceEqDiff, decide_t h1, decide_f h2]; (try with_reducible exact rfl)))); · (simp only [go_sem, Int.reduceBEq, Int.reduceBNe, Int.reduceLT, Int.reduceLE, Int.reduceAdd, Int.reduceSub, Int.reduceToNat, reduceIte, Nat.reduceEqDiff, Nat.reduceAdd, Nat.reduceMul, Nat.reduceLeDiff, Nat.reduceSub, reduceCtorEq, decide_t h1, decide_f h2]; (try simp (disch := omega) only [OM, if_yes, if_no, Option.map_some, decide_t h1, decide_f h2]); (try with_reducible exact rfl)))
    | ((with_reducible first | apply Ba | apply Bb | apply Bc | apply Bd | apply Be); · (simp only [go_sem, reduceIte, Nat.reduceEqDiff, decide_t h1, decide_f h2]; (try with_reducible exact rfl))) | ((with_reducible first | apply Ca | apply Cb | apply Cc | apply Cd | apply Ce); · (simp only [go_sem, reduceIte, Nat.reduceEqDiff, decide_t h1, decide_f h2]; (try with_reducible exact rfl)))
    | ((with_reducible first | apply Dg | apply Dh); (· decide +kernel); (· (simp only [inOrd, List.getElem?_cons_succ, List.getElem?_cons_zero]; exact rfl)))
    | ((with_reducible first | apply De | apply Df); (· decide +kernel); (· (simp only [inOrd, List.getElem?_cons_succ, List.getElem?_cons_zero]; exact rfl)))
    | (with_reducible first | apply Ea | apply Eb | apply Ec | apply Ed | apply Ee | apply Ef | apply Eg | apply Eh | apply Ei | apply Ej | apply Ek | apply El | apply Em | apply En | apply Eo) | ((with_reducible apply Ep); · rfl))
      rw [decide_f (p := 1 ≤ room ∧ room ≤ 4096) (fun h => h2 h.2)]
  · repeat (first
    | ((first | (with_reducible first | apply Aa | apply Ab | apply Ac | apply Ad | apply Ae | apply Af) | ((with_reducible first | apply Ag | apply Ah); · (simp only [go_sem, reduceIte, Nat.reduceEqDiff, decide_f h1]; (try with_reducible exact rfl)))); · (simp only [go_sem, Int.reduceBEq, Int.reduceBNe, Int.reduceLT, Int.reduceLE, Int.reduceAdd, Int.reduceSub, Int.reduceToNat, reduceIte, Nat.reduceEqDiff, Nat.reduceAdd, Nat.reduceMul, Nat.reduceLeDiff, Nat.reduceSub, reduceCtorEq, decide_f h1]; (try simp (disch := omega) only [OM, if_yes, if_no, Option.map_some, decide_f h1]); (try with_reducible exact rfl)))
    | ((with_reducible first | apply Ba | apply Bb | apply Bc | apply Bd | apply Be); · (simp only [go_sem, reduceIte, Nat.reduceEqDiff, decide_f h1]; (try with_reducible exact rfl))) | ((with_reducible first | apply Ca | apply Cb | apply Cc | apply Cd | apply Ce); · (simp only [go_sem, reduceIte, Nat.reduceEqDiff, decide_f h1]; (try with_reducible exact rfl)))
    | ((with_reducible first | apply Dg | apply Dh); (· decide +kernel); (· (simp only [inOrd, List.getElem?_cons_succ, List.getElem?_cons_zero]; exact rfl)))
    | ((with_reducible first | apply De | apply Df); (· decide +kernel); (· (simp only [inOrd, List.getElem?_cons_succ, List.getElem?_cons_zero]; exact rfl)))
    | (with_reducible first | apply Ea | apply Eb | apply Ec | apply Ed | apply Ee | apply Ef | apply Eg | apply Eh | apply Ei | apply Ej | apply Ek | apply El | apply Em | apply En | apply Eo) | ((with_reducible apply Ep); · rfl))
    rw [decide_f (p := 1 ≤ room ∧ room ≤ 4096) (fun h => h1 h.1)]
def rl (A : List (Int × Int × Int)) : Val := if A = [] then .nils else .sl 0 0 A.length 3
def rh (A : List (Int × Int × Int)) : Heap := if A = [] then [] else [.rw (A.flatMap ev3)]
attribute [local simp] ev3_ren ev3_wf RR.cells
theorem rput_bad (x : RR) (L : Val) (hL : L = .nils ∨ L = .sl 0 0 x.A.length 3) (a n now : Int) (hn : n < 1 ∨ n > 65536) :
    SoundM Try.prog 1 23 [.agg (x.cells L), .i .u64 a, .i .i64 n, .i .u64 now] [.rw (x.A.flatMap ev3)] (fun v H' => v = .tup [.agg (x.cells L), .i .i64 2] ∧ H' = [.rw (x.A.flatMap ev3)]) := by
  rcases hL with rfl | rfl
  all_goals
    refine sound_told (sound_func Try.func23 c23 rfl (by simp) ?_)
    simp only [e23, RR.cells]
    by_cases h1 : n < 1
  · repeat (first
    | ((first | (with_reducible first | apply Aa | apply Ab | apply Ac | apply Ad | apply Ae | apply Af) | ((with_reducible first | apply Ag | apply Ah); · (simp only [go_sem, reduceIte, Nat.reduceEqDiff, decide_t h1]; (try with_reducible exact rfl)))); · (simp only [go_sem, Int.reduceBEq, Int.reduceBNe, Int.reduceLT, Int.reduceLE, Int.reduceAdd, Int.reduceSub, Int.reduceToNat, reduceIte, Nat.reduceEqDiff, Nat.reduceAdd, Nat.reduceMul, Nat.reduceLeDiff, Nat.reduceSub, reduceCtorEq, decide_t h1]; (try simp (disch := omega) only [OM, if_yes, if_no, Option.map_some, decide_t h1]); (try with_reducible exact rfl)))
    | ((with_reducible first | apply Ba | apply Bb | apply Bc | apply Bd | apply Be); · (simp only [go_sem, reduceIte, Nat.reduceEqDiff, decide_t h1]; (try with_reducible exact rfl))) | ((with_reducible first | apply Ca | apply Cb | apply Cc | apply Cd | apply Ce); · (simp only [go_sem, reduceIte, Nat.reduceEqDiff, decide_t h1]; (try with_reducible exact rfl)))
    | ((with_reducible first | apply Dg | apply Dh); (· decide +kernel); (· (simp only [inOrd, List.getElem?_cons_succ, List.getElem?_cons_zero]; exact rfl)))
    | ((with_reducible first | apply De | apply Df); (· decide +kernel); (· (simp only [inOrd, List.getElem?_cons_succ, List.getElem?_cons_zero]; exact rfl)))
    | (with_reducible first | apply Ea | apply Eb | apply Ec | apply Ed | apply Ee | apply Ef | apply Eg | apply Eh | apply Ei | apply Ej | apply Ek | apply El | apply Em | apply En | apply Eo) | ((with_reducible apply Ep); · rfl))
    refine told [0] [.rw (x.A.flatMap ev3)] (.tup [.agg (x.cells .nils), .i .i64 2]) (by simp [nc0]) (by decide) (by simp [-List.map_map, embAt, nm, AObj.ren, renL, Val.ren, nc0]) (by simp [-List.map_map, wfAll, AObj.wf, wfL, Val.wf, nc0]) (by simp [nc0]) rfl (by simp [-List.map_map, Val.wf, wfL, nc0]) (by simp [-List.map_map, Val.ren, renL, nm, nc0]) ?_
    exact ⟨rfl, rfl⟩
  · have h2 : n > 65536 := by omega
    repeat (first
    | ((first | (with_reducible first | apply Aa | apply Ab | apply Ac | apply Ad | apply Ae | apply Af) | ((with_reducible first | apply Ag | apply Ah); · (simp only [go_sem, reduceIte, Nat.reduceEqDiff, decide_f h1, decide_t h2]; (try with_reducible exact rfl)))); · (simp only [go_sem, Int.reduceBEq, Int.reduceBNe, Int.reduceLT, Int.reduceLE, Int.reduceAdd, Int.reduceSub, Int.reduceToNat, reduceIte, Nat.reduceEqDiff, Nat.reduceAdd, Nat.reduceMul, Nat.reduceLeDiff, Nat.reduceSub, reduceCtorEq, decide_f h1, decide_t h2]; (try simp (disch := omega) only [OM, if_yes, if_no, Option.map_some, decide_f h1, decide_t h2]); (try with_reducible exact rfl)))
    | ((with_reducible first | apply Ba | apply Bb | apply Bc | apply Bd | apply Be); · (simp only [go_sem, reduceIte, Nat.reduceEqDiff, decide_f h1, decide_t h2]; (try with_reducible exact rfl))) | ((with_reducible first | apply Ca | apply Cb | apply Cc | apply Cd | apply Ce); · (simp only [go_sem, reduceIte, Nat.reduceEqDiff, decide_f h1, decide_t h2]; (try with_reducible exact rfl)))
    | ((with_reducible first | apply Dg | apply Dh); (· decide +kernel); (· (simp only [inOrd, List.getElem?_cons_succ, List.getElem?_cons_zero]; exact rfl)))
    | ((with_reducible first | apply De | apply Df); (· decide +kernel); (· (simp only [inOrd, List.getElem?_cons_succ, List.getElem?_cons_zero]; exact rfl)))
    | (with_reducible first | apply Ea | apply Eb | apply Ec | apply Ed | apply Ee | apply Ef | apply Eg | apply Eh | apply Ei | apply Ej | apply Ek | apply El | apply Em | apply En | apply Eo) | ((with_reducible apply Ep); · rfl))
    refine told [0] [.rw (x.A.flatMap ev3)] (.tup [.agg (x.cells .nils), .i .i64 2]) (by simp [nc0]) (by decide) (by simp [-List.map_map, embAt, nm, AObj.ren, renL, Val.ren, nc0]) (by simp [-List.map_map, wfAll, AObj.wf, wfL, Val.wf, nc0]) (by simp [nc0]) rfl (by simp [-List.map_map, Val.wf, wfL, nc0]) (by simp [-List.map_map, Val.ren, renL, nm, nc0]) ?_
    exact ⟨rfl, rfl⟩
  · repeat (first
    | ((first | (with_reducible first | apply Aa | apply Ab | apply Ac | apply Ad | apply Ae | apply Af) | ((with_reducible first | apply Ag | apply Ah); · (simp only [go_sem, reduceIte, Nat.reduceEqDiff, decide_t h1]; (try with_reducible exact rfl)))); · (simp only [go_sem, Int.reduceBEq, Int.reduceBNe, Int.reduceLT, Int.reduceLE, Int.reduceAdd, Int.reduceSub, Int.reduceToNat, reduceIte, Nat.reduceEqDiff, Nat.reduceAdd, Nat.reduceMul, Nat.reduceLeDiff, Nat.reduceSub, reduceCtorEq, decide_t h1]; (try simp (disch := omega) only [OM, if_yes, if_no, Option.map_some, decide_t h1]); (try with_reducible exact rfl)))
    | ((with_reducible first | apply Ba | apply Bb | apply Bc | apply Bd | apply Be); · (simp only [go_sem, reduceIte, Nat.reduceEqDiff, decide_t h1]; (try with_reducible exact rfl))) | ((with_reducible first | apply Ca | apply Cb | apply Cc | apply Cd | apply Ce); · (simp only [go_sem, reduceIte, Nat.reduceEqDiff, decide_t h1]; (try with_reducible exact rfl)))
    | ((with_reducible first | apply Dg | apply Dh); (· decide +kernel); (· (simp only [inOrd, List.getElem?_cons_succ, List.getElem?_cons_zero]; exact rfl)))
    | ((with_reducible first | apply De | apply Df); (· decide +kernel); (· (simp only [inOrd, List.getElem?_cons_succ, List.getElem?_cons_zero]; exact rfl)))
    | (with_reducible first | apply Ea | apply Eb | apply Ec | apply Ed | apply Ee | apply Ef | apply Eg | apply Eh | apply Ei | apply Ej | apply Ek | apply El | apply Em | apply En | apply Eo) | ((with_reducible apply Ep); · rfl))
    refine told [0] [.rw (x.A.flatMap ev3)] (.tup [.agg (x.cells (.sl 0 0 x.A.length 3)), .i .i64 2]) (by simp [nc0]) (by decide) (by simp [-List.map_map, embAt, nm, AObj.ren, renL, Val.ren, nc0]) (by simp [-List.map_map, wfAll, AObj.wf, wfL, Val.wf, nc0]) (by simp [nc0]) rfl (by simp [-List.map_map, Val.wf, wfL, nc0]) (by simp [-List.map_map, Val.ren, renL, nm, nc0]) ?_
    exact ⟨rfl, rfl⟩
  · have h2 : n > 65536 := by omega
    repeat (first
    | ((first | (with_reducible first | apply Aa | apply Ab | apply Ac | apply Ad | apply Ae | apply Af) | ((with_reducible first | apply Ag | apply Ah); · (simp only [go_sem, reduceIte, Nat.reduceEqDiff, decide_f h1, decide_t h2]; (try with_reducible exact rfl)))); · (simp only [go_sem, Int.reduceBEq, Int.reduceBNe, Int.reduceLT, Int.reduceLE, Int.reduceAdd, Int.reduceSub, Int.reduceToNat, reduceIte, Nat.reduceEqDiff, Nat.reduceAdd, Nat.reduceMul, Nat.reduceLeDiff, Nat.reduceSub, reduceCtorEq, decide_f h1, decide_t h2]; (try simp (disch := omega) only [OM, if_yes, if_no, Option.map_some, decide_f h1, decide_t h2]); (try with_reducible exact rfl)))
    | ((with_reducible first | apply Ba | apply Bb | apply Bc | apply Bd | apply Be); · (simp only [go_sem, reduceIte, Nat.reduceEqDiff, decide_f h1, decide_t h2]; (try with_reducible exact rfl))) | ((with_reducible first | apply Ca | apply Cb | apply Cc | apply Cd | apply Ce); · (simp only [go_sem, reduceIte, Nat.reduceEqDiff, decide_f h1, decide_t h2]; (try with_reducible exact rfl)))
    | ((with_reducible first | apply Dg | apply Dh); (· decide +kernel); (· (simp only [inOrd, List.getElem?_cons_succ, List.getElem?_cons_zero]; exact rfl)))
    | ((with_reducible first | apply De | apply Df); (· decide +kernel); (· (simp only [inOrd, List.getElem?_cons_succ, List.getElem?_cons_zero]; exact rfl)))
    | (with_reducible first | apply Ea | apply Eb | apply Ec | apply Ed | apply Ee | apply Ef | apply Eg | apply Eh | apply Ei | apply Ej | apply Ek | apply El | apply Em | apply En | apply Eo) | ((with_reducible apply Ep); · rfl))
    refine told [0] [.rw (x.A.flatMap ev3)] (.tup [.agg (x.cells (.sl 0 0 x.A.length 3)), .i .i64 2]) (by simp [nc0]) (by decide) (by simp [-List.map_map, embAt, nm, AObj.ren, renL, Val.ren, nc0]) (by simp [-List.map_map, wfAll, AObj.wf, wfL, Val.wf, nc0]) (by simp [nc0]) rfl (by simp [-List.map_map, Val.wf, wfL, nc0]) (by simp [-List.map_map, Val.ren, renL, nm, nc0]) ?_
    exact ⟨rfl, rfl⟩
theorem rput_full (x : RR) (h : x.ok) (a n now : Int) (h1 : ¬ n < 1) (h2 : ¬ n > 65536) (hf : x.A.length - x.gone ≥ x.room) :
    SoundM Try.prog 1 23 [.agg (x.cells (.sl 0 0 x.A.length 3)), .i .u64 a, .i .i64 n, .i .u64 now] [.rw (x.A.flatMap ev3)] (fun v H' => v = .tup [.agg (x.cells (.sl 0 0 x.A.length 3)), .i .i64 4] ∧ H' = [.rw (x.A.flatMap ev3)]) := by
  have hl := h.len; have hg0 := h.g0; have hg1 := h.g1; have hr0 := h.room0; have hr1 := h.room1
  refine sound_told (sound_func Try.func23 c23 rfl (by simp) ?_)
  simp only [e23, RR.cells]
  repeat (first
    | ((first | (with_reducible first | apply Aa | apply Ab | apply Ac | apply Ad | apply Ae | apply Af) | ((with_reducible first | apply Ag | apply Ah); · (simp only [go_sem, reduceIte, Nat.reduceEqDiff, decide_f h1, decide_f h2, decide_t hf]; (try with_reducible exact rfl)))); · (simp only [go_sem, Int.reduceBEq, Int.reduceBNe, Int.reduceLT, Int.reduceLE, Int.reduceAdd, Int.reduceSub, Int.reduceToNat, reduceIte, Nat.reduceEqDiff, Nat.reduceAdd, Nat.reduceMul, Nat.reduceLeDiff, Nat.reduceSub, reduceCtorEq, decide_f h1, decide_f h2, decide_t hf]; (try simp (disch := omega) only [OM, if_yes, if_no, Option.map_some, decide_f h1, decide_f h2, decide_t hf]); (try with_reducible exact rfl)))
    | ((with_reducible first | apply Ba | apply Bb | apply Bc | apply Bd | apply Be); · (simp only [go_sem, reduceIte, Nat.reduceEqDiff, decide_f h1, decide_f h2, decide_t hf]; (try with_reducible exact rfl))) | ((with_reducible first | apply Ca | apply Cb | apply Cc | apply Cd | apply Ce); · (simp only [go_sem, reduceIte, Nat.reduceEqDiff, decide_f h1, decide_f h2, decide_t hf]; (try with_reducible exact rfl)))
    | ((with_reducible first | apply Dg | apply Dh); (· decide +kernel); (· (simp only [inOrd, List.getElem?_cons_succ, List.getElem?_cons_zero]; exact rfl)))
    | ((with_reducible first | apply De | apply Df); (· decide +kernel); (· (simp only [inOrd, List.getElem?_cons_succ, List.getElem?_cons_zero]; exact rfl)))
    | (with_reducible first | apply Ea | apply Eb | apply Ec | apply Ed | apply Ee | apply Ef | apply Eg | apply Eh | apply Ei | apply Ej | apply Ek | apply El | apply Em | apply En | apply Eo) | ((with_reducible apply Ep); · rfl))
  refine told [0] [.rw (x.A.flatMap ev3)] (.tup [.agg (x.cells (.sl 0 0 x.A.length 3)), .i .i64 4]) (by simp [nc0]) (by decide) (by simp [-List.map_map, embAt, nm, AObj.ren, renL, Val.ren, nc0]) (by simp [-List.map_map, wfAll, AObj.wf, wfL, Val.wf, nc0]) (by simp [nc0]) rfl (by simp [-List.map_map, Val.wf, wfL, nc0]) (by simp [-List.map_map, Val.ren, renL, nm, nc0]) ?_
  exact ⟨rfl, rfl⟩
attribute [local simp] recheck  preOf  guardOk  RItem.g  RItem.d  putv  IOp.step  IOp.sort  Opd.ev  Env.get  initEnv  Val.cells?  Val.one  wr_nil  wr_step  wr_zero  window  Val.slen  partsOf  padTo
theorem ev3_take (l : List (Int × Int × Int)) : (l.flatMap ev3).take (l.length * 3) = l.flatMap ev3 := List.take_of_length_le (by rw [ev3_flat]; exact Nat.le_refl _)
theorem rput_ok (x : RR) (h : x.ok) (a n now : Int) (hw : U now) (h1 : ¬ n < 1) (h2 : ¬ n > 65536) (hf : ¬ x.A.length - x.gone ≥ x.room) :
    SoundM Try.prog 1 23 [.agg (x.cells (.sl 0 0 x.A.length 3)), .i .u64 a, .i .i64 n, .i .u64 now] [.rw (x.A.flatMap ev3)] (fun v H' => v = .tup [.agg (RR.cells { x with clock := mxi x.clock now, shut := x.shut || ((x.A.length : Int) + 1 - x.gone == x.room) } (.sl 1 0 (x.A.length + 1) 3)), .i .i64 0] ∧
      H' = [.rw (x.A.flatMap ev3), .rw ((x.A ++ [(a, n, mxi x.clock now)]).flatMap ev3)]) := by
  have hl := h.len; have hg0 := h.g0; have hg1 := h.g1; have hr0 := h.room0; have hr1 := h.room1
  refine sound_told (sound_func Try.func23 c23 rfl (by simp) ?_)
  simp only [e23, RR.cells]
  have hcast : ((x.A.length + 1 : Nat) : Int) = (x.A.length : Int) + 1 := by push_cast; rfl
  by_cases hcl : now > x.clock
  · have hm : mxi x.clock now = now := if_pos hcl
    rw [hm]
    repeat (first
    | ((first | (with_reducible first | apply Aa | apply Ab | apply Ac | apply Ad | apply Ae | apply Af) | ((with_reducible first | apply Ag | apply Ah); · (simp only [go_sem, reduceIte, Nat.reduceEqDiff, decide_f h1, decide_f h2, decide_f hf, decide_t hcl]; (try with_reducible exact rfl)))); · (simp only [go_sem, Int.reduceBEq, Int.reduceBNe, Int.reduceLT, Int.reduceLE, Int.reduceAdd, Int.reduceSub, Int.reduceToNat, reduceIte, Nat.reduceEqDiff, Nat.reduceAdd, Nat.reduceMul, Nat.reduceLeDiff, Nat.reduceSub, reduceCtorEq, decide_f h1, decide_f h2, decide_f hf, decide_t hcl]; (try simp (disch := omega) only [OM, if_yes, if_no, Option.map_some, decide_f h1, decide_f h2, decide_f hf, decide_t hcl]); (try with_reducible exact rfl)))
    | ((with_reducible first | apply Ba | apply Bb | apply Bc | apply Bd | apply Be); · (simp only [go_sem, reduceIte, Nat.reduceEqDiff, decide_f h1, decide_f h2, decide_f hf, decide_t hcl]; (try with_reducible exact rfl))) | ((with_reducible first | apply Ca | apply Cb | apply Cc | apply Cd | apply Ce); · (simp only [go_sem, reduceIte, Nat.reduceEqDiff, decide_f h1, decide_f h2, decide_f hf, decide_t hcl]; (try with_reducible exact rfl)))
    | ((with_reducible first | apply Dg | apply Dh); (· decide +kernel); (· (simp only [inOrd, List.getElem?_cons_succ, List.getElem?_cons_zero]; exact rfl)))
    | ((with_reducible first | apply De | apply Df); (· decide +kernel); (· (simp only [inOrd, List.getElem?_cons_succ, List.getElem?_cons_zero]; exact rfl)))
    | (with_reducible first | apply Ea | apply Eb | apply Ec | apply Ed | apply Ee | apply Ef | apply Eg | apply Eh | apply Ei | apply Ej | apply Ek | apply El | apply Em | apply En | apply Eo) | ((with_reducible apply Ep); · rfl))
    refine ei_dreg ?_
    simp [-List.length_flatMap, EvD, ev3_flat, ev3_take, show x.A.length * 24 ≤ 140737488355328 by omega, show (x.A.length + 1) * 24 ≤ 140737488355328 by omega]
    refine ⟨by decide, ?_⟩
    refine Ej ?_
    by_cases hs : ((x.A.length : Int) + 1 - x.gone == x.room) = true
    · repeat (first
    | ((first | (with_reducible first | apply Aa | apply Ab | apply Ac | apply Ad | apply Ae | apply Af) | ((with_reducible first | apply Ag | apply Ah); · (simp only [go_sem, reduceIte, Nat.reduceEqDiff, hcast, hs]; (try with_reducible exact rfl)))); · (simp only [go_sem, Int.reduceBEq, Int.reduceBNe, Int.reduceLT, Int.reduceLE, Int.reduceAdd, Int.reduceSub, Int.reduceToNat, reduceIte, Nat.reduceEqDiff, Nat.reduceAdd, Nat.reduceMul, Nat.reduceLeDiff, Nat.reduceSub, reduceCtorEq, hcast, hs]; (try simp (disch := omega) only [OM, if_yes, if_no, Option.map_some, hcast, hs]); (try with_reducible exact rfl)))
    | ((with_reducible first | apply Ba | apply Bb | apply Bc | apply Bd | apply Be); · (simp only [go_sem, reduceIte, Nat.reduceEqDiff, hcast, hs]; (try with_reducible exact rfl))) | ((with_reducible first | apply Ca | apply Cb | apply Cc | apply Cd | apply Ce); · (simp only [go_sem, reduceIte, Nat.reduceEqDiff, hcast, hs]; (try with_reducible exact rfl)))
    | ((with_reducible first | apply Dg | apply Dh); (· decide +kernel); (· (simp only [inOrd, List.getElem?_cons_succ, List.getElem?_cons_zero]; exact rfl)))
    | ((with_reducible first | apply De | apply Df); (· decide +kernel); (· (simp only [inOrd, List.getElem?_cons_succ, List.getElem?_cons_zero]; exact rfl)))
    | (with_reducible first | apply Ea | apply Eb | apply Ec | apply Ed | apply Ee | apply Ef | apply Eg | apply Eh | apply Ei | apply Ej | apply Ek | apply El | apply Em | apply En | apply Eo) | ((with_reducible apply Ep); · rfl))
      rw [hs, Bool.or_true]
      refine told [0, 6] [.rw (x.A.flatMap ev3), .rw ((x.A ++ [(a, n, now)]).flatMap ev3)] (.tup [.agg (RR.cells { x with clock := now, shut := true } (.sl 1 0 (x.A.length + 1) 3)), .i .i64 0]) (by simp [List.flatMap_append, ev3, renL_append, wfL_append]) (by decide) (by simp [-List.map_map, embAt, nm, AObj.ren, renL, Val.ren, List.flatMap_append, ev3, renL_append, wfL_append]) (by simp [-List.map_map, wfAll, AObj.wf, wfL, Val.wf, List.flatMap_append, ev3, renL_append, wfL_append]) (by simp [List.flatMap_append, ev3, renL_append, wfL_append]) rfl (by simp [-List.map_map, Val.wf, wfL, List.flatMap_append, ev3, renL_append, wfL_append]) (by simp [-List.map_map, Val.ren, renL, nm, List.flatMap_append, ev3, renL_append, wfL_append]) ?_
      exact ⟨rfl, by simp⟩
    · have hs' : ((x.A.length : Int) + 1 - x.gone == x.room) = false := by simpa using hs
      repeat (first
    | ((first | (with_reducible first | apply Aa | apply Ab | apply Ac | apply Ad | apply Ae | apply Af) | ((with_reducible first | apply Ag | apply Ah); · (simp only [go_sem, reduceIte, Nat.reduceEqDiff, hcast, hs']; (try with_reducible exact rfl)))); · (simp only [go_sem, Int.reduceBEq, Int.reduceBNe, Int.reduceLT, Int.reduceLE, Int.reduceAdd, Int.reduceSub, Int.reduceToNat, reduceIte, Nat.reduceEqDiff, Nat.reduceAdd, Nat.reduceMul, Nat.reduceLeDiff, Nat.reduceSub, reduceCtorEq, hcast, hs']; (try simp (disch := omega) only [OM, if_yes, if_no, Option.map_some, hcast, hs']); (try with_reducible exact rfl)))
    | ((with_reducible first | apply Ba | apply Bb | apply Bc | apply Bd | apply Be); · (simp only [go_sem, reduceIte, Nat.reduceEqDiff, hcast, hs']; (try with_reducible exact rfl))) | ((with_reducible first | apply Ca | apply Cb | apply Cc | apply Cd | apply Ce); · (simp only [go_sem, reduceIte, Nat.reduceEqDiff, hcast, hs']; (try with_reducible exact rfl)))
    | ((with_reducible first | apply Dg | apply Dh); (· decide +kernel); (· (simp only [inOrd, List.getElem?_cons_succ, List.getElem?_cons_zero]; exact rfl)))
    | ((with_reducible first | apply De | apply Df); (· decide +kernel); (· (simp only [inOrd, List.getElem?_cons_succ, List.getElem?_cons_zero]; exact rfl)))
    | (with_reducible first | apply Ea | apply Eb | apply Ec | apply Ed | apply Ee | apply Ef | apply Eg | apply Eh | apply Ei | apply Ej | apply Ek | apply El | apply Em | apply En | apply Eo) | ((with_reducible apply Ep); · rfl))
      rw [hs', Bool.or_false]
      refine told [0, 6] [.rw (x.A.flatMap ev3), .rw ((x.A ++ [(a, n, now)]).flatMap ev3)] (.tup [.agg (RR.cells { x with clock := now } (.sl 1 0 (x.A.length + 1) 3)), .i .i64 0]) (by simp [List.flatMap_append, ev3, renL_append, wfL_append]) (by decide) (by simp [-List.map_map, embAt, nm, AObj.ren, renL, Val.ren, List.flatMap_append, ev3, renL_append, wfL_append]) (by simp [-List.map_map, wfAll, AObj.wf, wfL, Val.wf, List.flatMap_append, ev3, renL_append, wfL_append]) (by simp [List.flatMap_append, ev3, renL_append, wfL_append]) rfl (by simp [-List.map_map, Val.wf, wfL, List.flatMap_append, ev3, renL_append, wfL_append]) (by simp [-List.map_map, Val.ren, renL, nm, List.flatMap_append, ev3, renL_append, wfL_append]) ?_
      exact ⟨rfl, by simp⟩
  · have hm : mxi x.clock now = x.clock := if_neg hcl
    rw [hm]
    repeat (first
    | ((first | (with_reducible first | apply Aa | apply Ab | apply Ac | apply Ad | apply Ae | apply Af) | ((with_reducible first | apply Ag | apply Ah); · (simp only [go_sem, reduceIte, Nat.reduceEqDiff, decide_f h1, decide_f h2, decide_f hf, decide_f hcl]; (try with_reducible exact rfl)))); · (simp only [go_sem, Int.reduceBEq, Int.reduceBNe, Int.reduceLT, Int.reduceLE, Int.reduceAdd, Int.reduceSub, Int.reduceToNat, reduceIte, Nat.reduceEqDiff, Nat.reduceAdd, Nat.reduceMul, Nat.reduceLeDiff, Nat.reduceSub, reduceCtorEq, decide_f h1, decide_f h2, decide_f hf, decide_f hcl]; (try simp (disch := omega) only [OM, if_yes, if_no, Option.map_some, decide_f h1, decide_f h2, decide_f hf, decide_f hcl]); (try with_reducible exact rfl)))
    | ((with_reducible first | apply Ba | apply Bb | apply Bc | apply Bd | apply Be); · (simp only [go_sem, reduceIte, Nat.reduceEqDiff, decide_f h1, decide_f h2, decide_f hf, decide_f hcl]; (try with_reducible exact rfl))) | ((with_reducible first | apply Ca | apply Cb | apply Cc | apply Cd | apply Ce); · (simp only [go_sem, reduceIte, Nat.reduceEqDiff, decide_f h1, decide_f h2, decide_f hf, decide_f hcl]; (try with_reducible exact rfl)))
    | ((with_reducible first | apply Dg | apply Dh); (· decide +kernel); (· (simp only [inOrd, List.getElem?_cons_succ, List.getElem?_cons_zero]; exact rfl)))
    | ((with_reducible first | apply De | apply Df); (· decide +kernel); (· (simp only [inOrd, List.getElem?_cons_succ, List.getElem?_cons_zero]; exact rfl)))
    | (with_reducible first | apply Ea | apply Eb | apply Ec | apply Ed | apply Ee | apply Ef | apply Eg | apply Eh | apply Ei | apply Ej | apply Ek | apply El | apply Em | apply En | apply Eo) | ((with_reducible apply Ep); · rfl))
    refine ei_dreg ?_
    simp [-List.length_flatMap, EvD, ev3_flat, ev3_take, show x.A.length * 24 ≤ 140737488355328 by omega, show (x.A.length + 1) * 24 ≤ 140737488355328 by omega]
    refine ⟨by decide, ?_⟩
    refine Ej ?_
    by_cases hs : ((x.A.length : Int) + 1 - x.gone == x.room) = true
    · repeat (first
    | ((first | (with_reducible first | apply Aa | apply Ab | apply Ac | apply Ad | apply Ae | apply Af) | ((with_reducible first | apply Ag | apply Ah); · (simp only [go_sem, reduceIte, Nat.reduceEqDiff, hcast, hs]; (try with_reducible exact rfl)))); · (simp only [go_sem, Int.reduceBEq, Int.reduceBNe, Int.reduceLT, Int.reduceLE, Int.reduceAdd, Int.reduceSub, Int.reduceToNat, reduceIte, Nat.reduceEqDiff, Nat.reduceAdd, Nat.reduceMul, Nat.reduceLeDiff, Nat.reduceSub, reduceCtorEq, hcast, hs]; (try simp (disch := omega) only [OM, if_yes, if_no, Option.map_some, hcast, hs]); (try with_reducible exact rfl)))
    | ((with_reducible first | apply Ba | apply Bb | apply Bc | apply Bd | apply Be); · (simp only [go_sem, reduceIte, Nat.reduceEqDiff, hcast, hs]; (try with_reducible exact rfl))) | ((with_reducible first | apply Ca | apply Cb | apply Cc | apply Cd | apply Ce); · (simp only [go_sem, reduceIte, Nat.reduceEqDiff, hcast, hs]; (try with_reducible exact rfl)))
    | ((with_reducible first | apply Dg | apply Dh); (· decide +kernel); (· (simp only [inOrd, List.getElem?_cons_succ, List.getElem?_cons_zero]; exact rfl)))
    | ((with_reducible first | apply De | apply Df); (· decide +kernel); (· (simp only [inOrd, List.getElem?_cons_succ, List.getElem?_cons_zero]; exact rfl)))
    | (with_reducible first | apply Ea | apply Eb | apply Ec | apply Ed | apply Ee | apply Ef | apply Eg | apply Eh | apply Ei | apply Ej | apply Ek | apply El | apply Em | apply En | apply Eo) | ((with_reducible apply Ep); · rfl))
      rw [hs, Bool.or_true]
      refine told [0, 6] [.rw (x.A.flatMap ev3), .rw ((x.A ++ [(a, n, x.clock)]).flatMap ev3)] (.tup [.agg (RR.cells { x with clock := x.clock, shut := true } (.sl 1 0 (x.A.length + 1) 3)), .i .i64 0]) (by simp [List.flatMap_append, ev3, renL_append, wfL_append]) (by decide) (by simp [-List.map_map, embAt, nm, AObj.ren, renL, Val.ren, List.flatMap_append, ev3, renL_append, wfL_append]) (by simp [-List.map_map, wfAll, AObj.wf, wfL, Val.wf, List.flatMap_append, ev3, renL_append, wfL_append]) (by simp [List.flatMap_append, ev3, renL_append, wfL_append]) rfl (by simp [-List.map_map, Val.wf, wfL, List.flatMap_append, ev3, renL_append, wfL_append]) (by simp [-List.map_map, Val.ren, renL, nm, List.flatMap_append, ev3, renL_append, wfL_append]) ?_
      exact ⟨rfl, by simp⟩
    · have hs' : ((x.A.length : Int) + 1 - x.gone == x.room) = false := by simpa using hs
      repeat (first
    | ((first | (with_reducible first | apply Aa | apply Ab | apply Ac | apply Ad | apply Ae | apply Af) | ((with_reducible first | apply Ag | apply Ah); · (simp only [go_sem, reduceIte, Nat.reduceEqDiff, hcast, hs']; (try with_reducible exact rfl)))); · (simp only [go_sem, Int.reduceBEq, Int.reduceBNe, Int.reduceLT, Int.reduceLE, Int.reduceAdd, Int.reduceSub, Int.reduceToNat, reduceIte, Nat.reduceEqDiff, Nat.reduceAdd, Nat.reduceMul, Nat.reduceLeDiff, Nat.reduceSub, reduceCtorEq, hcast, hs']; (try simp (disch := omega) only [OM, if_yes, if_no, Option.map_some, hcast, hs']); (try with_reducible exact rfl)))
    | ((with_reducible first | apply Ba | apply Bb | apply Bc | apply Bd | apply Be); · (simp only [go_sem, reduceIte, Nat.reduceEqDiff, hcast, hs']; (try with_reducible exact rfl))) | ((with_reducible first | apply Ca | apply Cb | apply Cc | apply Cd | apply Ce); · (simp only [go_sem, reduceIte, Nat.reduceEqDiff, hcast, hs']; (try with_reducible exact rfl)))
    | ((with_reducible first | apply Dg | apply Dh); (· decide +kernel); (· (simp only [inOrd, List.getElem?_cons_succ, List.getElem?_cons_zero]; exact rfl)))
    | ((with_reducible first | apply De | apply Df); (· decide +kernel); (· (simp only [inOrd, List.getElem?_cons_succ, List.getElem?_cons_zero]; exact rfl)))
    | (with_reducible first | apply Ea | apply Eb | apply Ec | apply Ed | apply Ee | apply Ef | apply Eg | apply Eh | apply Ei | apply Ej | apply Ek | apply El | apply Em | apply En | apply Eo) | ((with_reducible apply Ep); · rfl))
      rw [hs', Bool.or_false]
      refine told [0, 6] [.rw (x.A.flatMap ev3), .rw ((x.A ++ [(a, n, x.clock)]).flatMap ev3)] (.tup [.agg (RR.cells { x with clock := x.clock } (.sl 1 0 (x.A.length + 1) 3)), .i .i64 0]) (by simp [List.flatMap_append, ev3, renL_append, wfL_append]) (by decide) (by simp [-List.map_map, embAt, nm, AObj.ren, renL, Val.ren, List.flatMap_append, ev3, renL_append, wfL_append]) (by simp [-List.map_map, wfAll, AObj.wf, wfL, Val.wf, List.flatMap_append, ev3, renL_append, wfL_append]) (by simp [List.flatMap_append, ev3, renL_append, wfL_append]) rfl (by simp [-List.map_map, Val.wf, wfL, List.flatMap_append, ev3, renL_append, wfL_append]) (by simp [-List.map_map, Val.ren, renL, nm, List.flatMap_append, ev3, renL_append, wfL_append]) ?_
      exact ⟨rfl, by simp⟩
theorem rput_nil_bad (room rate clock : Int) (shut : Bool) (a n now : Int) (hn : n < 1 ∨ n > 65536) (H : Heap) :
    SoundCall Try.prog 23 [.agg [.i .i64 room, .i .u64 rate, .nils, .i .i64 0, .i .u64 clock, .b shut], .i .u64 a, .i .i64 n, .i .u64 now] H (fun v H' => v = .tup [.agg [.i .i64 room, .i .u64 rate, .nils, .i .i64 0, .i .u64 clock, .b shut], .i .i64 2] ∧ H' = H) := by
  refine sound_pure rfl (by rintro v rfl; rfl) ?_ H
  refine sound_func Try.func23 c23 rfl (by simp) ?_
  simp only [e23]
  by_cases h1 : n < 1
  · repeat (first
    | ((first | (with_reducible first | apply Aa | apply Ab | apply Ac | apply Ad | apply Ae | apply Af) | ((with_reducible first | apply Ag | apply Ah); · (simp only [go_sem, reduceIte, Nat.reduceEqDiff, decide_t h1]; (try with_reducible exact rfl)))); · (simp only [go_sem, Int.reduceBEq, Int.reduceBNe, Int.reduceLT, Int.reduceLE, Int.reduceAdd, Int.reduceSub, Int.reduceToNat, reduceIte, Nat.reduceEqDiff, Nat.reduceAdd, Nat.reduceMul, Nat.reduceLeDiff, Nat.reduceSub, reduceCtorEq, decide_t h1]; (try simp (disch := omega) only [OM, if_yes, if_no, Option.map_some, decide_t h1]); (try with_reducible exact rfl)))
    | ((with_reducible first | apply Ba | apply Bb | apply Bc | apply Bd | apply Be); · (simp only [go_sem, reduceIte, Nat.reduceEqDiff, decide_t h1]; (try with_reducible exact rfl))) | ((with_reducible first | apply Ca | apply Cb | apply Cc | apply Cd | apply Ce); · (simp only [go_sem, reduceIte, Nat.reduceEqDiff, decide_t h1]; (try with_reducible exact rfl)))
    | ((with_reducible first | apply Dg | apply Dh); (· decide +kernel); (· (simp only [inOrd, List.getElem?_cons_succ, List.getElem?_cons_zero]; exact rfl)))
    | ((with_reducible first | apply De | apply Df); (· decide +kernel); (· (simp only [inOrd, List.getElem?_cons_succ, List.getElem?_cons_zero]; exact rfl)))
    | (with_reducible first | apply Ea | apply Eb | apply Ec | apply Ed | apply Ee | apply Ef | apply Eg | apply Eh | apply Ei | apply Ej | apply Ek | apply El | apply Em | apply En | apply Eo) | ((with_reducible apply Ep); · rfl))
    rfl
  · have h2 : n > 65536 := by omega
    repeat (first
    | ((first | (with_reducible first | apply Aa | apply Ab | apply Ac | apply Ad | apply Ae | apply Af) | ((with_reducible first | apply Ag | apply Ah); · (simp only [go_sem, reduceIte, Nat.reduceEqDiff, decide_f h1, decide_t h2]; (try with_reducible exact rfl)))); · (simp only [go_sem, Int.reduceBEq, Int.reduceBNe, Int.reduceLT, Int.reduceLE, Int.reduceAdd, Int.reduceSub, Int.reduceToNat, reduceIte, Nat.reduceEqDiff, Nat.reduceAdd, Nat.reduceMul, Nat.reduceLeDiff, Nat.reduceSub, reduceCtorEq, decide_f h1, decide_t h2]; (try simp (disch := omega) only [OM, if_yes, if_no, Option.map_some, decide_f h1, decide_t h2]); (try with_reducible exact rfl)))
    | ((with_reducible first | apply Ba | apply Bb | apply Bc | apply Bd | apply Be); · (simp only [go_sem, reduceIte, Nat.reduceEqDiff, decide_f h1, decide_t h2]; (try with_reducible exact rfl))) | ((with_reducible first | apply Ca | apply Cb | apply Cc | apply Cd | apply Ce); · (simp only [go_sem, reduceIte, Nat.reduceEqDiff, decide_f h1, decide_t h2]; (try with_reducible exact rfl)))
    | ((with_reducible first | apply Dg | apply Dh); (· decide +kernel); (· (simp only [inOrd, List.getElem?_cons_succ, List.getElem?_cons_zero]; exact rfl)))
    | ((with_reducible first | apply De | apply Df); (· decide +kernel); (· (simp only [inOrd, List.getElem?_cons_succ, List.getElem?_cons_zero]; exact rfl)))
    | (with_reducible first | apply Ea | apply Eb | apply Ec | apply Ed | apply Ee | apply Ef | apply Eg | apply Eh | apply Ei | apply Ej | apply Ek | apply El | apply Em | apply En | apply Eo) | ((with_reducible apply Ep); · rfl))
    rfl
theorem rput_nil (room rate clock : Int) (shut : Bool) (hr : 1 ≤ room) (a n now : Int) (hw : U now) (h1 : ¬ n < 1) (h2 : ¬ n > 65536) :
    SoundM Try.prog 0 23 [.agg [.i .i64 room, .i .u64 rate, .nils, .i .i64 0, .i .u64 clock, .b shut], .i .u64 a, .i .i64 n, .i .u64 now] [] (fun v H' => v = .tup [.agg [.i .i64 room, .i .u64 rate, .sl 0 0 1 3, .i .i64 0, .i .u64 (mxi clock now), .b (shut || (1 == room))], .i .i64 0] ∧
      H' = [.rw [.i .u64 a, .i .i64 n, .i .u64 (mxi clock now)]]) := by
  have hf : ¬ (0 : Int) ≥ room := by omega
  refine sound_told (sound_func Try.func23 c23 rfl (by simp) ?_)
  simp only [e23]
  by_cases hcl : now > clock
  · have hm : mxi clock now = now := if_pos hcl
    rw [hm]
    repeat (first
    | ((first | (with_reducible first | apply Aa | apply Ab | apply Ac | apply Ad | apply Ae | apply Af) | ((with_reducible first | apply Ag | apply Ah); · (simp only [go_sem, reduceIte, Nat.reduceEqDiff, decide_f h1, decide_f h2, decide_f hf, decide_t hcl]; (try with_reducible exact rfl)))); · (simp only [go_sem, Int.reduceBEq, Int.reduceBNe, Int.reduceLT, Int.reduceLE, Int.reduceAdd, Int.reduceSub, Int.reduceToNat, reduceIte, Nat.reduceEqDiff, Nat.reduceAdd, Nat.reduceMul, Nat.reduceLeDiff, Nat.reduceSub, reduceCtorEq, decide_f h1, decide_f h2, decide_f hf, decide_t hcl]; (try simp (disch := omega) only [OM, if_yes, if_no, Option.map_some, decide_f h1, decide_f h2, decide_f hf, decide_t hcl]); (try with_reducible exact rfl)))
    | ((with_reducible first | apply Ba | apply Bb | apply Bc | apply Bd | apply Be); · (simp only [go_sem, reduceIte, Nat.reduceEqDiff, decide_f h1, decide_f h2, decide_f hf, decide_t hcl]; (try with_reducible exact rfl))) | ((with_reducible first | apply Ca | apply Cb | apply Cc | apply Cd | apply Ce); · (simp only [go_sem, reduceIte, Nat.reduceEqDiff, decide_f h1, decide_f h2, decide_f hf, decide_t hcl]; (try with_reducible exact rfl)))
    | ((with_reducible first | apply Dg | apply Dh); (· decide +kernel); (· (simp only [inOrd, List.getElem?_cons_succ, List.getElem?_cons_zero]; exact rfl)))
    | ((with_reducible first | apply De | apply Df); (· decide +kernel); (· (simp only [inOrd, List.getElem?_cons_succ, List.getElem?_cons_zero]; exact rfl)))
    | (with_reducible first | apply Ea | apply Eb | apply Ec | apply Ed | apply Ee | apply Ef | apply Eg | apply Eh | apply Ei | apply Ej | apply Ek | apply El | apply Em | apply En | apply Eo) | ((with_reducible apply Ep); · rfl))
    refine ei_dreg ?_
    simp [-List.length_flatMap, EvD, ev3_flat, ev3_take]
    refine ⟨by decide, ?_⟩
    refine Ej ?_
    by_cases hs : ((1 : Int) == room) = true
    · repeat (first
    | ((first | (with_reducible first | apply Aa | apply Ab | apply Ac | apply Ad | apply Ae | apply Af) | ((with_reducible first | apply Ag | apply Ah); · (simp only [go_sem, reduceIte, Nat.reduceEqDiff, hs]; (try with_reducible exact rfl)))); · (simp only [go_sem, Int.reduceBEq, Int.reduceBNe, Int.reduceLT, Int.reduceLE, Int.reduceAdd, Int.reduceSub, Int.reduceToNat, reduceIte, Nat.reduceEqDiff, Nat.reduceAdd, Nat.reduceMul, Nat.reduceLeDiff, Nat.reduceSub, reduceCtorEq, hs]; (try simp (disch := omega) only [OM, if_yes, if_no, Option.map_some, hs]); (try with_reducible exact rfl)))
    | ((with_reducible first | apply Ba | apply Bb | apply Bc | apply Bd | apply Be); · (simp only [go_sem, reduceIte, Nat.reduceEqDiff, hs]; (try with_reducible exact rfl))) | ((with_reducible first | apply Ca | apply Cb | apply Cc | apply Cd | apply Ce); · (simp only [go_sem, reduceIte, Nat.reduceEqDiff, hs]; (try with_reducible exact rfl)))
    | ((with_reducible first | apply Dg | apply Dh); (· decide +kernel); (· (simp only [inOrd, List.getElem?_cons_succ, List.getElem?_cons_zero]; exact rfl)))
    | ((with_reducible first | apply De | apply Df); (· decide +kernel); (· (simp only [inOrd, List.getElem?_cons_succ, List.getElem?_cons_zero]; exact rfl)))
    | (with_reducible first | apply Ea | apply Eb | apply Ec | apply Ed | apply Ee | apply Ef | apply Eg | apply Eh | apply Ei | apply Ej | apply Ek | apply El | apply Em | apply En | apply Eo) | ((with_reducible apply Ep); · rfl))
      rw [hs, Bool.or_true]
      refine told [5] [.rw [.i .u64 a, .i .i64 n, .i .u64 now]] (.tup [.agg [.i .i64 room, .i .u64 rate, .sl 0 0 1 3, .i .i64 0, .i .u64 now, .b true], .i .i64 0]) (by simp [nc0]) (by decide) (by simp [-List.map_map, embAt, nm, AObj.ren, renL, Val.ren, nc0]) (by simp [-List.map_map, wfAll, AObj.wf, wfL, Val.wf, nc0]) (by simp [nc0]) rfl (by simp [-List.map_map, Val.wf, wfL, nc0]) (by simp [-List.map_map, Val.ren, renL, nm, nc0]) ?_
      exact ⟨rfl, rfl⟩
    · have hs' : ((1 : Int) == room) = false := by simpa using hs
      repeat (first
    | ((first | (with_reducible first | apply Aa | apply Ab | apply Ac | apply Ad | apply Ae | apply Af) | ((with_reducible first | apply Ag | apply Ah); · (simp only [go_sem, reduceIte, Nat.reduceEqDiff, hs']; (try with_reducible exact rfl)))); · (simp only [go_sem, Int.reduceBEq, Int.reduceBNe, Int.reduceLT, Int.reduceLE, Int.reduceAdd, Int.reduceSub, Int.reduceToNat, reduceIte, Nat.reduceEqDiff, Nat.reduceAdd, Nat.reduceMul, Nat.reduceLeDiff, Nat.reduceSub, reduceCtorEq, hs']; (try simp (disch := omega) only [OM, if_yes, if_no, Option.map_some, hs']); (try with_reducible exact rfl)))
    | ((with_reducible first | apply Ba | apply Bb | apply Bc | apply Bd | apply Be); · (simp only [go_sem, reduceIte, Nat.reduceEqDiff, hs']; (try with_reducible exact rfl))) | ((with_reducible first | apply Ca | apply Cb | apply Cc | apply Cd | apply Ce); · (simp only [go_sem, reduceIte, Nat.reduceEqDiff, hs']; (try with_reducible exact rfl)))
    | ((with_reducible first | apply Dg | apply Dh); (· decide +kernel); (· (simp only [inOrd, List.getElem?_cons_succ, List.getElem?_cons_zero]; exact rfl)))
    | ((with_reducible first | apply De | apply Df); (· decide +kernel); (· (simp only [inOrd, List.getElem?_cons_succ, List.getElem?_cons_zero]; exact rfl)))
    | (with_reducible first | apply Ea | apply Eb | apply Ec | apply Ed | apply Ee | apply Ef | apply Eg | apply Eh | apply Ei | apply Ej | apply Ek | apply El | apply Em | apply En | apply Eo) | ((with_reducible apply Ep); · rfl))
      rw [hs', Bool.or_false]
      refine told [5] [.rw [.i .u64 a, .i .i64 n, .i .u64 now]] (.tup [.agg [.i .i64 room, .i .u64 rate, .sl 0 0 1 3, .i .i64 0, .i .u64 now, .b shut], .i .i64 0]) (by simp [nc0]) (by decide) (by simp [-List.map_map, embAt, nm, AObj.ren, renL, Val.ren, nc0]) (by simp [-List.map_map, wfAll, AObj.wf, wfL, Val.wf, nc0]) (by simp [nc0]) rfl (by simp [-List.map_map, Val.wf, wfL, nc0]) (by simp [-List.map_map, Val.ren, renL, nm, nc0]) ?_
      exact ⟨rfl, rfl⟩
  · have hm : mxi clock now = clock := if_neg hcl
    rw [hm]
    repeat (first
    | ((first | (with_reducible first | apply Aa | apply Ab | apply Ac | apply Ad | apply Ae | apply Af) | ((with_reducible first | apply Ag | apply Ah); · (simp only [go_sem, reduceIte, Nat.reduceEqDiff, decide_f h1, decide_f h2, decide_f hf, decide_f hcl]; (try with_reducible exact rfl)))); · (simp only [go_sem, Int.reduceBEq, Int.reduceBNe, Int.reduceLT, Int.reduceLE, Int.reduceAdd, Int.reduceSub, Int.reduceToNat, reduceIte, Nat.reduceEqDiff, Nat.reduceAdd, Nat.reduceMul, Nat.reduceLeDiff, Nat.reduceSub, reduceCtorEq, decide_f h1, decide_f h2, decide_f hf, decide_f hcl]; (try simp (disch := omega) only [OM, if_yes, if_no, Option.map_some, decide_f h1, decide_f h2, decide_f hf, decide_f hcl]); (try with_reducible exact rfl)))
    | ((with_reducible first | apply Ba | apply Bb | apply Bc | apply Bd | apply Be); · (simp only [go_sem, reduceIte, Nat.reduceEqDiff, decide_f h1, decide_f h2, decide_f hf, decide_f hcl]; (try with_reducible exact rfl))) | ((with_reducible first | apply Ca | apply Cb | apply Cc | apply Cd | apply Ce); · (simp only [go_sem, reduceIte, Nat.reduceEqDiff, decide_f h1, decide_f h2, decide_f hf, decide_f hcl]; (try with_reducible exact rfl)))
    | ((with_reducible first | apply Dg | apply Dh); (· decide +kernel); (· (simp only [inOrd, List.getElem?_cons_succ, List.getElem?_cons_zero]; exact rfl)))
    | ((with_reducible first | apply De | apply Df); (· decide +kernel); (· (simp only [inOrd, List.getElem?_cons_succ, List.getElem?_cons_zero]; exact rfl)))
    | (with_reducible first | apply Ea | apply Eb | apply Ec | apply Ed | apply Ee | apply Ef | apply Eg | apply Eh | apply Ei | apply Ej | apply Ek | apply El | apply Em | apply En | apply Eo) | ((with_reducible apply Ep); · rfl))
    refine ei_dreg ?_
    simp [-List.length_flatMap, EvD, ev3_flat, ev3_take]
    refine ⟨by decide, ?_⟩
    refine Ej ?_
    by_cases hs : ((1 : Int) == room) = true
    · repeat (first
    | ((first | (with_reducible first | apply Aa | apply Ab | apply Ac | apply Ad | apply Ae | apply Af) | ((with_reducible first | apply Ag | apply Ah); · (simp only [go_sem, reduceIte, Nat.reduceEqDiff, hs]; (try with_reducible exact rfl)))); · (simp only [go_sem, Int.reduceBEq, Int.reduceBNe, Int.reduceLT, Int.reduceLE, Int.reduceAdd, Int.reduceSub, Int.reduceToNat, reduceIte, Nat.reduceEqDiff, Nat.reduceAdd, Nat.reduceMul, Nat.reduceLeDiff, Nat.reduceSub, reduceCtorEq, hs]; (try simp (disch := omega) only [OM, if_yes, if_no, Option.map_some, hs]); (try with_reducible exact rfl)))
    | ((with_reducible first | apply Ba | apply Bb | apply Bc | apply Bd | apply Be); · (simp only [go_sem, reduceIte, Nat.reduceEqDiff, hs]; (try with_reducible exact rfl))) | ((with_reducible first | apply Ca | apply Cb | apply Cc | apply Cd | apply Ce); · (simp only [go_sem, reduceIte, Nat.reduceEqDiff, hs]; (try with_reducible exact rfl)))
    | ((with_reducible first | apply Dg | apply Dh); (· decide +kernel); (· (simp only [inOrd, List.getElem?_cons_succ, List.getElem?_cons_zero]; exact rfl)))
    | ((with_reducible first | apply De | apply Df); (· decide +kernel); (· (simp only [inOrd, List.getElem?_cons_succ, List.getElem?_cons_zero]; exact rfl)))
    | (with_reducible first | apply Ea | apply Eb | apply Ec | apply Ed | apply Ee | apply Ef | apply Eg | apply Eh | apply Ei | apply Ej | apply Ek | apply El | apply Em | apply En | apply Eo) | ((with_reducible apply Ep); · rfl))
      rw [hs, Bool.or_true]
      refine told [5] [.rw [.i .u64 a, .i .i64 n, .i .u64 clock]] (.tup [.agg [.i .i64 room, .i .u64 rate, .sl 0 0 1 3, .i .i64 0, .i .u64 clock, .b true], .i .i64 0]) (by simp [nc0]) (by decide) (by simp [-List.map_map, embAt, nm, AObj.ren, renL, Val.ren, nc0]) (by simp [-List.map_map, wfAll, AObj.wf, wfL, Val.wf, nc0]) (by simp [nc0]) rfl (by simp [-List.map_map, Val.wf, wfL, nc0]) (by simp [-List.map_map, Val.ren, renL, nm, nc0]) ?_
      exact ⟨rfl, rfl⟩
    · have hs' : ((1 : Int) == room) = false := by simpa using hs
      repeat (first
    | ((first | (with_reducible first | apply Aa | apply Ab | apply Ac | apply Ad | apply Ae | apply Af) | ((with_reducible first | apply Ag | apply Ah); · (simp only [go_sem, reduceIte, Nat.reduceEqDiff, hs']; (try with_reducible exact rfl)))); · (simp only [go_sem, Int.reduceBEq, Int.reduceBNe, Int.reduceLT, Int.reduceLE, Int.reduceAdd, Int.reduceSub, Int.reduceToNat, reduceIte, Nat.reduceEqDiff, Nat.reduceAdd, Nat.reduceMul, Nat.reduceLeDiff, Nat.reduceSub, reduceCtorEq, hs']; (try simp (disch := omega) only [OM, if_yes, if_no, Option.map_some, hs']); (try with_reducible exact rfl)))
    | ((with_reducible first | apply Ba | apply Bb | apply Bc | apply Bd | apply Be); · (simp only [go_sem, reduceIte, Nat.reduceEqDiff, hs']; (try with_reducible exact rfl))) | ((with_reducible first | apply Ca | apply Cb | apply Cc | apply Cd | apply Ce); · (simp only [go_sem, reduceIte, Nat.reduceEqDiff, hs']; (try with_reducible exact rfl)))
    | ((with_reducible first | apply Dg | apply Dh); (· decide +kernel); (· (simp only [inOrd, List.getElem?_cons_succ, List.getElem?_cons_zero]; exact rfl)))
    | ((with_reducible first | apply De | apply Df); (· decide +kernel); (· (simp only [inOrd, List.getElem?_cons_succ, List.getElem?_cons_zero]; exact rfl)))
    | (with_reducible first | apply Ea | apply Eb | apply Ec | apply Ed | apply Ee | apply Ef | apply Eg | apply Eh | apply Ei | apply Ej | apply Ek | apply El | apply Em | apply En | apply Eo) | ((with_reducible apply Ep); · rfl))
      rw [hs', Bool.or_false]
      refine told [5] [.rw [.i .u64 a, .i .i64 n, .i .u64 clock]] (.tup [.agg [.i .i64 room, .i .u64 rate, .sl 0 0 1 3, .i .i64 0, .i .u64 clock, .b shut], .i .i64 0]) (by simp [nc0]) (by decide) (by simp [-List.map_map, embAt, nm, AObj.ren, renL, Val.ren, nc0]) (by simp [-List.map_map, wfAll, AObj.wf, wfL, Val.wf, nc0]) (by simp [nc0]) rfl (by simp [-List.map_map, Val.wf, wfL, nc0]) (by simp [-List.map_map, Val.ren, renL, nm, nc0]) ?_
      exact ⟨rfl, rfl⟩
end Go.Proofs.Ythpcdpnolmacpaa.IR
