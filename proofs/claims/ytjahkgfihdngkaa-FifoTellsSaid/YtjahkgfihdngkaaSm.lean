/- This text of a proof shows: the document's queue: Push and Pop. -/
import Derived.Test.YtjahkgfihdngkaaGg
import Derived.Test.YtjahkgfihdngkaaSl
set_option linter.unusedVariables false
set_option linter.unusedSimpArgs false
set_option linter.constructorNameAsVariable false
namespace Go.Proofs.Ytjahkgfihdngkaa.IR
open Go Go.Proofs.Ytjahkgfihdngkaa.Ev Go.Proofs.Ytjahkgfihdngkaa.Ev.Rb
set_option linter.unusedSimpArgs false
set_option linter.unusedVariables false
set_option maxHeartbeats 4000000
attribute [local go_sem] skipV nc0 nc1 nc2 nc3 bne_self_eq_false decide_true decide_false IOp.step Opd.ev Env.get initEnv Val.cells? Val.one List.all_cons List.all_nil Bool.and_true Bool.and_self Bool.true_and bin ints eqv Val.kindNo lenNo_s lenNo_nils lenNo_sl lenNo_nilm lenNo_m lenOf_s lenOf_nils lenOf_sl lenOf_nilm unary partsOf padTo List.foldl_cons List.foldl_nil wr_nil wr_step wr_zero List.set_cons_zero List.set_cons_succ List.map_cons List.map_nil z1 z2 Nat.succ_ne_zero List.length_cons List.length_nil List.cons_append List.nil_append List.append_nil List.getElem?_cons_zero List.getElem?_cons_succ List.getElem?_nil Option.map_some Option.map_none Nat.zero_add Nat.add_zero List.drop_zero List.drop_succ_cons List.take_succ_cons List.take_zero List.take_nil and_self and_true true_and Nat.le_refl Bool.not_true Bool.not_false Option.getD_some window Val.slen bnd resV resL RV.val Bool.false_eq_true BEq.rfl Bool.true_beq Bool.false_beq beq_true beq_false mk_one ite_true ite_false eqc ceqs ceq NOp.step isK eq_self
attribute [local go_sem] Int.toNat_one Nat.one_mul Nat.sub_zero
attribute [local go_sem] nat_toNat
section
variable {P : Program} {pre : Nat → Nat → Bool} {its : List RItem} {r : List Nat} {wt : Watch} {ρ : Env} {H H' : Heap} {K : Env → Heap → Prop} {i d : Nat} {io : IOp} {v : Val}
theorem RunD_st (hi : its[i]? = some (.op none none io)) (h0 : io.sort = 3) (h : io.step (Opd.ev ρ) H = some (v, H')) (hr : recheck pre wt i H') (k : RunD P pre its r wt ρ H' K) : RunD P pre its (i :: r) wt ρ H K :=
  ⟨by simp only [EvD, hi, RItem.g, guardOk, h, h0, putv]; simpa using ⟨hr, k.out⟩⟩
end
def hdz : List (Int × Int × Int) → Int × Int × Int
  | [] => (0, 0, 0)
  | x :: _ => x
theorem headV_z (M : List (Int × Int × Int)) : headV M = .tup [.i .u64 (hdz M).2.2, .agg [.i .u64 (hdz M).1, .i .u64 (hdz M).2.1], .b (!M.isEmpty)] := by cases M <;> rfl
def RPop (r : Int) (M : List (Int × Int × Int)) (v : Val) (H : Heap) : Prop := ∃ o : GO, gC o ∧ (o = none → M.tail.length = 0) ∧
  v = .tup [rV r o 0 M.tail.length, .i .u64 (hdz M).2.2, .agg [.i .u64 (hdz M).1, .i .u64 (hdz M).2.1], .b (!M.isEmpty)] ∧ H = [gO o (rowC M.tail)]
theorem rpop_c (r : Int) (o : GO) (M : List (Int × Int × Int)) (go : gC o) (no : o = none → M.length = 0) (hM : M.length ≤ 100000) :
    SoundM Try.prog 1 15 [rV r o 0 M.length] [gO o (rowC M)] (RPop r M) := by
  refine sound_told (sound_func Try.func15 c15 rfl (by simp) ?_)
  have hh := rhead_c r o M go no hM
  simp only [e15, rV] at hh ⊢
  rcases o with _ | ⟨j, k⟩
  · obtain rfl : M = [] := List.length_eq_zero_iff.1 (no rfl)
    simp only [gV_none, gO_none, headV] at hh ⊢
    refine GG0 ?_
    (first | ((with_reducible first | apply RunP.call | apply Run.call | apply Run.call0); iterate 2 (· (simp only [go_sem, reduceIte, Nat.reduceEqDiff]; (try with_reducible exact rfl)))) | ((with_reducible first | apply Run.callY | apply RunP.callY); iterate 3 (· (simp only [go_sem, reduceIte, Nat.reduceEqDiff]; (try with_reducible exact rfl)))))
    refine sound_use (hh) [0] rfl (by decide) ?_ ?_ ?_ ?_ ?_; iterate 4 (· simp [-List.map_map, embAt, nm, rn_rw, rn_ro, rn_map, rn_iter, rn_dead, renL, Val.ren, wfAll, wn_rw, wn_ro, wn_map, wn_iter, wn_dead, wfL, Val.wf, Env.get, initEnv, Val.ren])
    rintro v C' ⟨rfl, rfl⟩
    simp only [merge, place, after, nm, MG, Val.ren, renL, rn_rw, rn_ro, rn_map, rn_iter, rn_dead, reduceIte, Nat.reduceLT, Nat.reduceAdd, Nat.reduceSub, Nat.lt_irrefl, Nat.zero_lt_one, Nat.zero_lt_succ]
    refine GN0 ?_
    refine ei_dregD ?_
    repeat (first
    | ((with_reducible apply RunD.op0); (· rfl); (· rfl); (· (simp only [go_sem, Int.reduceBEq, Int.reduceBNe, Int.reduceLT, Int.reduceLE, Int.reduceAdd, Int.reduceSub, Int.reduceToNat, reduceIte, Nat.reduceEqDiff, Nat.reduceAdd, Nat.reduceMul, Nat.reduceLeDiff, Nat.reduceSub, reduceCtorEq]; (try simp (disch := omega) only [OM, mn_lo, mn_hi, mx_lo, mx_hi, if_yes, if_no, Option.map_some]); (try with_reducible exact rfl)))) | ((with_reducible apply RunD.op1); (· rfl); (· rfl); (· (simp only [go_sem, Int.reduceBEq, Int.reduceBNe, Int.reduceLT, Int.reduceLE, Int.reduceAdd, Int.reduceSub, Int.reduceToNat, reduceIte, Nat.reduceEqDiff, Nat.reduceAdd, Nat.reduceMul, Nat.reduceLeDiff, Nat.reduceSub, reduceCtorEq]; (try simp (disch := omega) only [OM, mn_lo, mn_hi, mx_lo, mx_hi, if_yes, if_no, Option.map_some]); (try with_reducible exact rfl)))) | (with_reducible apply RunD.nil))
    ((apply RunD_st); (· rfl); (· rfl); (· (simp only [go_sem, Int.reduceBEq, Int.reduceBNe, Int.reduceLT, Int.reduceLE, Int.reduceAdd, Int.reduceSub, Int.reduceToNat, reduceIte, Nat.reduceEqDiff, Nat.reduceAdd, Nat.reduceMul, Nat.reduceLeDiff, Nat.reduceSub, reduceCtorEq]; (try simp (disch := omega) only [OM, mn_lo, mn_hi, mx_lo, mx_hi, if_yes, if_no, Option.map_some]); (try with_reducible exact rfl))))
    · exact recheck_cons (.inr (by (simp only [go_sem, Int.reduceBEq, Int.reduceBNe, Int.reduceLT, Int.reduceLE, Int.reduceAdd, Int.reduceSub, Int.reduceToNat, reduceIte, Nat.reduceEqDiff, Nat.reduceAdd, Nat.reduceMul, Nat.reduceLeDiff, Nat.reduceSub, reduceCtorEq]; (try simp (disch := omega) only [OM, mn_lo, mn_hi, mx_lo, mx_hi, if_yes, if_no, Option.map_some]); (try with_reducible exact rfl)))) (recheck_cons (.inl (show preOf [0, 0, 0, 0, 1, 19, 55, 127] 0 4 = true by decide)) recheck_nil)
    repeat (first
    | ((with_reducible apply RunD.op0); (· rfl); (· rfl); (· (simp only [go_sem, Int.reduceBEq, Int.reduceBNe, Int.reduceLT, Int.reduceLE, Int.reduceAdd, Int.reduceSub, Int.reduceToNat, reduceIte, Nat.reduceEqDiff, Nat.reduceAdd, Nat.reduceMul, Nat.reduceLeDiff, Nat.reduceSub, reduceCtorEq]; (try simp (disch := omega) only [OM, mn_lo, mn_hi, mx_lo, mx_hi, if_yes, if_no, Option.map_some]); (try with_reducible exact rfl)))) | ((with_reducible apply RunD.op1); (· rfl); (· rfl); (· (simp only [go_sem, Int.reduceBEq, Int.reduceBNe, Int.reduceLT, Int.reduceLE, Int.reduceAdd, Int.reduceSub, Int.reduceToNat, reduceIte, Nat.reduceEqDiff, Nat.reduceAdd, Nat.reduceMul, Nat.reduceLeDiff, Nat.reduceSub, reduceCtorEq]; (try simp (disch := omega) only [OM, mn_lo, mn_hi, mx_lo, mx_hi, if_yes, if_no, Option.map_some]); (try with_reducible exact rfl)))) | (with_reducible apply RunD.nil))
    ((apply RunD_st); (· rfl); (· rfl); (· (simp only [go_sem, Int.reduceBEq, Int.reduceBNe, Int.reduceLT, Int.reduceLE, Int.reduceAdd, Int.reduceSub, Int.reduceToNat, reduceIte, Nat.reduceEqDiff, Nat.reduceAdd, Nat.reduceMul, Nat.reduceLeDiff, Nat.reduceSub, reduceCtorEq]; (try simp (disch := omega) only [OM, mn_lo, mn_hi, mx_lo, mx_hi, if_yes, if_no, Option.map_some]); (try with_reducible exact rfl))))
    · exact recheck_cons (.inl (show preOf [0, 0, 0, 0, 1, 19, 55, 127] 2 6 = true by decide)) (recheck_cons (.inl (show preOf [0, 0, 0, 0, 1, 19, 55, 127] 0 6 = true by decide)) recheck_nil)
    repeat (first
    | ((with_reducible apply RunD.op0); (· rfl); (· rfl); (· (simp only [go_sem, Int.reduceBEq, Int.reduceBNe, Int.reduceLT, Int.reduceLE, Int.reduceAdd, Int.reduceSub, Int.reduceToNat, reduceIte, Nat.reduceEqDiff, Nat.reduceAdd, Nat.reduceMul, Nat.reduceLeDiff, Nat.reduceSub, reduceCtorEq]; (try simp (disch := omega) only [OM, mn_lo, mn_hi, mx_lo, mx_hi, if_yes, if_no, Option.map_some]); (try with_reducible exact rfl)))) | ((with_reducible apply RunD.op1); (· rfl); (· rfl); (· (simp only [go_sem, Int.reduceBEq, Int.reduceBNe, Int.reduceLT, Int.reduceLE, Int.reduceAdd, Int.reduceSub, Int.reduceToNat, reduceIte, Nat.reduceEqDiff, Nat.reduceAdd, Nat.reduceMul, Nat.reduceLeDiff, Nat.reduceSub, reduceCtorEq]; (try simp (disch := omega) only [OM, mn_lo, mn_hi, mx_lo, mx_hi, if_yes, if_no, Option.map_some]); (try with_reducible exact rfl)))) | (with_reducible apply RunD.nil))
    refine GG0 ?_
    refine told [0] [.dead] (.tup [.agg [.i .i64 r, .nils], .i .u64 0, .agg [.i .u64 0, .i .u64 0], .b false]) ?_ (by decide) ?_ ?_ ?_ rfl ?_ ?_ ?_; iterate 6 (· simp [-List.map_map, embAt, nm, rn_rw, rn_ro, rn_map, rn_iter, rn_dead, renL, Val.ren, wfAll, wn_rw, wn_ro, wn_map, wn_iter, wn_dead, wfL, Val.wf, Env.get, initEnv, gO_none])
    exact ⟨none, trivial, fun _ => rfl, rfl, rfl⟩
  · simp only [gV_some, gO_some] at hh ⊢
    rcases M with _ | ⟨x, M⟩
    · simp only [headV] at hh
      refine GG0 ?_
      (first | ((with_reducible first | apply RunP.call | apply Run.call | apply Run.call0); iterate 2 (· (simp only [go_sem, reduceIte, Nat.reduceEqDiff]; (try with_reducible exact rfl)))) | ((with_reducible first | apply Run.callY | apply RunP.callY); iterate 3 (· (simp only [go_sem, reduceIte, Nat.reduceEqDiff]; (try with_reducible exact rfl)))))
      refine sound_use (hh) [0] rfl (by decide) ?_ ?_ ?_ ?_ ?_; iterate 4 (· simp [-List.map_map, embAt, nm, rn_rw, rn_ro, rn_map, rn_iter, rn_dead, renL, Val.ren, wfAll, wn_rw, wn_ro, wn_map, wn_iter, wn_dead, wfL, Val.wf, Env.get, initEnv, rV, gV_some, gO_some, gO_new, gV_new, renL_append, wfL_append, rowC_ren, rowC_wf, go.1, go.2.1, go.2.2.1, go.2.2.2])
      rintro v C' ⟨rfl, rfl⟩
      simp only [merge, place, after, nm, MG, Val.ren, renL, rn_rw, rn_ro, rn_map, rn_iter, rn_dead, reduceIte, Nat.reduceLT, Nat.reduceAdd, Nat.reduceSub, Nat.lt_irrefl, Nat.zero_lt_one, Nat.zero_lt_succ, rV, gV_some, gO_some, gO_new, gV_new, renL_append, wfL_append, rowC_ren, rowC_wf, go.1, go.2.1, go.2.2.1, go.2.2.2]
      refine GN0 ?_
      refine ei_dregD ?_
      repeat (first
    | ((with_reducible apply RunD.op0); (· rfl); (· rfl); (· (simp only [go_sem, Int.reduceBEq, Int.reduceBNe, Int.reduceLT, Int.reduceLE, Int.reduceAdd, Int.reduceSub, Int.reduceToNat, reduceIte, Nat.reduceEqDiff, Nat.reduceAdd, Nat.reduceMul, Nat.reduceLeDiff, Nat.reduceSub, reduceCtorEq]; (try simp (disch := omega) only [OM, mn_lo, mn_hi, mx_lo, mx_hi, if_yes, if_no, Option.map_some]); (try with_reducible exact rfl)))) | ((with_reducible apply RunD.op1); (· rfl); (· rfl); (· (simp only [go_sem, Int.reduceBEq, Int.reduceBNe, Int.reduceLT, Int.reduceLE, Int.reduceAdd, Int.reduceSub, Int.reduceToNat, reduceIte, Nat.reduceEqDiff, Nat.reduceAdd, Nat.reduceMul, Nat.reduceLeDiff, Nat.reduceSub, reduceCtorEq]; (try simp (disch := omega) only [OM, mn_lo, mn_hi, mx_lo, mx_hi, if_yes, if_no, Option.map_some]); (try with_reducible exact rfl)))) | (with_reducible apply RunD.nil))
      ((apply RunD_st); (· rfl); (· rfl); (· (simp only [go_sem, Int.reduceBEq, Int.reduceBNe, Int.reduceLT, Int.reduceLE, Int.reduceAdd, Int.reduceSub, Int.reduceToNat, reduceIte, Nat.reduceEqDiff, Nat.reduceAdd, Nat.reduceMul, Nat.reduceLeDiff, Nat.reduceSub, reduceCtorEq]; (try simp (disch := omega) only [OM, mn_lo, mn_hi, mx_lo, mx_hi, if_yes, if_no, Option.map_some]); (try with_reducible exact rfl))))
      · exact recheck_cons (.inr (by (simp only [go_sem, Int.reduceBEq, Int.reduceBNe, Int.reduceLT, Int.reduceLE, Int.reduceAdd, Int.reduceSub, Int.reduceToNat, reduceIte, Nat.reduceEqDiff, Nat.reduceAdd, Nat.reduceMul, Nat.reduceLeDiff, Nat.reduceSub, reduceCtorEq]; (try simp (disch := omega) only [OM, mn_lo, mn_hi, mx_lo, mx_hi, if_yes, if_no, Option.map_some]); (try with_reducible exact rfl)))) (recheck_cons (.inl (show preOf [0, 0, 0, 0, 1, 19, 55, 127] 0 4 = true by decide)) recheck_nil)
      repeat (first
    | ((with_reducible apply RunD.op0); (· rfl); (· rfl); (· (simp only [go_sem, Int.reduceBEq, Int.reduceBNe, Int.reduceLT, Int.reduceLE, Int.reduceAdd, Int.reduceSub, Int.reduceToNat, reduceIte, Nat.reduceEqDiff, Nat.reduceAdd, Nat.reduceMul, Nat.reduceLeDiff, Nat.reduceSub, reduceCtorEq]; (try simp (disch := omega) only [OM, mn_lo, mn_hi, mx_lo, mx_hi, if_yes, if_no, Option.map_some]); (try with_reducible exact rfl)))) | ((with_reducible apply RunD.op1); (· rfl); (· rfl); (· (simp only [go_sem, Int.reduceBEq, Int.reduceBNe, Int.reduceLT, Int.reduceLE, Int.reduceAdd, Int.reduceSub, Int.reduceToNat, reduceIte, Nat.reduceEqDiff, Nat.reduceAdd, Nat.reduceMul, Nat.reduceLeDiff, Nat.reduceSub, reduceCtorEq]; (try simp (disch := omega) only [OM, mn_lo, mn_hi, mx_lo, mx_hi, if_yes, if_no, Option.map_some]); (try with_reducible exact rfl)))) | (with_reducible apply RunD.nil))
      ((apply RunD_st); (· rfl); (· rfl); (· (simp only [go_sem, Int.reduceBEq, Int.reduceBNe, Int.reduceLT, Int.reduceLE, Int.reduceAdd, Int.reduceSub, Int.reduceToNat, reduceIte, Nat.reduceEqDiff, Nat.reduceAdd, Nat.reduceMul, Nat.reduceLeDiff, Nat.reduceSub, reduceCtorEq]; (try simp (disch := omega) only [OM, mn_lo, mn_hi, mx_lo, mx_hi, if_yes, if_no, Option.map_some]); (try with_reducible exact rfl))))
      · exact recheck_cons (.inl (show preOf [0, 0, 0, 0, 1, 19, 55, 127] 2 6 = true by decide)) (recheck_cons (.inl (show preOf [0, 0, 0, 0, 1, 19, 55, 127] 0 6 = true by decide)) recheck_nil)
      repeat (first
    | ((with_reducible apply RunD.op0); (· rfl); (· rfl); (· (simp only [go_sem, Int.reduceBEq, Int.reduceBNe, Int.reduceLT, Int.reduceLE, Int.reduceAdd, Int.reduceSub, Int.reduceToNat, reduceIte, Nat.reduceEqDiff, Nat.reduceAdd, Nat.reduceMul, Nat.reduceLeDiff, Nat.reduceSub, reduceCtorEq]; (try simp (disch := omega) only [OM, mn_lo, mn_hi, mx_lo, mx_hi, if_yes, if_no, Option.map_some]); (try with_reducible exact rfl)))) | ((with_reducible apply RunD.op1); (· rfl); (· rfl); (· (simp only [go_sem, Int.reduceBEq, Int.reduceBNe, Int.reduceLT, Int.reduceLE, Int.reduceAdd, Int.reduceSub, Int.reduceToNat, reduceIte, Nat.reduceEqDiff, Nat.reduceAdd, Nat.reduceMul, Nat.reduceLeDiff, Nat.reduceSub, reduceCtorEq]; (try simp (disch := omega) only [OM, mn_lo, mn_hi, mx_lo, mx_hi, if_yes, if_no, Option.map_some]); (try with_reducible exact rfl)))) | (with_reducible apply RunD.nil))
      refine GG0 ?_
      refine told [0] [gO (some (j, k)) (rowC [])] (.tup [rV r (some (j, k)) 0 0, .i .u64 0, .agg [.i .u64 0, .i .u64 0], .b false]) ?_ (by decide) ?_ ?_ ?_ rfl ?_ ?_ ?_; iterate 6 (· simp [-List.map_map, embAt, nm, rn_rw, rn_ro, rn_map, rn_iter, rn_dead, renL, Val.ren, wfAll, wn_rw, wn_ro, wn_map, wn_iter, wn_dead, wfL, Val.wf, Env.get, initEnv, rV, gV_some, gO_some, gO_new, gV_new, renL_append, wfL_append, rowC_ren, rowC_wf, go.1, go.2.1, go.2.2.1, go.2.2.2])
      exact ⟨some (j, k), go, fun _ => rfl, rfl, rfl⟩
    · simp only [headV] at hh
      have hb1 : (0 : Int) ≤ 1 ∧ (1 : Int) ≤ (((x :: M).length : Nat) : Int) := by simp; omega
      refine GG0 ?_
      (first | ((with_reducible first | apply RunP.call | apply Run.call | apply Run.call0); iterate 2 (· (simp only [go_sem, reduceIte, Nat.reduceEqDiff]; (try with_reducible exact rfl)))) | ((with_reducible first | apply Run.callY | apply RunP.callY); iterate 3 (· (simp only [go_sem, reduceIte, Nat.reduceEqDiff]; (try with_reducible exact rfl)))))
      refine sound_use (hh) [0] rfl (by decide) ?_ ?_ ?_ ?_ ?_; iterate 4 (· simp [-List.map_map, embAt, nm, rn_rw, rn_ro, rn_map, rn_iter, rn_dead, renL, Val.ren, wfAll, wn_rw, wn_ro, wn_map, wn_iter, wn_dead, wfL, Val.wf, Env.get, initEnv, rV, gV_some, gO_some, gO_new, gV_new, renL_append, wfL_append, rowC_ren, rowC_wf, go.1, go.2.1, go.2.2.1, go.2.2.2])
      rintro v C' ⟨rfl, rfl⟩
      simp only [merge, place, after, nm, MG, Val.ren, renL, rn_rw, rn_ro, rn_map, rn_iter, rn_dead, reduceIte, Nat.reduceLT, Nat.reduceAdd, Nat.reduceSub, Nat.lt_irrefl, Nat.zero_lt_one, Nat.zero_lt_succ, rV, gV_some, gO_some, gO_new, gV_new, renL_append, wfL_append, rowC_ren, rowC_wf, go.1, go.2.1, go.2.2.1, go.2.2.2]
      simp only [List.length_cons] at hb1 ⊢
      refine GN0 ?_
      refine ei_dregD ?_
      repeat (first
    | ((with_reducible apply RunD.op0); (· rfl); (· rfl); (· (simp only [go_sem, Int.reduceBEq, Int.reduceBNe, Int.reduceLT, Int.reduceLE, Int.reduceAdd, Int.reduceSub, Int.reduceToNat, reduceIte, Nat.reduceEqDiff, Nat.reduceAdd, Nat.reduceMul, Nat.reduceLeDiff, Nat.reduceSub, reduceCtorEq]; (try simp (disch := omega) only [OM, mn_lo, mn_hi, mx_lo, mx_hi, if_yes, if_no, Option.map_some]); (try with_reducible exact rfl)))) | ((with_reducible apply RunD.op1); (· rfl); (· rfl); (· (simp only [go_sem, Int.reduceBEq, Int.reduceBNe, Int.reduceLT, Int.reduceLE, Int.reduceAdd, Int.reduceSub, Int.reduceToNat, reduceIte, Nat.reduceEqDiff, Nat.reduceAdd, Nat.reduceMul, Nat.reduceLeDiff, Nat.reduceSub, reduceCtorEq]; (try simp (disch := omega) only [OM, mn_lo, mn_hi, mx_lo, mx_hi, if_yes, if_no, Option.map_some]); (try with_reducible exact rfl)))) | (with_reducible apply RunD.nil))
      ((apply RunD_st); (· rfl); (· rfl); (· (simp only [go_sem, Int.reduceBEq, Int.reduceBNe, Int.reduceLT, Int.reduceLE, Int.reduceAdd, Int.reduceSub, Int.reduceToNat, reduceIte, Nat.reduceEqDiff, Nat.reduceAdd, Nat.reduceMul, Nat.reduceLeDiff, Nat.reduceSub, reduceCtorEq]; (try simp (disch := omega) only [OM, mn_lo, mn_hi, mx_lo, mx_hi, if_yes, if_no, Option.map_some]); (try with_reducible exact rfl))))
      · exact recheck_cons (.inr (by (simp only [go_sem, Int.reduceBEq, Int.reduceBNe, Int.reduceLT, Int.reduceLE, Int.reduceAdd, Int.reduceSub, Int.reduceToNat, reduceIte, Nat.reduceEqDiff, Nat.reduceAdd, Nat.reduceMul, Nat.reduceLeDiff, Nat.reduceSub, reduceCtorEq]; (try simp (disch := omega) only [OM, mn_lo, mn_hi, mx_lo, mx_hi, if_yes, if_no, Option.map_some]); (try with_reducible exact rfl)))) (recheck_cons (.inl (show preOf [0, 0, 0, 0, 1, 19, 55, 127] 0 4 = true by decide)) recheck_nil)
      repeat (first
    | ((with_reducible apply RunD.op0); (· rfl); (· rfl); (· (simp only [go_sem, Int.reduceBEq, Int.reduceBNe, Int.reduceLT, Int.reduceLE, Int.reduceAdd, Int.reduceSub, Int.reduceToNat, reduceIte, Nat.reduceEqDiff, Nat.reduceAdd, Nat.reduceMul, Nat.reduceLeDiff, Nat.reduceSub, reduceCtorEq]; (try simp (disch := omega) only [OM, mn_lo, mn_hi, mx_lo, mx_hi, if_yes, if_no, Option.map_some]); (try with_reducible exact rfl)))) | ((with_reducible apply RunD.op1); (· rfl); (· rfl); (· (simp only [go_sem, Int.reduceBEq, Int.reduceBNe, Int.reduceLT, Int.reduceLE, Int.reduceAdd, Int.reduceSub, Int.reduceToNat, reduceIte, Nat.reduceEqDiff, Nat.reduceAdd, Nat.reduceMul, Nat.reduceLeDiff, Nat.reduceSub, reduceCtorEq]; (try simp (disch := omega) only [OM, mn_lo, mn_hi, mx_lo, mx_hi, if_yes, if_no, Option.map_some]); (try with_reducible exact rfl)))) | (with_reducible apply RunD.nil))
      ((apply RunD_st); (· rfl); (· rfl); (· (simp only [go_sem, Int.reduceBEq, Int.reduceBNe, Int.reduceLT, Int.reduceLE, Int.reduceAdd, Int.reduceSub, Int.reduceToNat, reduceIte, Nat.reduceEqDiff, Nat.reduceAdd, Nat.reduceMul, Nat.reduceLeDiff, Nat.reduceSub, reduceCtorEq]; (try simp (disch := omega) only [OM, mn_lo, mn_hi, mx_lo, mx_hi, if_yes, if_no, Option.map_some]); (try with_reducible exact rfl))))
      · exact recheck_cons (.inl (show preOf [0, 0, 0, 0, 1, 19, 55, 127] 2 6 = true by decide)) (recheck_cons (.inl (show preOf [0, 0, 0, 0, 1, 19, 55, 127] 0 6 = true by decide)) recheck_nil)
      repeat (first
    | ((with_reducible apply RunD.op0); (· rfl); (· rfl); (· (simp only [go_sem, Int.reduceBEq, Int.reduceBNe, Int.reduceLT, Int.reduceLE, Int.reduceAdd, Int.reduceSub, Int.reduceToNat, reduceIte, Nat.reduceEqDiff, Nat.reduceAdd, Nat.reduceMul, Nat.reduceLeDiff, Nat.reduceSub, reduceCtorEq]; (try simp (disch := omega) only [OM, mn_lo, mn_hi, mx_lo, mx_hi, if_yes, if_no, Option.map_some]); (try with_reducible exact rfl)))) | ((with_reducible apply RunD.op1); (· rfl); (· rfl); (· (simp only [go_sem, Int.reduceBEq, Int.reduceBNe, Int.reduceLT, Int.reduceLE, Int.reduceAdd, Int.reduceSub, Int.reduceToNat, reduceIte, Nat.reduceEqDiff, Nat.reduceAdd, Nat.reduceMul, Nat.reduceLeDiff, Nat.reduceSub, reduceCtorEq]; (try simp (disch := omega) only [OM, mn_lo, mn_hi, mx_lo, mx_hi, if_yes, if_no, Option.map_some]); (try with_reducible exact rfl)))) | (with_reducible apply RunD.nil))
      refine GG0 ?_
      have hcell : AObj.rw (j ++ (rowC (x :: M) ++ k)) = gO (some (j ++ itC x, k)) (rowC M) := by simp [gO, rowC]
      have hval : Val.sl 0 (j.length + 3) (M.length + 1 - 1) 3 = gV (some (j ++ itC x, k)) 0 M.length 3 := by simp [gV, itC]
      have hg2 : gC (some (j ++ itC x, k)) := ⟨fun ι => by rw [renL_append, go.1]; rfl, fun m => by rw [wfL_append, go.2.1]; rfl, go.2.2.1, go.2.2.2⟩
      rw [hcell, hval]
      refine told [0] [gO (some (j ++ itC x, k)) (rowC M)] (.tup [rV r (some (j ++ itC x, k)) 0 M.length, .i .u64 x.2.2, .agg [.i .u64 x.1, .i .u64 x.2.1], .b true]) ?_ (by decide) ?_ ?_ ?_ rfl ?_ ?_ ?_; iterate 6 (· simp [-List.map_map, embAt, nm, rn_rw, rn_ro, rn_map, rn_iter, rn_dead, renL, Val.ren, wfAll, wn_rw, wn_ro, wn_map, wn_iter, wn_dead, wfL, Val.wf, Env.get, initEnv, rV, gV_ren, gV_wf, gOr_ren, gOr_wf, hg2])
      exact ⟨_, hg2, (fun e => by cases e), rfl, rfl⟩
theorem rowC_app (a b : List (Int × Int × Int)) : rowC (a ++ b) = rowC a ++ rowC b := by simp [rowC]
theorem window_row {H : Heap} {id p c : Nat} {j k : List Val} {M : List (Int × Int × Int)} (h : H[id]? = some (.rw (j ++ (rowC M ++ k)))) (hp : p + c ≤ M.length) : window H (.sl id (j.length + p * 3) c 3) 3 = some (rowC ((M.drop p).take c)) := by
  have e : M = M.take p ++ ((M.drop p).take c ++ (M.drop p).drop c) := by rw [List.take_append_drop, List.take_append_drop]
  have l1 : (rowC (M.take p)).length = p * 3 := by rw [rowC_length]; simp; omega
  have l2 : (rowC ((M.drop p).take c)).length = c * 3 := by rw [rowC_length]; simp; omega
  have hl := rowC_length M
  simp only [window, if_true, h]
  rw [if_pos (by simp; omega)]
  congr 1
  rw [show rowC M = rowC (M.take p) ++ (rowC ((M.drop p).take c) ++ rowC ((M.drop p).drop c)) by rw [← rowC_app, ← rowC_app, ← e]]
  rw [← List.append_assoc, ← List.append_assoc, List.append_assoc (j ++ _), ← l1, ← List.length_append, List.drop_left]
  simp [← l2]
theorem gAppN {e : Opd → Val} {H : Heap} {x y : Opd} {w : List Val} {id off n sz bytes : Nat} (hx : e x = .nils) (hy : e y = .sl id off n sz) (hw : window H (.sl id off n sz) sz = some w) (h0 : n ≠ 0) (hb : n * bytes ≤ 140737488355328) :
    (IOp.app sz bytes x y).step e H = some (.sl H.length 0 n sz, H ++ [.rw w]) := by
  have w0 : window H .nils sz = some [] := rfl
  simp only [IOp.step, hx, hy, hw, w0, Val.slen]
  rw [if_pos (by rw [Nat.zero_add]; exact hb), if_neg h0]
theorem gApp2 {e : Opd → Val} {H : Heap} {x y : Opd} {c w : List Val} {i0 a id off n sz bytes : Nat} (hx : e x = .sl i0 0 a sz) (h0 : H[i0]? = some (.rw c)) (hc : c.length = a * sz) (hy : e y = .sl id off n sz) (hw : window H (.sl id off n sz) sz = some w) (hb : (a + n) * bytes ≤ 140737488355328) :
    (IOp.app sz bytes x y).step e H = some (.sl H.length 0 (a + n) sz, H.set i0 .dead ++ [.rw (c ++ w)]) := by
  have w1 : window H (.sl i0 0 a sz) sz = some c := by
    simp only [window, if_true, h0]
    rw [if_pos (by omega), List.drop_zero, ← hc, List.take_length]
  simp only [IOp.step, hx, hy, hw, w1, Val.slen, h0]
  rw [if_pos hb]
def RPush (r : Nat) (o : GO) (M : List (Int × Int × Int)) (k : Int × Int) (h : Int) (v : Val) (H : Heap) : Prop :=
  (∃ e : Int, putE k h r M = (e, M) ∧ v = .tup [rV r o 0 M.length, .i .i64 e] ∧ H = [gO o (rowC M)]) ∨
  (putE k h r M = (0, ins (k.1, k.2, h) M) ∧ v = .tup [rV r gNew 1 (M.length + 1), .i .i64 0] ∧ H = [gO o (rowC M), gO gNew (rowC (ins (k.1, k.2, h) M))])
def RP1 (r : Nat) (j k : List Val) (M : List (Int × Int × Int)) (K : Int × Int) (h : Int) (n : Nat) (ρ : Env) (H : Heap) : Prop :=
  ∃ i at_ : Nat, i ≤ M.length ∧ at_ ≤ i ∧ n = M.length - i ∧ (∀ y ∈ M.take at_, klt (ekey y) K) ∧ (∀ y ∈ (M.take i).drop at_, klt K (ekey y)) ∧
    AnewS 1 [.rw (j ++ (rowC M ++ k)), .rw [.i .i64 (r : Nat), .sl 0 j.length M.length 3], .rw [.i .u64 K.1, .i .u64 K.2], .rw [.i .i64 0, .nils]] [(1, .i .u64 h), (3, .p 1 0), (5, .p 2 0), (6, .p 3 0), (7, .i .i64 0), (8, .i .i64 (at_ : Nat)), (9, .i .i64 (i : Nat))] ρ H
theorem window_row0 {H : Heap} {id c : Nat} {j k : List Val} {M : List (Int × Int × Int)} (h : H[id]? = some (.rw (j ++ (rowC M ++ k)))) (hp : c ≤ M.length) : window H (.sl id j.length c 3) 3 = some (rowC (M.take c)) := by
  have := window_row (p := 0) (c := c) h (by omega)
  simpa using this
theorem window_rowE {H : Heap} {id p : Nat} {j k : List Val} {M : List (Int × Int × Int)} (h : H[id]? = some (.rw (j ++ (rowC M ++ k)))) (hp : p ≤ M.length) : window H (.sl id (j.length + p * 3) (M.length - p) 3) 3 = some (rowC (M.drop p)) := by
  have := window_row (p := p) (c := M.length - p) h (by omega)
  rwa [List.take_of_length_le (by simp)] at this
theorem gAppZ {e : Opd → Val} {H : Heap} {x y : Opd} {w : List Val} {id off sz bytes : Nat} (hx : e x = .nils) (hy : e y = .sl id off 0 sz) (hw : window H (.sl id off 0 sz) sz = some w) :
    (IOp.app sz bytes x y).step e H = some (.nils, H) := by
  have w0 : window H .nils sz = some [] := rfl
  simp only [IOp.step, hx, hy, hw, w0, Val.slen]
  rw [if_pos (by omega), if_pos trivial]
theorem not_has {K : Int × Int} {M : List (Int × Int × Int)} {at_ : Nat} (hA : ∀ y ∈ M.take at_, klt (ekey y) K) (hB : ∀ y ∈ M.drop at_, klt K (ekey y)) : ¬ has K M = true := fun h => by
  obtain ⟨y, hy, e⟩ := has_iff.1 h
  rw [← List.take_append_drop at_ M] at hy
  rcases List.mem_append.1 hy with hy | hy
  · have := hA y hy; rw [e] at this; exact klt_irrefl _ this
  · have := hB y hy; rw [e] at this; exact klt_irrefl _ this
theorem rpush_c (r : Nat) (o : GO) (M : List (Int × Int × Int)) (go : gC o) (no : o = none → M.length = 0) (hr1 : 1 ≤ r) (hr : r ≤ 65536) (hl : M.length ≤ r) (hs : Sorted M) (K : Int × Int) (h : Int) :
    SoundM Try.prog 1 13 [rV r o 0 M.length, .i .u64 h, .agg [.i .u64 K.1, .i .u64 K.2]] [gO o (rowC M)] (RPush r o M K h) := by
  refine sound_told (sound_func Try.func13 c13 rfl (by simp) ?_)
  simp only [e13, rV]
  rcases o with _ | ⟨j, k⟩
  · obtain rfl : M = [] := List.length_eq_zero_iff.1 (no rfl)
    have hz2 : ¬ ((0 : Int) ≥ ((r : Nat) : Int)) := by omega
    simp only [gV_none, gO_none]
    refine ei_pad ?_
    simp only [List.cons_append, List.nil_append]
    refine GG0 ?_
    refine ei_loop (fun n ρ H => n = 0 ∧ AnewS 1 [.dead, .dead, .rw [.i .i64 (r : Nat), .nils], .rw [.i .u64 K.1, .i .u64 K.2], .rw [.i .i64 0, .nils]] [(1, .i .u64 h), (3, .p 2 0), (5, .p 3 0), (6, .p 4 0), (7, .i .i64 0), (8, .i .i64 0), (9, .i .i64 0)] ρ H) (n := 0) ?_ ?_
    · refine ⟨rfl, ?_⟩
      (refine anew [0, 1, 2, 3, 4] ?_ (by decide) ?_ ?_ ?_ rfl ?_ ?_ <;> simp [-List.map_map, embAt, nm, rn_rw, rn_ro, rn_map, rn_iter, rn_dead, renL, Val.ren, wfAll, wn_rw, wn_ro, wn_map, wn_iter, wn_dead, wfL, Val.wf, Env.get, initEnv, gV_ren])
    · rintro n ρ H ⟨rfl, ha⟩
      refine ei_anewS ha ?_
      (have g0 := decide_f hz2; refine GG1 ?_; clear g0)
      refine told [0, 7] [gO none (rowC []), gO gNew (rowC (ins (K.1, K.2, h) []))] (.tup [rV r gNew 1 (0 + 1), .i .i64 0]) ?_ (by decide) ?_ ?_ ?_ rfl ?_ ?_ ?_; iterate 6 (· simp [-List.map_map, embAt, nm, rn_rw, rn_ro, rn_map, rn_iter, rn_dead, renL, Val.ren, wfAll, wn_rw, wn_ro, wn_map, wn_iter, wn_dead, wfL, Val.wf, Env.get, initEnv, rV, gV_new, gO_new, gO_none, ins, rowC, itC])
      exact .inr ⟨by unfold putE; rw [if_neg (show ¬ has K [] = true from fun h => by cases h), if_neg (show ¬ ([] : List (Int × Int × Int)).length = r from fun h => by simp at h; omega)], rfl, rfl⟩
  simp only [gV_some, gO_some]
  refine GG0 ?_
  refine ei_loop (RP1 r j k M K h) (n := M.length) ?_ ?_
  · refine ⟨0, 0, by omega, by omega, by omega, by simp, by simp, ?_⟩
    (refine anew [0, 1, 2, 3] ?_ (by decide) ?_ ?_ ?_ rfl ?_ ?_ <;> simp [-List.map_map, embAt, nm, rn_rw, rn_ro, rn_map, rn_iter, rn_dead, renL, Val.ren, wfAll, wn_rw, wn_ro, wn_map, wn_iter, wn_dead, wfL, Val.wf, Env.get, initEnv, rV, gV_some, gO_some, gO_new, gV_new, renL_append, wfL_append, rowC_ren, rowC_wf, go.1, go.2.1, go.2.2.1, go.2.2.2])
  · rintro n ρ H ⟨i, at_, hi, hat, rfl, hA, hB, ha⟩
    refine ei_anewS ha ?_
    clear ha
    by_cases h1 : i = M.length
    · subst h1
      have hz : ¬ (((M.length : Nat) : Int) < ((M.length : Nat) : Int)) := by omega
      rw [List.take_length] at hB
      have hnh := not_has hA hB
      by_cases hf : M.length = r
      · have hz2 : (((M.length : Nat) : Int) ≥ ((r : Nat) : Int)) := by omega
        (have g0 := decide_f hz; have g1 := decide_t hz2; refine GG2 ?_; clear g0 g1)
        refine told [0] [gO (some (j, k)) (rowC M)] (.tup [rV r (some (j, k)) 0 M.length, .i .i64 4]) ?_ (by decide) ?_ ?_ ?_ rfl ?_ ?_ ?_; iterate 6 (· simp [-List.map_map, embAt, nm, rn_rw, rn_ro, rn_map, rn_iter, rn_dead, renL, Val.ren, wfAll, wn_rw, wn_ro, wn_map, wn_iter, wn_dead, wfL, Val.wf, Env.get, initEnv, rV, gV_some, gO_some, gO_new, gV_new, renL_append, wfL_append, rowC_ren, rowC_wf, go.1, go.2.1, go.2.2.1, go.2.2.2])
        exact .inl ⟨4, by simp only [putE]; rw [if_neg hnh, if_pos hf], rfl, rfl⟩
      · have hz2 : ¬ (((M.length : Nat) : Int) ≥ ((r : Nat) : Int)) := by omega
        have hins : ins (K.1, K.2, h) M = M.take at_ ++ (K.1, K.2, h) :: M.drop at_ := by
          conv => lhs; rw [← List.take_append_drop at_ M]
          exact ins_mid _ _ _ hA hB
        have hput : putE K h r M = (0, ins (K.1, K.2, h) M) := by simp only [putE]; rw [if_neg hnh, if_neg hf]
        have hn7 : at_ + 1 + (M.length - at_) = M.length + 1 := by omega
        have hba : (0 : Int) ≤ ((at_ : Nat) : Int) ∧ ((at_ : Nat) : Int) ≤ ((M.length : Nat) : Int) := by omega
        by_cases ha0 : at_ = 0
        · subst ha0
          refine ei_pad ?_
          simp only [List.cons_append, List.nil_append]
          (have g0 := decide_f hz; have g1 := decide_f hz2; refine GG2 ?_; clear g0 g1)
          refine Aa ((gAppZ (w := rowC (M.take 0)) (id := 0) (off := j.length) (by (simp only [go_sem, reduceIte, Nat.reduceEqDiff]; (try with_reducible exact rfl)); all_goals rfl) (by (simp only [go_sem, reduceIte, Nat.reduceEqDiff]; (try with_reducible exact rfl)); all_goals rfl) (window_row0 rfl (by omega))).trans rfl) ?_
          refine GG0 ?_
          refine Aa ((gApp2 (c := (itC (K.1, K.2, h))) (w := rowC (M.drop 0)) (i0 := 6) (a := 0 + 1) (id := 0) (off := j.length + 0 * 3) (n := M.length - 0) (by (simp only [go_sem, reduceIte, Nat.reduceEqDiff]; (try with_reducible exact rfl)); all_goals rfl) (by first | rfl | (show some (gO gNew _) = _; rw [gO_new])) (by simp [itC]; try omega) (by (simp only [go_sem, reduceIte, Nat.reduceEqDiff]; (try with_reducible exact rfl)); all_goals rfl) (window_rowE rfl hat) (by omega)).trans (by simp only [List.set_cons_succ, List.set_cons_zero, List.cons_append, List.nil_append, List.length_cons, List.length_nil, Nat.reduceAdd]; exact rfl)) ?_
          have hcell : AObj.rw ((itC (K.1, K.2, h)) ++ rowC (M.drop 0)) = gO gNew (rowC (ins (K.1, K.2, h) M)) := by
            rw [gO_new, hins]; congr 1; try simp [rowC]
          rw [hcell, hn7]
          refine GG0 ?_
          refine told [0, 7] [gO (some (j, k)) (rowC M), gO gNew (rowC (ins (K.1, K.2, h) M))] (.tup [rV r gNew 1 (M.length + 1), .i .i64 0]) ?_ (by decide) ?_ ?_ ?_ rfl ?_ ?_ ?_; iterate 6 (· simp [-List.map_map, embAt, nm, rn_rw, rn_ro, rn_map, rn_iter, rn_dead, renL, Val.ren, wfAll, wn_rw, wn_ro, wn_map, wn_iter, wn_dead, wfL, Val.wf, Env.get, initEnv, rV, gV_some, gO_some, gO_new, gV_new, renL_append, wfL_append, rowC_ren, rowC_wf, go.1, go.2.1, go.2.2.1, go.2.2.2, gOr_ren, gOr_wf, gC_new])
          exact .inr ⟨hput, rfl, rfl⟩
        · (have g0 := decide_f hz; have g1 := decide_f hz2; refine GG2 ?_; clear g0 g1)
          refine Aa ((gAppN (w := rowC (M.take at_)) (id := 0) (off := j.length) (n := at_) (by (simp only [go_sem, reduceIte, Nat.reduceEqDiff]; (try with_reducible exact rfl)); all_goals rfl) (by (simp only [go_sem, reduceIte, Nat.reduceEqDiff]; (try with_reducible exact rfl)); all_goals rfl) (window_row0 rfl hat) ha0 (by omega)).trans (by simp only [List.set_cons_succ, List.set_cons_zero, List.cons_append, List.nil_append, List.length_cons, List.length_nil, Nat.reduceAdd]; exact rfl)) ?_
          refine GG0 ?_
          have hc : (rowC (M.take at_)).length = at_ * 3 := by rw [rowC_length]; simp; omega
          (refine Aa ((gApp (sz := 3) (o := gNew) (c := rowC (M.take at_)) (new := itC (K.1, K.2, h)) (id := 4) (j := 5) (n := at_) (by (simp only [go_sem, reduceIte, Nat.reduceEqDiff]; (try with_reducible exact rfl)); all_goals rfl) (by first | rfl | (rw [gO_new]; rfl)) (by first | assumption | simp [nums]) (by first | assumption | exact fun e => absurd e gNew_ne | simp_all) (by (simp only [go_sem, reduceIte, Nat.reduceEqDiff]; (try with_reducible exact rfl))) rfl rfl (by omega)).trans (by simp only [List.set_cons_succ, List.set_cons_zero, List.cons_append, List.nil_append, List.length_cons, List.length_nil, Nat.reduceAdd]; exact rfl)) ?_)
          refine GG0 ?_
          refine Aa ((gApp2 (c := (rowC (M.take at_) ++ itC (K.1, K.2, h))) (w := rowC (M.drop at_)) (i0 := 6) (a := at_ + 1) (id := 0) (off := j.length + at_ * 3) (n := M.length - at_) (by (simp only [go_sem, reduceIte, Nat.reduceEqDiff]; (try with_reducible exact rfl)); all_goals rfl) (by first | rfl | (show some (gO gNew _) = _; rw [gO_new])) (by simp [itC, hc]; try omega) (by (simp only [go_sem, reduceIte, Nat.reduceEqDiff]; (try with_reducible exact rfl)); all_goals rfl) (window_rowE rfl hat) (by omega)).trans (by simp only [List.set_cons_succ, List.set_cons_zero, List.cons_append, List.nil_append, List.length_cons, List.length_nil, Nat.reduceAdd]; exact rfl)) ?_
          have hcell : AObj.rw ((rowC (M.take at_) ++ itC (K.1, K.2, h)) ++ rowC (M.drop at_)) = gO gNew (rowC (ins (K.1, K.2, h) M)) := by
            rw [gO_new, hins]; congr 1; try simp [rowC]
          rw [hcell, hn7]
          refine GG0 ?_
          refine told [0, 7] [gO (some (j, k)) (rowC M), gO gNew (rowC (ins (K.1, K.2, h) M))] (.tup [rV r gNew 1 (M.length + 1), .i .i64 0]) ?_ (by decide) ?_ ?_ ?_ rfl ?_ ?_ ?_; iterate 6 (· simp [-List.map_map, embAt, nm, rn_rw, rn_ro, rn_map, rn_iter, rn_dead, renL, Val.ren, wfAll, wn_rw, wn_ro, wn_map, wn_iter, wn_dead, wfL, Val.wf, Env.get, initEnv, rV, gV_some, gO_some, gO_new, gV_new, renL_append, wfL_append, rowC_ren, rowC_wf, go.1, go.2.1, go.2.2.1, go.2.2.2, gOr_ren, gOr_wf, gC_new])
          exact .inr ⟨hput, rfl, rfl⟩
    · have hlt : i < M.length := by omega
      have hz : (((i : Nat) : Int) < ((M.length : Nat) : Int)) := by omega
      obtain ⟨x, hx⟩ : ∃ x, M[i]? = some x := ⟨M[i], List.getElem?_eq_getElem hlt⟩
      obtain ⟨w1, w2, w3, w4⟩ := row_win hx j k
      have et : M.take (i + 1) = M.take i ++ [x] := by rw [List.take_add_one, hx]; rfl
      have ei : ((i : Nat) : Int) + 1 = ((i + 1 : Nat) : Int) := by omega
      by_cases hk : ekey x = K
      · have hb : (x.1 == K.1 && x.2.1 == K.2) = true := by rw [← hk]; simp [ekey]
        have hb' : (x.1 == K.1 && (x.2.1 == K.2 && true)) = true := by rw [Bool.and_true]; exact hb
        (have g0 := decide_t hz; have g1 := w2; have g2 := hb; have g3 := hb'; refine GG4 ?_; clear g0 g1 g2 g3)
        refine told [0] [gO (some (j, k)) (rowC M)] (.tup [rV r (some (j, k)) 0 M.length, .i .i64 60]) ?_ (by decide) ?_ ?_ ?_ rfl ?_ ?_ ?_; iterate 6 (· simp [-List.map_map, embAt, nm, rn_rw, rn_ro, rn_map, rn_iter, rn_dead, renL, Val.ren, wfAll, wn_rw, wn_ro, wn_map, wn_iter, wn_dead, wfL, Val.wf, Env.get, initEnv, rV, gV_some, gO_some, gO_new, gV_new, renL_append, wfL_append, rowC_ren, rowC_wf, go.1, go.2.1, go.2.2.1, go.2.2.2])
        exact .inl ⟨60, by simp only [putE]; rw [if_pos (has_iff.2 ⟨x, List.mem_of_getElem? hx, hk⟩)], rfl, rfl⟩
      · have hb : (x.1 == K.1 && x.2.1 == K.2) = false := by
          simp only [Bool.and_eq_false_iff, beq_eq_false_iff_ne]
          by_cases e : x.1 = K.1
          · exact .inr fun e2 => hk (Prod.ext e e2)
          · exact .inl e
        have hb' : (x.1 == K.1 && (x.2.1 == K.2 && true)) = false := by rw [Bool.and_true]; exact hb
        (have g0 := decide_t hz; have g1 := w2; have g2 := hb; have g3 := hb'; refine GG4 ?_; clear g0 g1 g2 g3)
        (first | ((with_reducible first | apply RunP.call | apply Run.call | apply Run.call0); iterate 2 (· (simp only [go_sem, reduceIte, Nat.reduceEqDiff]; (try with_reducible exact rfl)))) | ((with_reducible first | apply Run.callY | apply RunP.callY); iterate 3 (· (simp only [go_sem, reduceIte, Nat.reduceEqDiff]; (try with_reducible exact rfl)))))
        refine (rless_ok _ _ _ _ _).mono ?_
        rintro v H' ⟨rfl, rfl⟩
        (first | refine And.intro rfl ?_ | refine And.intro trivial ?_ | skip)
        by_cases c : klt (ekey x) K
        · (have g0 := decide_t (show klt (x.1, x.2.1) (K.1, K.2) from c); have g1 := ei; refine GG2 ?_; clear g0 g1)
          refine ⟨M.length - (i + 1), by omega, i + 1, i + 1, by omega, by omega, rfl, ?_, ?_, ?_⟩
          · intro y hy
            rw [et] at hy
            rcases List.mem_append.1 hy with hy | hy
            · have hp := hs
              rw [← List.take_append_drop (i + 1) M, et] at hp
              have := (List.pairwise_append.1 (List.pairwise_append.1 hp).1).2.2 y hy x (by simp)
              exact klt_trans this c
            · rw [List.mem_singleton] at hy; subst hy; exact c
          · intro y hy; simp at hy
          · (refine anew [0, 1, 2, 3] ?_ (by decide) ?_ ?_ ?_ rfl ?_ ?_ <;> simp [-List.map_map, embAt, nm, rn_rw, rn_ro, rn_map, rn_iter, rn_dead, renL, Val.ren, wfAll, wn_rw, wn_ro, wn_map, wn_iter, wn_dead, wfL, Val.wf, Env.get, initEnv, rV, gV_some, gO_some, gO_new, gV_new, renL_append, wfL_append, rowC_ren, rowC_wf, go.1, go.2.1, go.2.2.1, go.2.2.2])
        · have c2 : klt K (ekey x) := by
            by_cases c3 : klt K (ekey x)
            · exact c3
            · exact absurd (klt_eq c c3) hk
          (have g0 := decide_f (show ¬ klt (x.1, x.2.1) (K.1, K.2) from c); have g1 := ei; refine GG2 ?_; clear g0 g1)
          refine ⟨M.length - (i + 1), by omega, i + 1, at_, by omega, by omega, rfl, hA, ?_, ?_⟩
          · intro y hy
            rw [et, List.drop_append_of_le_length (by simp; omega)] at hy
            rcases List.mem_append.1 hy with hy | hy
            · exact hB y hy
            · rw [List.mem_singleton] at hy; subst hy; exact c2
          · (refine anew [0, 1, 2, 3] ?_ (by decide) ?_ ?_ ?_ rfl ?_ ?_ <;> simp [-List.map_map, embAt, nm, rn_rw, rn_ro, rn_map, rn_iter, rn_dead, renL, Val.ren, wfAll, wn_rw, wn_ro, wn_map, wn_iter, wn_dead, wfL, Val.wf, Env.get, initEnv, rV, gV_some, gO_some, gO_new, gV_new, renL_append, wfL_append, rowC_ren, rowC_wf, go.1, go.2.1, go.2.2.1, go.2.2.2])
end Go.Proofs.Ytjahkgfihdngkaa.IR
