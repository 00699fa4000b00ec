/- This text of a proof shows: what Head, Pop and New of a queue come to. -/
import Derived.Test.YtjahkgfihdngkaaGg
import Derived.Test.YtjahkgfihdngkaaFb
set_option linter.unusedVariables false
set_option linter.unusedSimpArgs false
set_option linter.constructorNameAsVariable false
namespace Go.Proofs.Ytjahkgfihdngkaa.IR
open Go Go.Proofs.Ytjahkgfihdngkaa.Ev Go.Proofs.Ytjahkgfihdngkaa.Ev.Rb
set_option linter.unusedSimpArgs false
set_option linter.unusedVariables false
set_option maxHeartbeats 4000000
attribute [local go_sem] skipV nc0 nc1 nc2 nc3 bne_self_eq_false decide_true decide_false IOp.step Opd.ev Env.get initEnv Val.cells? Val.one List.all_cons List.all_nil Bool.and_true Bool.and_self Bool.true_and bin ints eqv Val.kindNo lenNo_s lenNo_nils lenNo_sl lenNo_nilm lenNo_m lenOf_s lenOf_nils lenOf_sl lenOf_nilm unary partsOf padTo List.foldl_cons List.foldl_nil wr_nil wr_step wr_zero List.set_cons_zero List.set_cons_succ List.map_cons List.map_nil z1 z2 Nat.succ_ne_zero List.length_cons List.length_nil List.cons_append List.nil_append List.append_nil List.getElem?_cons_zero List.getElem?_cons_succ List.getElem?_nil Option.map_some Option.map_none Nat.zero_add Nat.add_zero List.drop_zero List.drop_succ_cons List.take_succ_cons List.take_zero List.take_nil and_self and_true true_and Nat.le_refl Bool.not_true Bool.not_false Option.getD_some window Val.slen bnd resV resL RV.val Bool.false_eq_true BEq.rfl Bool.true_beq Bool.false_beq beq_true beq_false mk_one ite_true ite_false eqc ceqs ceq NOp.step isK eq_self
attribute [local go_sem] Int.toNat_one Nat.one_mul gV_no nat_toNat
theorem list_cases {α : Type} (l : List α) : l = [] ∨ ∃ y r, l = y :: r := by cases l; exact .inl rfl; exact .inr ⟨_, _, rfl⟩
/-- What a look at a queue leaves. -/
def FL (q : Fq) (R : Val → Prop) (v : Val) (H : Heap) : Prop := R v ∧ H = fH q
def FstV (q : Fq) (M : List (Int × Int × Int)) (v : Val) : Prop :=
  (q.row = [] ∧ q.L = [] ∧ M = [] ∧ v = .tup [.agg [.i .u64 0, .i .u64 0, .i .u64 0], .b false, .b false]) ∨
  (∃ x l M', q.L = x :: l ∧ M = uz x :: M' ∧ M'.Perm (q.row ++ l.map uz) ∧ v = .tup [.agg (itC (uz x)), .b true, .b true]) ∨
  (∃ x r M', q.row = x :: r ∧ M = x :: M' ∧ M'.Perm (r ++ q.L.map uz) ∧ v = .tup [.agg (itC x), .b false, .b true])
theorem ffirst_c (q : Fq) (M : List (Int × Int × Int)) (h : FR q M) : SoundM Try.prog 5 31 [.p 0 0] (fH q) (FL q (FstV q M)) := by
  refine sound_told (sound_func Try.func31 c31 rfl (by simp [fH]) ?_)
  have hg := h.gc
  have hn := h.none
  have hf := first_c q.t q.L h.tr
  have hfst := h.fst
  simp only [e31, fH, TS.cells]
  refine GG0 ?_
  (first | ((with_reducible first | apply RunP.call | apply Run.call | apply Run.call0); iterate 2 (· (simp only [go_sem, reduceIte, Nat.reduceEqDiff]; (try with_reducible exact rfl)))) | ((with_reducible first | apply Run.callY | apply RunP.callY); iterate 3 (· (simp only [go_sem, reduceIte, Nat.reduceEqDiff]; (try with_reducible exact rfl)))))
  refine sound_use (hf) [1, 2, 3] rfl (by decide) ?_ ?_ ?_ ?_ ?_; iterate 4 (· simp [-List.map_map, embAt, nm, rn_rw, rn_ro, rn_map, rn_iter, rn_dead, renL, Val.ren, wfAll, wn_rw, wn_ro, wn_map, wn_iter, wn_dead, wfL, Val.wf, Env.get, initEnv, tH, fH, TS.cells, encF_ren, encF_wf, fv_ren, fv_wf, fobj_ren, fobj_wf, gV_ren, gV_wf, gOr_ren, gOr_wf, hg])
  rintro v C' ⟨rfl, rfl⟩
  simp only [merge, place, after, nm, MG, Val.ren, renL, rn_rw, rn_ro, rn_map, rn_iter, rn_dead, reduceIte, Nat.reduceLT, Nat.reduceAdd, Nat.reduceSub, Nat.lt_irrefl, Nat.zero_lt_one, Nat.zero_lt_succ, tH, fH, TS.cells, encF_ren, encF_wf, fv_ren, fv_wf, fobj_ren, fobj_wf, gV_ren, gV_wf, gOr_ren, gOr_wf, hg]
  cases hfst with
  | nil h1 h2 =>
    have hz : ((q.row.length : Nat) : Int) = 0 := by rw [h1]; rfl
    have hzb : (((q.row.length : Nat) : Int) == 0) = true := by rw [hz]; rfl
    simp only [h2, firstV, ent, Val.ren, renL]
    (have g0 := gV_len hn; have g1 := hzb; refine GG2 ?_; clear g0 g1)
    refine told [0, 1, 2, 3, 4] (fH q) (.tup [.agg [.i .u64 0, .i .u64 0, .i .u64 0], .b false, .b false]) ?_ (by decide) ?_ ?_ ?_ rfl ?_ ?_ ?_; iterate 6 (· simp [-List.map_map, embAt, nm, rn_rw, rn_ro, rn_map, rn_iter, rn_dead, renL, Val.ren, wfAll, wn_rw, wn_ro, wn_map, wn_iter, wn_dead, wfL, Val.wf, Env.get, initEnv, tH, fH, TS.cells, encF_ren, encF_wf, fv_ren, fv_wf, fobj_ren, fobj_wf, gV_ren, gV_wf, gOr_ren, gOr_wf, hg])
    exact ⟨.inl ⟨h1, h2, rfl, rfl⟩, rfl⟩
  | late x l hL hr hM =>
    rename_i M'
    simp only [hL, firstV, ent, Val.ren, renL]
    rcases list_cases q.row with hrow | ⟨y, r, hrow⟩
    · have hz : ((q.row.length : Nat) : Int) = 0 := by rw [hrow]; rfl
      have hzb : (((q.row.length : Nat) : Int) == 0) = true := by rw [hz]; rfl
      (have g0 := gV_len hn; have g1 := hzb; refine GG2 ?_; clear g0 g1)
      refine told [0, 1, 2, 3, 4] (fH q) (.tup [.agg (itC (uz x)), .b true, .b true]) ?_ (by decide) ?_ ?_ ?_ rfl ?_ ?_ ?_; iterate 6 (· simp [-List.map_map, embAt, nm, rn_rw, rn_ro, rn_map, rn_iter, rn_dead, renL, Val.ren, wfAll, wn_rw, wn_ro, wn_map, wn_iter, wn_dead, wfL, Val.wf, Env.get, initEnv, tH, fH, TS.cells, encF_ren, encF_wf, fv_ren, fv_wf, fobj_ren, fobj_wf, gV_ren, gV_wf, gOr_ren, gOr_wf, hg, itC, uz])
      exact ⟨.inr (.inl ⟨x, l, M', hL, rfl, hM, rfl⟩), rfl⟩
    · have hzb : (((q.row.length : Nat) : Int) == 0) = false := by rw [hrow]; simp; omega
      have hpos : 0 < q.row.length := by rw [hrow]; simp
      have hx : q.row[0]? = some y := by rw [hrow]; rfl
      rcases hro : q.ro with _ | ⟨a, b⟩
      · exact absurd (hn hro) (by omega)
      obtain ⟨w1, w2, w3, w4⟩ := row_win hx a b
      simp only [Nat.zero_mul, Nat.add_zero] at w1 w2 w3 w4
      simp only [gV_some, gO_some]
      (have g0 := hzb; have g1 := w2; refine GG2 ?_; clear g0 g1)
      (first | ((with_reducible first | apply RunP.call | apply Run.call | apply Run.call0); iterate 2 (· (simp only [go_sem, reduceIte, Nat.reduceEqDiff]; (try with_reducible exact rfl)))) | ((with_reducible first | apply Run.callY | apply RunP.callY); iterate 3 (· (simp only [go_sem, reduceIte, Nat.reduceEqDiff]; (try with_reducible exact rfl)))))
      refine (fless_ok _ _ _ _ _).mono ?_
      rintro v' H' ⟨rfl, rfl⟩
      (first | refine And.intro rfl ?_ | refine And.intro trivial ?_ | skip)
      (have g0 := decide_t (show klt (x.1, x.2.1) (y.1, y.2.1) from hr y r hrow); refine GG1 ?_; clear g0)
      rw [hro] at hg
      refine told [0, 1, 2, 3, 4] (fH q) (.tup [.agg (itC (uz x)), .b true, .b true]) ?_ (by decide) ?_ ?_ ?_ rfl ?_ ?_ ?_; iterate 6 (· simp [-List.map_map, embAt, nm, rn_rw, rn_ro, rn_map, rn_iter, rn_dead, renL, Val.ren, wfAll, wn_rw, wn_ro, wn_map, wn_iter, wn_dead, wfL, Val.wf, Env.get, initEnv, tH, fH, TS.cells, encF_ren, encF_wf, fv_ren, fv_wf, fobj_ren, fobj_wf, gV_ren, gV_wf, gOr_ren, gOr_wf, hro, gV_some, gO_some, renL_append, wfL_append, rowC_ren, rowC_wf, hg.1, hg.2.1, hg.2.2.1, hg.2.2.2, itC, uz])
      exact ⟨.inr (.inl ⟨x, l, M', hL, rfl, hM, rfl⟩), rfl⟩
  | row x r hR hl hM =>
    rename_i M'
    have hzb : (((q.row.length : Nat) : Int) == 0) = false := by rw [hR]; simp; omega
    have hpos : 0 < q.row.length := by rw [hR]; simp
    have hx : q.row[0]? = some x := by rw [hR]; rfl
    rcases hro : q.ro with _ | ⟨a, b⟩
    · exact absurd (hn hro) (by omega)
    rw [hro] at hg
    obtain ⟨w1, w2, w3, w4⟩ := row_win hx a b
    simp only [Nat.zero_mul, Nat.add_zero] at w1 w2 w3 w4
    simp only [gV_some, gO_some]
    rcases list_cases q.L with hLL | ⟨y, l, hLL⟩
    · simp only [hLL, firstV, ent, Val.ren, renL]
      repeat (first
    | ((first | (with_reducible first | apply Aa | apply Ab | apply Ac | apply Ad | apply Ae | apply Af | apply Na | apply Nb) | ((with_reducible first | apply Ag | apply Ah | apply Nc); · (simp only [go_sem, reduceIte, Nat.reduceEqDiff, hzb, w1, itC]; (try with_reducible exact rfl)))); · (simp only [go_sem, Int.reduceBEq, Int.reduceBNe, Int.reduceLT, Int.reduceLE, Int.reduceAdd, Int.reduceSub, Int.reduceToNat, reduceIte, Nat.reduceEqDiff, Nat.reduceAdd, Nat.reduceMul, Nat.reduceLeDiff, Nat.reduceSub, reduceCtorEq, hzb, w1, itC]; (try simp (disch := omega) only [OM, mn_lo, mn_hi, mx_lo, mx_hi, if_yes, if_no, Option.map_some, hzb, w1, itC]); (try with_reducible exact rfl)))
    | ((with_reducible first | apply Ba | apply Bb | apply Bc | apply Bd | apply Be | apply Nd); · (simp only [go_sem, reduceIte, Nat.reduceEqDiff, hzb, w1, itC]; (try with_reducible exact rfl))) | ((with_reducible first | apply Ca | apply Cb | apply Cc | apply Cd | apply Ce | apply Ne); · (simp only [go_sem, reduceIte, Nat.reduceEqDiff, hzb, w1, itC]; (try with_reducible exact rfl)))
    | ((with_reducible first | apply Dg | apply Dh); (· decide +kernel); (· (simp only [inOrd, List.getElem?_cons_succ, List.getElem?_cons_zero]; exact rfl)))
    | ((with_reducible first | apply De | apply Df); (· decide +kernel); (· (simp only [inOrd, List.getElem?_cons_succ, List.getElem?_cons_zero]; exact rfl)))
    | (with_reducible first | apply Ea | apply Eb | apply Ec | apply Ed | apply Ee | apply Ef | apply Eg | apply Eh | apply Ei | apply Ej | apply Ek | apply El | apply Em | apply En | apply Eo) | ((with_reducible apply Ep); · rfl))
      refine told [0, 1, 2, 3, 4] (fH q) (.tup [.agg (itC x), .b false, .b true]) ?_ (by decide) ?_ ?_ ?_ rfl ?_ ?_ ?_; iterate 6 (· simp [-List.map_map, embAt, nm, rn_rw, rn_ro, rn_map, rn_iter, rn_dead, renL, Val.ren, wfAll, wn_rw, wn_ro, wn_map, wn_iter, wn_dead, wfL, Val.wf, Env.get, initEnv, tH, fH, TS.cells, encF_ren, encF_wf, fv_ren, fv_wf, fobj_ren, fobj_wf, gV_ren, gV_wf, gOr_ren, gOr_wf, hro, gV_some, gO_some, renL_append, wfL_append, rowC_ren, rowC_wf, hg.1, hg.2.1, hg.2.2.1, hg.2.2.2, itC, uz])
      exact ⟨.inr (.inr ⟨x, r, M', hR, rfl, hM, rfl⟩), rfl⟩
    · simp only [hLL, firstV, ent, Val.ren, renL]
      (have g0 := hzb; have g1 := w2; refine GG2 ?_; clear g0 g1)
      (first | ((with_reducible first | apply RunP.call | apply Run.call | apply Run.call0); iterate 2 (· (simp only [go_sem, reduceIte, Nat.reduceEqDiff]; (try with_reducible exact rfl)))) | ((with_reducible first | apply Run.callY | apply RunP.callY); iterate 3 (· (simp only [go_sem, reduceIte, Nat.reduceEqDiff]; (try with_reducible exact rfl)))))
      refine (fless_ok _ _ _ _ _).mono ?_
      rintro v' H' ⟨rfl, rfl⟩
      (first | refine And.intro rfl ?_ | refine And.intro trivial ?_ | skip)
      repeat (first
    | ((first | (with_reducible first | apply Aa | apply Ab | apply Ac | apply Ad | apply Ae | apply Af | apply Na | apply Nb) | ((with_reducible first | apply Ag | apply Ah | apply Nc); · (simp only [go_sem, reduceIte, Nat.reduceEqDiff, decide_f (show ¬ klt (y.1, y.2.1) (x.1, x.2.1) from hl y l hLL), w1, itC]; (try with_reducible exact rfl)))); · (simp only [go_sem, Int.reduceBEq, Int.reduceBNe, Int.reduceLT, Int.reduceLE, Int.reduceAdd, Int.reduceSub, Int.reduceToNat, reduceIte, Nat.reduceEqDiff, Nat.reduceAdd, Nat.reduceMul, Nat.reduceLeDiff, Nat.reduceSub, reduceCtorEq, decide_f (show ¬ klt (y.1, y.2.1) (x.1, x.2.1) from hl y l hLL), w1, itC]; (try simp (disch := omega) only [OM, mn_lo, mn_hi, mx_lo, mx_hi, if_yes, if_no, Option.map_some, decide_f (show ¬ klt (y.1, y.2.1) (x.1, x.2.1) from hl y l hLL), w1, itC]); (try with_reducible exact rfl)))
    | ((with_reducible first | apply Ba | apply Bb | apply Bc | apply Bd | apply Be | apply Nd); · (simp only [go_sem, reduceIte, Nat.reduceEqDiff, decide_f (show ¬ klt (y.1, y.2.1) (x.1, x.2.1) from hl y l hLL), w1, itC]; (try with_reducible exact rfl))) | ((with_reducible first | apply Ca | apply Cb | apply Cc | apply Cd | apply Ce | apply Ne); · (simp only [go_sem, reduceIte, Nat.reduceEqDiff, decide_f (show ¬ klt (y.1, y.2.1) (x.1, x.2.1) from hl y l hLL), w1, itC]; (try with_reducible exact rfl)))
    | ((with_reducible first | apply Dg | apply Dh); (· decide +kernel); (· (simp only [inOrd, List.getElem?_cons_succ, List.getElem?_cons_zero]; exact rfl)))
    | ((with_reducible first | apply De | apply Df); (· decide +kernel); (· (simp only [inOrd, List.getElem?_cons_succ, List.getElem?_cons_zero]; exact rfl)))
    | (with_reducible first | apply Ea | apply Eb | apply Ec | apply Ed | apply Ee | apply Ef | apply Eg | apply Eh | apply Ei | apply Ej | apply Ek | apply El | apply Em | apply En | apply Eo) | ((with_reducible apply Ep); · rfl))
      refine told [0, 1, 2, 3, 4] (fH q) (.tup [.agg (itC x), .b false, .b true]) ?_ (by decide) ?_ ?_ ?_ rfl ?_ ?_ ?_; iterate 6 (· simp [-List.map_map, embAt, nm, rn_rw, rn_ro, rn_map, rn_iter, rn_dead, renL, Val.ren, wfAll, wn_rw, wn_ro, wn_map, wn_iter, wn_dead, wfL, Val.wf, Env.get, initEnv, tH, fH, TS.cells, encF_ren, encF_wf, fv_ren, fv_wf, fobj_ren, fobj_wf, gV_ren, gV_wf, gOr_ren, gOr_wf, hro, gV_some, gO_some, renL_append, wfL_append, rowC_ren, rowC_wf, hg.1, hg.2.1, hg.2.2.1, hg.2.2.2, itC, uz])
      exact ⟨.inr (.inr ⟨x, r, M', hR, rfl, hM, rfl⟩), rfl⟩
/-- What Head and Pop tell. -/
def headV : List (Int × Int × Int) → Val
  | [] => .tup [.i .u64 0, .agg [.i .u64 0, .i .u64 0], .b false]
  | x :: _ => .tup [.i .u64 x.2.2, .agg [.i .u64 x.1, .i .u64 x.2.1], .b true]
theorem fhead_c (q : Fq) (M : List (Int × Int × Int)) (h : FR q M) : SoundM Try.prog 5 16 [.p 0 0] (fH q) (FL q fun v => v = headV M) := by
  refine sound_told (sound_func Try.func16 c16 rfl (by simp [fH]) ?_)
  have hg := h.gc
  simp only [e16, fH, TS.cells]
  refine GG0 ?_
  (first | ((with_reducible first | apply RunP.call | apply Run.call | apply Run.call0); iterate 2 (· (simp only [go_sem, reduceIte, Nat.reduceEqDiff]; (try with_reducible exact rfl)))) | ((with_reducible first | apply Run.callY | apply RunP.callY); iterate 3 (· (simp only [go_sem, reduceIte, Nat.reduceEqDiff]; (try with_reducible exact rfl)))))
  refine sound_use (fnone_c q hg) [0, 1, 2, 3, 4] rfl (by decide) ?_ ?_ ?_ ?_ ?_; iterate 4 (· simp [-List.map_map, embAt, nm, rn_rw, rn_ro, rn_map, rn_iter, rn_dead, renL, Val.ren, wfAll, wn_rw, wn_ro, wn_map, wn_iter, wn_dead, wfL, Val.wf, Env.get, initEnv, tH, fH, TS.cells, encF_ren, encF_wf, fv_ren, fv_wf, fobj_ren, fobj_wf, gV_ren, gV_wf, gOr_ren, gOr_wf, hg])
  rintro v C' ⟨rfl, rfl⟩
  simp only [merge, place, after, nm, MG, Val.ren, renL, rn_rw, rn_ro, rn_map, rn_iter, rn_dead, reduceIte, Nat.reduceLT, Nat.reduceAdd, Nat.reduceSub, Nat.lt_irrefl, Nat.zero_lt_one, Nat.zero_lt_succ, tH, fH, TS.cells, encF_ren, encF_wf, fv_ren, fv_wf, fobj_ren, fobj_wf, gV_ren, gV_wf, gOr_ren, gOr_wf, hg]
  refine GG0 ?_
  (first | ((with_reducible first | apply RunP.call | apply Run.call | apply Run.call0); iterate 2 (· (simp only [go_sem, reduceIte, Nat.reduceEqDiff]; (try with_reducible exact rfl)))) | ((with_reducible first | apply Run.callY | apply RunP.callY); iterate 3 (· (simp only [go_sem, reduceIte, Nat.reduceEqDiff]; (try with_reducible exact rfl)))))
  refine sound_use (ffirst_c q M h) [0, 1, 2, 3, 4] rfl (by decide) ?_ ?_ ?_ ?_ ?_; iterate 4 (· simp [-List.map_map, embAt, nm, rn_rw, rn_ro, rn_map, rn_iter, rn_dead, renL, Val.ren, wfAll, wn_rw, wn_ro, wn_map, wn_iter, wn_dead, wfL, Val.wf, Env.get, initEnv, tH, fH, TS.cells, encF_ren, encF_wf, fv_ren, fv_wf, fobj_ren, fobj_wf, gV_ren, gV_wf, gOr_ren, gOr_wf, hg])
  rintro v C' ⟨hv, rfl⟩
  simp only [merge, place, after, nm, MG, Val.ren, renL, rn_rw, rn_ro, rn_map, rn_iter, rn_dead, reduceIte, Nat.reduceLT, Nat.reduceAdd, Nat.reduceSub, Nat.lt_irrefl, Nat.zero_lt_one, Nat.zero_lt_succ, tH, fH, TS.cells, encF_ren, encF_wf, fv_ren, fv_wf, fobj_ren, fobj_wf, gV_ren, gV_wf, gOr_ren, gOr_wf, hg]
  rcases hv with ⟨_, _, rfl, rfl⟩ | ⟨x, l, M', _, rfl, _, rfl⟩ | ⟨x, r, M', _, rfl, _, rfl⟩
  · simp only [Val.ren, renL]
    refine GG0 ?_
    refine told [0, 1, 2, 3, 4] (fH q) (headV []) ?_ (by decide) ?_ ?_ ?_ rfl ?_ ?_ ?_; iterate 6 (· simp [-List.map_map, embAt, nm, rn_rw, rn_ro, rn_map, rn_iter, rn_dead, renL, Val.ren, wfAll, wn_rw, wn_ro, wn_map, wn_iter, wn_dead, wfL, Val.wf, Env.get, initEnv, tH, fH, TS.cells, encF_ren, encF_wf, fv_ren, fv_wf, fobj_ren, fobj_wf, gV_ren, gV_wf, gOr_ren, gOr_wf, hg, headV])
    exact ⟨rfl, rfl⟩
  · simp only [Val.ren, renL, itC, uz]
    refine GG0 ?_
    refine told [0, 1, 2, 3, 4] (fH q) (headV (uz x :: M')) ?_ (by decide) ?_ ?_ ?_ rfl ?_ ?_ ?_; iterate 6 (· simp [-List.map_map, embAt, nm, rn_rw, rn_ro, rn_map, rn_iter, rn_dead, renL, Val.ren, wfAll, wn_rw, wn_ro, wn_map, wn_iter, wn_dead, wfL, Val.wf, Env.get, initEnv, tH, fH, TS.cells, encF_ren, encF_wf, fv_ren, fv_wf, fobj_ren, fobj_wf, gV_ren, gV_wf, gOr_ren, gOr_wf, hg, headV, uz])
    exact ⟨rfl, rfl⟩
  · simp only [Val.ren, renL, itC]
    refine GG0 ?_
    refine told [0, 1, 2, 3, 4] (fH q) (headV (x :: M')) ?_ (by decide) ?_ ?_ ?_ rfl ?_ ?_ ?_; iterate 6 (· simp [-List.map_map, embAt, nm, rn_rw, rn_ro, rn_map, rn_iter, rn_dead, renL, Val.ren, wfAll, wn_rw, wn_ro, wn_map, wn_iter, wn_dead, wfL, Val.wf, Env.get, initEnv, tH, fH, TS.cells, encF_ren, encF_wf, fv_ren, fv_wf, fobj_ren, fobj_wf, gV_ren, gV_wf, gOr_ren, gOr_wf, hg, headV])
    exact ⟨rfl, rfl⟩
theorem fpop_c (q : Fq) (M : List (Int × Int × Int)) (h : FR q M) : SoundM Try.prog 1 14 [.p 0 0] (fH q) (FPost' q (headV M) M.tail) := by
  refine sound_told (sound_func Try.func14 c14 rfl (by simp [fH]) ?_)
  have hg := h.gc
  have hn := h.none
  simp only [e14, fH, TS.cells]
  refine GG0 ?_
  (first | ((with_reducible first | apply RunP.call | apply Run.call | apply Run.call0); iterate 2 (· (simp only [go_sem, reduceIte, Nat.reduceEqDiff]; (try with_reducible exact rfl)))) | ((with_reducible first | apply Run.callY | apply RunP.callY); iterate 3 (· (simp only [go_sem, reduceIte, Nat.reduceEqDiff]; (try with_reducible exact rfl)))))
  refine sound_use (fnone_c q hg) [0, 1, 2, 3, 4] rfl (by decide) ?_ ?_ ?_ ?_ ?_; iterate 4 (· simp [-List.map_map, embAt, nm, rn_rw, rn_ro, rn_map, rn_iter, rn_dead, renL, Val.ren, wfAll, wn_rw, wn_ro, wn_map, wn_iter, wn_dead, wfL, Val.wf, Env.get, initEnv, tH, fH, TS.cells, encF_ren, encF_wf, fv_ren, fv_wf, fobj_ren, fobj_wf, gV_ren, gV_wf, gOr_ren, gOr_wf, hg])
  rintro v C' ⟨rfl, rfl⟩
  simp only [merge, place, after, nm, MG, Val.ren, renL, rn_rw, rn_ro, rn_map, rn_iter, rn_dead, reduceIte, Nat.reduceLT, Nat.reduceAdd, Nat.reduceSub, Nat.lt_irrefl, Nat.zero_lt_one, Nat.zero_lt_succ, tH, fH, TS.cells, encF_ren, encF_wf, fv_ren, fv_wf, fobj_ren, fobj_wf, gV_ren, gV_wf, gOr_ren, gOr_wf, hg]
  refine GG0 ?_
  (first | ((with_reducible first | apply RunP.call | apply Run.call | apply Run.call0); iterate 2 (· (simp only [go_sem, reduceIte, Nat.reduceEqDiff]; (try with_reducible exact rfl)))) | ((with_reducible first | apply Run.callY | apply RunP.callY); iterate 3 (· (simp only [go_sem, reduceIte, Nat.reduceEqDiff]; (try with_reducible exact rfl)))))
  refine sound_use (ffirst_c q M h) [0, 1, 2, 3, 4] rfl (by decide) ?_ ?_ ?_ ?_ ?_; iterate 4 (· simp [-List.map_map, embAt, nm, rn_rw, rn_ro, rn_map, rn_iter, rn_dead, renL, Val.ren, wfAll, wn_rw, wn_ro, wn_map, wn_iter, wn_dead, wfL, Val.wf, Env.get, initEnv, tH, fH, TS.cells, encF_ren, encF_wf, fv_ren, fv_wf, fobj_ren, fobj_wf, gV_ren, gV_wf, gOr_ren, gOr_wf, hg])
  rintro v C' ⟨hv, rfl⟩
  simp only [merge, place, after, nm, MG, Val.ren, renL, rn_rw, rn_ro, rn_map, rn_iter, rn_dead, reduceIte, Nat.reduceLT, Nat.reduceAdd, Nat.reduceSub, Nat.lt_irrefl, Nat.zero_lt_one, Nat.zero_lt_succ, tH, fH, TS.cells, encF_ren, encF_wf, fv_ren, fv_wf, fobj_ren, fobj_wf, gV_ren, gV_wf, gOr_ren, gOr_wf, hg]
  rcases hv with ⟨_, _, rfl, rfl⟩ | ⟨x, l, M', hL, rfl, hp, rfl⟩ | ⟨x, r, M', hR, rfl, hp, rfl⟩
  · simp only [Val.ren, renL]
    refine GG0 ?_
    refine told [0, 1, 2, 3, 4] (fH q) (headV []) ?_ (by decide) ?_ ?_ ?_ rfl ?_ ?_ ?_; iterate 6 (· simp [-List.map_map, embAt, nm, rn_rw, rn_ro, rn_map, rn_iter, rn_dead, renL, Val.ren, wfAll, wn_rw, wn_ro, wn_map, wn_iter, wn_dead, wfL, Val.wf, Env.get, initEnv, tH, fH, TS.cells, encF_ren, encF_wf, fv_ren, fv_wf, fobj_ren, fobj_wf, gV_ren, gV_wf, gOr_ren, gOr_wf, hg, headV])
    exact ⟨rfl, q, h, rfl, rfl⟩
  · have hdel : del (x.1, x.2.1) q.L = l := by
      have hs := h.tr.sorted
      rw [hL] at hs ⊢
      exact del_mid (a := []) rfl hs
    have hdrop := drop_c q.t q.L h.tr (x.1, x.2.1)
    rw [hdel] at hdrop
    simp only [Val.ren, renL, itC, uz]
    refine GG0 ?_
    (first | ((with_reducible first | apply RunP.call | apply Run.call | apply Run.call0); iterate 2 (· (simp only [go_sem, reduceIte, Nat.reduceEqDiff]; (try with_reducible exact rfl)))) | ((with_reducible first | apply Run.callY | apply RunP.callY); iterate 3 (· (simp only [go_sem, reduceIte, Nat.reduceEqDiff]; (try with_reducible exact rfl)))))
    refine sound_use (hdrop) [1, 2, 3] rfl (by decide) ?_ ?_ ?_ ?_ ?_; iterate 4 (· simp [-List.map_map, embAt, nm, rn_rw, rn_ro, rn_map, rn_iter, rn_dead, renL, Val.ren, wfAll, wn_rw, wn_ro, wn_map, wn_iter, wn_dead, wfL, Val.wf, Env.get, initEnv, tH, fH, TS.cells, encF_ren, encF_wf, fv_ren, fv_wf, fobj_ren, fobj_wf, gV_ren, gV_wf, gOr_ren, gOr_wf, hg])
    rintro v C' ⟨rfl, t', ht, htr, rfl⟩
    simp only [merge, place, after, nm, MG, Val.ren, renL, rn_rw, rn_ro, rn_map, rn_iter, rn_dead, reduceIte, Nat.reduceLT, Nat.reduceAdd, Nat.reduceSub, Nat.lt_irrefl, Nat.zero_lt_one, Nat.zero_lt_succ, tH, fH, TS.cells, encF_ren, encF_wf, fv_ren, fv_wf, fobj_ren, fobj_wf, gV_ren, gV_wf, gOr_ren, gOr_wf, hg]
    (first | refine And.intro rfl ?_ | refine And.intro trivial ?_ | skip)
    refine GG0 ?_
    have eh : fH { q with t := t', L := l } = [.rw [gV q.ro 4 q.row.length 3, .p 1 0, .i .i64 (q.room : Nat)], .rw (t'.cells t'.s 2 3), .rw (encF t'.s.f t'.len), t'.fobj, gO q.ro (rowC q.row)] := rfl
    refine told [0, 1, 7, 8, 4] (fH { q with t := t', L := l }) (headV (uz x :: M')) ?_ (by decide) ?_ ?_ ?_ rfl ?_ ?_ ?_; iterate 6 (· simp [-List.map_map, embAt, nm, rn_rw, rn_ro, rn_map, rn_iter, rn_dead, renL, Val.ren, wfAll, wn_rw, wn_ro, wn_map, wn_iter, wn_dead, wfL, Val.wf, Env.get, initEnv, eh, TS.cells, encF_ren, encF_wf, fv_ren, fv_wf, fobj_ren, fobj_wf, gV_ren, gV_wf, gOr_ren, gOr_wf, hg, headV, uz])
    refine ⟨rfl, { q with t := t', L := l }, ⟨ht, htr.trans h.troom, h.rs, hp, (List.pairwise_cons.1 h.sorted).2, ?_, fun y hy => h.u y (by simp at hy ⊢; exact .inr hy), h.gc, h.none⟩, rfl, rfl⟩
    have := h.le; simp at this ⊢; omega
  · have hpos : 0 < q.row.length := by rw [hR]; simp
    rcases hro : q.ro with _ | ⟨a, b⟩
    · exact absurd (hn hro) (by omega)
    rw [hro] at hg
    simp only [Val.ren, renL, itC, gV_some, gO_some]
    have hrl := h.rlen
    have hb1 : (0 : Int) ≤ 1 ∧ (1 : Int) ≤ ((q.row.length : Nat) : Int) := by omega
    refine GG0 ?_
    have hcell : AObj.rw (a ++ (rowC q.row ++ b)) = gO (some (a ++ itC x, b)) (rowC r) := by rw [hR]; simp [gO, rowC]
    have hval : Val.sl 4 (a.length + 3) (q.row.length - 1) 3 = gV (some (a ++ itC x, b)) 4 r.length 3 := by rw [hR]; simp [gV, itC]
    have hg2 : gC (some (a ++ itC x, b)) := ⟨fun ι => by rw [renL_append, hg.1]; rfl, fun m => by rw [wfL_append, hg.2.1]; rfl, hg.2.2.1, hg.2.2.2⟩
    have eh : fH { q with row := r, ro := some (a ++ itC x, b) } = [.rw [gV (some (a ++ itC x, b)) 4 r.length 3, .p 1 0, .i .i64 (q.room : Nat)], .rw (q.t.cells q.t.s 2 3), .rw (encF q.t.s.f q.t.len), q.t.fobj, gO (some (a ++ itC x, b)) (rowC r)] := rfl
    rw [hcell, hval]
    refine told [0, 1, 2, 3, 4] (fH { q with row := r, ro := some (a ++ itC x, b) }) (headV (x :: M')) ?_ (by decide) ?_ ?_ ?_ rfl ?_ ?_ ?_; iterate 6 (· simp [-List.map_map, embAt, nm, rn_rw, rn_ro, rn_map, rn_iter, rn_dead, renL, Val.ren, wfAll, wn_rw, wn_ro, wn_map, wn_iter, wn_dead, wfL, Val.wf, Env.get, initEnv, eh, TS.cells, encF_ren, encF_wf, fv_ren, fv_wf, fobj_ren, fobj_wf, gV_ren, gV_wf, gOr_ren, gOr_wf, hg2, headV])
    refine ⟨rfl, { q with row := r, ro := some (a ++ itC x, b) }, ⟨h.tr, h.troom, ?_, hp, (List.pairwise_cons.1 h.sorted).2, ?_, fun y hy => h.u y (by simp at hy ⊢; exact .inr hy), hg2, fun e => (by cases e)⟩, rfl, rfl⟩
    · have := h.rs; rw [hR] at this; exact (List.pairwise_cons.1 this).2
    · have := h.le; simp at this ⊢; omega
/-- A new queue, or none. -/
def newFq (room : Nat) : Fq := { t := newTS room, L := [], row := [], ro := none, room := room }
theorem newFq_rep {room : Nat} (h : 1 ≤ room) (h2 : room ≤ 65536) : FR (newFq room) [] :=
  ⟨newTS_rep h h2, rfl, .nil, .refl _, .nil, by show 0 ≤ room; omega, by simp, trivial, fun _ => rfl⟩
def NewP (n : Int) (v : Val) (H : Heap) : Prop := if n < 1 ∨ n > 65536 then v = .tup [.nilp, .i .i64 2] ∧ H = [] else v = .tup [.p 0 0, .i .i64 0] ∧ H = fH (newFq n.toNat)
theorem fnew_c (n : Int) : SoundM Try.prog 0 9 [.i .i64 n] [] (NewP n) := by
  refine sound_told (sound_func Try.func9 c9 rfl (by simp) ?_)
  simp only [e9]
  by_cases hb : n < 1 ∨ n > 65536
  · have hc := tnew_c n
    simp only [if_pos hb] at hc
    refine GG0 ?_
    (first | ((with_reducible first | apply RunP.call | apply Run.call | apply Run.call0); iterate 2 (· (simp only [go_sem, reduceIte, Nat.reduceEqDiff]; (try with_reducible exact rfl)))) | ((with_reducible first | apply Run.callY | apply RunP.callY); iterate 3 (· (simp only [go_sem, reduceIte, Nat.reduceEqDiff]; (try with_reducible exact rfl)))))
    refine sound_use (hc) [] rfl (by decide) ?_ ?_ ?_ ?_ ?_; iterate 4 (· simp [-List.map_map, embAt, nm, rn_rw, rn_ro, rn_map, rn_iter, rn_dead, renL, Val.ren, wfAll, wn_rw, wn_ro, wn_map, wn_iter, wn_dead, wfL, Val.wf, Env.get, initEnv, Val.ren])
    rintro v C' ⟨rfl, rfl⟩
    simp only [merge, place, after, nm, MG, Val.ren, renL, rn_rw, rn_ro, rn_map, rn_iter, rn_dead, reduceIte, Nat.reduceLT, Nat.reduceAdd, Nat.reduceSub, Nat.lt_irrefl, Nat.zero_lt_one, Nat.zero_lt_succ]
    refine GG0 ?_
    refine told [] [] (.tup [.nilp, .i .i64 2]) ?_ (by decide) ?_ ?_ ?_ rfl ?_ ?_ ?_; iterate 6 (· simp [-List.map_map, embAt, nm, rn_rw, rn_ro, rn_map, rn_iter, rn_dead, renL, Val.ren, wfAll, wn_rw, wn_ro, wn_map, wn_iter, wn_dead, wfL, Val.wf, Env.get, initEnv, Val.ren])
    unfold NewP; rw [if_pos hb]; exact ⟨rfl, rfl⟩
  · have hc := tnew_c n
    simp only [if_neg hb] at hc
    have en : ((n.toNat : Nat) : Int) = n := by omega
    refine ei_pad ?_
    refine GG0 ?_
    (first | ((with_reducible first | apply RunP.call | apply Run.call | apply Run.call0); iterate 2 (· (simp only [go_sem, reduceIte, Nat.reduceEqDiff]; (try with_reducible exact rfl)))) | ((with_reducible first | apply Run.callY | apply RunP.callY); iterate 3 (· (simp only [go_sem, reduceIte, Nat.reduceEqDiff]; (try with_reducible exact rfl)))))
    refine sound_use (hc) [] rfl (by decide) ?_ ?_ ?_ ?_ ?_; iterate 4 (· simp [-List.map_map, embAt, nm, rn_rw, rn_ro, rn_map, rn_iter, rn_dead, renL, Val.ren, wfAll, wn_rw, wn_ro, wn_map, wn_iter, wn_dead, wfL, Val.wf, Env.get, initEnv, Val.ren])
    rintro v C' ⟨rfl, rfl⟩
    simp only [merge, place, after, nm, MG, Val.ren, renL, rn_rw, rn_ro, rn_map, rn_iter, rn_dead, reduceIte, Nat.reduceLT, Nat.reduceAdd, Nat.reduceSub, Nat.lt_irrefl, Nat.zero_lt_one, Nat.zero_lt_succ, tH, TS.cells, encF_ren, encF_wf, fv_ren, fv_wf, fobj_ren, fobj_wf]
    refine GG0 ?_
    have eh : fH (newFq n.toNat) = [.rw [.nils, .p 1 0, .i .i64 n], .rw ((newTS n.toNat).cells (newTS n.toNat).s 2 3), .rw (encF (newTS n.toNat).s.f (newTS n.toNat).len), (newTS n.toNat).fobj, .dead] := by
      simp only [fH, newFq, gV_none, gO_none, en]
    refine told [4, 1, 2, 3, 0] (fH (newFq n.toNat)) (.tup [.p 0 0, .i .i64 0]) ?_ (by decide) ?_ ?_ ?_ rfl ?_ ?_ ?_; iterate 6 (· simp [-List.map_map, embAt, nm, rn_rw, rn_ro, rn_map, rn_iter, rn_dead, renL, Val.ren, wfAll, wn_rw, wn_ro, wn_map, wn_iter, wn_dead, wfL, Val.wf, Env.get, initEnv, eh, TS.cells, encF_ren, encF_wf, fv_ren, fv_wf, fobj_ren, fobj_wf])
    unfold NewP; rw [if_neg hb]; exact ⟨rfl, rfl⟩
end Go.Proofs.Ytjahkgfihdngkaa.IR
