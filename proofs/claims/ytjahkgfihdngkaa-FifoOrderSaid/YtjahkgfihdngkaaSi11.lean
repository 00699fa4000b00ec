/- This text of a proof shows: how two items of a queue are compared when they are sorted. -/
import Derived.Test.YtjahkgfihdngkaaGg
import Derived.Test.YtjahkgfihdngkaaFa
import Derived.Test.YtjahkgfihdngkaaSo
set_option linter.unusedVariables false
set_option linter.unusedSimpArgs false
set_option linter.constructorNameAsVariable false
namespace Go.Proofs.Ytjahkgfihdngkaa.IR
open Go Go.Proofs.Ytjahkgfihdngkaa.Ev Go.Proofs.Ytjahkgfihdngkaa.Ev.Rb
set_option linter.unusedSimpArgs false
set_option linter.unusedVariables false
set_option maxHeartbeats 4000000
attribute [local go_sem] skipV nc0 nc1 nc2 nc3 bne_self_eq_false decide_true decide_false IOp.step Opd.ev Env.get initEnv Val.cells? Val.one List.all_cons List.all_nil Bool.and_true Bool.and_self Bool.true_and bin ints eqv Val.kindNo lenNo_s lenNo_nils lenNo_sl lenNo_nilm lenNo_m lenOf_s lenOf_nils lenOf_sl lenOf_nilm unary partsOf padTo List.foldl_cons List.foldl_nil wr_nil wr_step wr_zero List.set_cons_zero List.set_cons_succ List.map_cons List.map_nil z1 z2 Nat.succ_ne_zero List.length_cons List.length_nil List.cons_append List.nil_append List.append_nil List.getElem?_cons_zero List.getElem?_cons_succ List.getElem?_nil Option.map_some Option.map_none Nat.zero_add Nat.add_zero List.drop_zero List.drop_succ_cons List.take_succ_cons List.take_zero List.take_nil and_self and_true true_and Nat.le_refl Bool.not_true Bool.not_false Option.getD_some window Val.slen bnd resV resL RV.val Bool.false_eq_true BEq.rfl Bool.true_beq Bool.false_beq beq_true beq_false mk_one ite_true ite_false eqc ceqs ceq NOp.step isK eq_self
abbrev enE : Int × Int × Int → List Val := itC
def ltE (x y : Int × Int × Int) : Prop := klt (ekey x) (ekey y)
instance (x y : Int × Int × Int) : Decidable (ltE x y) := by unfold ltE; infer_instance
theorem ltE_ord : So.Ord ltE := ⟨fun h k => klt_trans h k, fun h => klt_asymm h⟩
def cV (x y : Int × Int × Int) : Int := if ltE x y then -1 else 1
theorem cV_lt (x y : Int × Int × Int) : cV x y < 0 ↔ ltE x y := by unfold cV; split <;> simp_all
theorem cmp_c (x y : Int × Int × Int) : SoundM Try.prog 0 37 [.agg (enE x), .agg (enE y)] [] (fun v H => v = .i .i64 (cV x y) ∧ H = []) := by
  refine sound_told (sound_func Try.func37 c37 rfl (by simp) ?_)
  simp only [e37, enE, itC]
  refine GG0 ?_
  (first | ((with_reducible first | apply RunP.call | apply Run.call | apply Run.call0); iterate 2 (· (simp only [go_sem, reduceIte, Nat.reduceEqDiff]; (try with_reducible exact rfl)))) | ((with_reducible first | apply Run.callY | apply RunP.callY); iterate 3 (· (simp only [go_sem, reduceIte, Nat.reduceEqDiff]; (try with_reducible exact rfl)))))
  refine (fless_ok _ _ _ _ _).mono ?_
  rintro v H' ⟨rfl, rfl⟩
  (first | refine And.intro rfl ?_ | refine And.intro trivial ?_ | skip)
  by_cases hk : klt (x.1, x.2.1) (y.1, y.2.1)
  · (have g0 := decide_t hk; refine GG1 ?_; clear g0)
    refine told [] [] (.i .i64 (-1)) ?_ (by decide) ?_ ?_ ?_ rfl ?_ ?_ ?_; iterate 6 (· simp [-List.map_map, embAt, nm, rn_rw, rn_ro, rn_map, rn_iter, rn_dead, renL, Val.ren, wfAll, wn_rw, wn_ro, wn_map, wn_iter, wn_dead, wfL, Val.wf, Env.get, initEnv, Val.ren])
    exact ⟨by rw [cV, if_pos (show ltE x y from hk)], rfl⟩
  · (have g0 := decide_f hk; refine GG1 ?_; clear g0)
    refine told [] [] (.i .i64 1) ?_ (by decide) ?_ ?_ ?_ rfl ?_ ?_ ?_; iterate 6 (· simp [-List.map_map, embAt, nm, rn_rw, rn_ro, rn_map, rn_iter, rn_dead, renL, Val.ren, wfAll, wn_rw, wn_ro, wn_map, wn_iter, wn_dead, wfL, Val.wf, Env.get, initEnv, Val.ren])
    exact ⟨by rw [cV, if_neg (show ¬ ltE x y from hk)], rfl⟩
theorem cmp_ok (x y : Int × Int × Int) (H : Heap) : SoundCall Try.prog 37 [.agg (enE x), .agg (enE y)] H (fun v H' => v = .i .i64 (cV x y) ∧ H' = H) :=
  sound_alone (cmp_c x y) (by simp [wfL, Val.wf, itC]) (fun ι => by simp [renL, Val.ren, itC]) (fun ι => rfl) H
theorem en3 (x : Int × Int × Int) : (enE x).length = 3 := rfl
theorem en_ren (ι : Nat → Nat) (x : Int × Int × Int) : renL ι (enE x) = enE x := rfl
theorem en_wf (m : Nat) (x : Int × Int × Int) : wfL m (enE x) = true := rfl
theorem en_all (x : Int × Int × Int) : (enE x).all Val.one = true := rfl
end Go.Proofs.Ytjahkgfihdngkaa.IR
