/- This text of a proof shows: how a pivot is chosen, and a row is stirred. -/
import Derived.Test.YtjahkgfihdngkaaGg
import Derived.Test.YtjahkgfihdngkaaSb
import Derived.Test.YtjahkgfihdngkaaS11
set_option linter.unusedVariables false
set_option linter.unusedSimpArgs false
set_option linter.constructorNameAsVariable false
namespace Go.Proofs.Ytjahkgfihdngkaa.IR
open Go Go.Proofs.Ytjahkgfihdngkaa.Ev Go.Proofs.Ytjahkgfihdngkaa.Ev.Rb Go.Proofs.Ytjahkgfihdngkaa.Ev.So
set_option linter.unusedSimpArgs false
set_option linter.unusedVariables false
set_option maxHeartbeats 4000000
attribute [local go_sem] skipV nc0 nc1 nc2 nc3 bne_self_eq_false decide_true decide_false IOp.step Opd.ev Env.get initEnv Val.cells? Val.one List.all_cons List.all_nil Bool.and_true Bool.and_self Bool.true_and bin ints eqv Val.kindNo lenNo_s lenNo_nils lenNo_sl lenNo_nilm lenNo_m lenOf_s lenOf_nils lenOf_sl lenOf_nilm unary partsOf padTo List.foldl_cons List.foldl_nil wr_nil wr_step wr_zero List.set_cons_zero List.set_cons_succ List.map_cons List.map_nil z1 z2 Nat.succ_ne_zero List.length_cons List.length_nil List.cons_append List.nil_append List.append_nil List.getElem?_cons_zero List.getElem?_cons_succ List.getElem?_nil Option.map_some Option.map_none Nat.zero_add Nat.add_zero List.drop_zero List.drop_succ_cons List.take_succ_cons List.take_zero List.take_nil and_self and_true true_and Nat.le_refl Bool.not_true Bool.not_false Option.getD_some window Val.slen bnd resV resL RV.val Bool.false_eq_true BEq.rfl Bool.true_beq Bool.false_beq beq_true beq_false mk_one ite_true ite_false eqc ceqs ceq NOp.step isK eq_self
attribute [local go_sem] nat_toNat en_all en3
def Cp (f : Row) (n a b : Nat) (v : Val) (H : Heap) : Prop := ∃ (c : Nat) (h : Int), a ≤ c ∧ c < b ∧ v = .tup [.i .i64 (c : Nat), .i .i64 h] ∧ H = [.rw (rC f n)]
theorem choose_c (f : Row) (n a b : Nat) (hab : a + 8 ≤ b) (hb : b ≤ n) (hn : n ≤ 100000) :
    SoundM Try.prog 1 57 [(.sl 0 0 n 3), .i .i64 (a : Nat), .i .i64 (b : Nat), (.fn (.func 37) [] [])] [.rw (rC f n)] (Cp f n a b) := by
  refine sound_told (sound_func Try.func57 c57 rfl (by simp) ?_)
  obtain ⟨l, rfl⟩ : ∃ l, b = a + l := ⟨b - a, by omega⟩
  have e0 : (((a + l : Nat) : Int)) - ((a : Nat) : Int) = ((l : Nat) : Int) := by omega
  have e1 : ((l : Nat) : Int) / 4 = ((l / 4 : Nat) : Int) := by omega
  obtain ⟨i, j, k, hi, hj, hk⟩ : ∃ i j k, i = a + l / 4 ∧ j = a + 2 * (l / 4) ∧ k = a + 3 * (l / 4) := ⟨_, _, _, rfl, rfl, rfl⟩
  have ei : ((a : Nat) : Int) + ((l / 4 : Nat) : Int) * 1 = (i : Nat) := by omega
  have ej : ((a : Nat) : Int) + ((l / 4 : Nat) : Int) * 2 = (j : Nat) := by omega
  have ek : ((a : Nat) : Int) + ((l / 4 : Nat) : Int) * 3 = (k : Nat) := by omega
  have hl8 : ((l : Nat) : Int) ≥ 8 := by omega
  simp only [e57]
  (have g0 := e0; have g1 := e1; have g2 := ei; have g3 := ej; have g4 := ek; have g5 := decide_t hl8; refine GG6 ?_; clear g0 g1 g2 g3 g4 g5)
  refine ei_mid (M := fun ρ H => ∃ (x y z : Nat) (s : Int), a ≤ x ∧ x < a + l ∧ a ≤ y ∧ y < a + l ∧ a ≤ z ∧ z < a + l ∧ 0 ≤ s ∧ s ≤ 9 ∧ AnewS 1 [.rw (rC f n), .rw [.i .i64 s]] [(0, (.sl 0 0 n 3)), (3, (.fn (.func 37) [] [])), (11, .p 1 0), (12, .i .i64 (x : Nat)), (13, .i .i64 (y : Nat)), (14, .i .i64 (z : Nat))] ρ H) ?_ ?_
  · by_cases h50 : l ≥ 50
    · have hd : ((l : Nat) : Int) ≥ 50 := by omega
      (have g0 := decide_t hd; refine GG1 ?_; clear g0)
      (first | ((with_reducible first | apply RunP.call | apply Run.call | apply Run.call0); iterate 2 (· (simp only [go_sem, reduceIte, Nat.reduceEqDiff]; (try with_reducible exact rfl)))) | ((with_reducible first | apply Run.callY | apply RunP.callY); iterate 3 (· (simp only [go_sem, reduceIte, Nat.reduceEqDiff]; (try with_reducible exact rfl)))))
      refine sound_use (medianA_c f n i 0 (by omega) (by omega) hn (by omega)) [0, 1] rfl (by decide) ?_ ?_ ?_ ?_ ?_; iterate 4 (· simp [-List.map_map, embAt, nm, rn_rw, rn_ro, rn_map, rn_iter, rn_dead, renL, Val.ren, wfAll, wn_rw, wn_ro, wn_map, wn_iter, wn_dead, wfL, Val.wf, Env.get, initEnv, rC_ren, rC_wf])
      rintro v C' ⟨x, s1, hx, hs1, hs1', rfl, rfl⟩
      simp only [merge, place, after, nm, MG, Val.ren, renL, rn_rw, rn_ro, rn_map, rn_iter, rn_dead, reduceIte, Nat.reduceLT, Nat.reduceAdd, Nat.reduceSub, Nat.lt_irrefl, Nat.zero_lt_one, Nat.zero_lt_succ, rC_ren]
      refine GG0 ?_
      (first | ((with_reducible first | apply RunP.call | apply Run.call | apply Run.call0); iterate 2 (· (simp only [go_sem, reduceIte, Nat.reduceEqDiff]; (try with_reducible exact rfl)))) | ((with_reducible first | apply Run.callY | apply RunP.callY); iterate 3 (· (simp only [go_sem, reduceIte, Nat.reduceEqDiff]; (try with_reducible exact rfl)))))
      refine sound_use (medianA_c f n j s1 (by omega) (by omega) hn (by omega)) [0, 1] rfl (by decide) ?_ ?_ ?_ ?_ ?_; iterate 4 (· simp [-List.map_map, embAt, nm, rn_rw, rn_ro, rn_map, rn_iter, rn_dead, renL, Val.ren, wfAll, wn_rw, wn_ro, wn_map, wn_iter, wn_dead, wfL, Val.wf, Env.get, initEnv, rC_ren, rC_wf])
      rintro v C' ⟨y, s2, hy, hs2, hs2', rfl, rfl⟩
      simp only [merge, place, after, nm, MG, Val.ren, renL, rn_rw, rn_ro, rn_map, rn_iter, rn_dead, reduceIte, Nat.reduceLT, Nat.reduceAdd, Nat.reduceSub, Nat.lt_irrefl, Nat.zero_lt_one, Nat.zero_lt_succ, rC_ren]
      refine GG0 ?_
      (first | ((with_reducible first | apply RunP.call | apply Run.call | apply Run.call0); iterate 2 (· (simp only [go_sem, reduceIte, Nat.reduceEqDiff]; (try with_reducible exact rfl)))) | ((with_reducible first | apply Run.callY | apply RunP.callY); iterate 3 (· (simp only [go_sem, reduceIte, Nat.reduceEqDiff]; (try with_reducible exact rfl)))))
      refine sound_use (medianA_c f n k s2 (by omega) (by omega) hn (by omega)) [0, 1] rfl (by decide) ?_ ?_ ?_ ?_ ?_; iterate 4 (· simp [-List.map_map, embAt, nm, rn_rw, rn_ro, rn_map, rn_iter, rn_dead, renL, Val.ren, wfAll, wn_rw, wn_ro, wn_map, wn_iter, wn_dead, wfL, Val.wf, Env.get, initEnv, rC_ren, rC_wf])
      rintro v C' ⟨z, s3, hz, hs3, hs3', rfl, rfl⟩
      simp only [merge, place, after, nm, MG, Val.ren, renL, rn_rw, rn_ro, rn_map, rn_iter, rn_dead, reduceIte, Nat.reduceLT, Nat.reduceAdd, Nat.reduceSub, Nat.lt_irrefl, Nat.zero_lt_one, Nat.zero_lt_succ, rC_ren]
      refine GG0 ?_
      refine ⟨x, y, z, s3, by omega, by omega, by omega, by omega, by omega, by omega, by omega, by omega, ?_⟩
      (refine anew [0, 1] ?_ (by decide) ?_ ?_ ?_ rfl ?_ ?_ <;> simp [-List.map_map, embAt, nm, rn_rw, rn_ro, rn_map, rn_iter, rn_dead, renL, Val.ren, wfAll, wn_rw, wn_ro, wn_map, wn_iter, wn_dead, wfL, Val.wf, Env.get, initEnv, rC_ren, rC_wf])
    · have hd : ¬ ((l : Nat) : Int) ≥ 50 := by omega
      (have g0 := decide_f hd; refine GG1 ?_; clear g0)
      refine ⟨i, j, k, 0, by omega, by omega, by omega, by omega, by omega, by omega, by omega, by omega, ?_⟩
      (refine anew [0, 1] ?_ (by decide) ?_ ?_ ?_ rfl ?_ ?_ <;> simp [-List.map_map, embAt, nm, rn_rw, rn_ro, rn_map, rn_iter, rn_dead, renL, Val.ren, wfAll, wn_rw, wn_ro, wn_map, wn_iter, wn_dead, wfL, Val.wf, Env.get, initEnv, rC_ren, rC_wf])
  · rintro ρ' H' ⟨x, y, z, s, x1, x2, y1, y2, z1, z2, s1, s2, ha⟩
    refine ei_anewS ha ?_
    refine GG0 ?_
    (first | ((with_reducible first | apply RunP.call | apply Run.call | apply Run.call0); iterate 2 (· (simp only [go_sem, reduceIte, Nat.reduceEqDiff]; (try with_reducible exact rfl)))) | ((with_reducible first | apply Run.callY | apply RunP.callY); iterate 3 (· (simp only [go_sem, reduceIte, Nat.reduceEqDiff]; (try with_reducible exact rfl)))))
    refine sound_use (median_c f n x y z s (by omega) (by omega) (by omega) hn (by omega)) [0, 1] rfl (by decide) ?_ ?_ ?_ ?_ ?_; iterate 4 (· simp [-List.map_map, embAt, nm, rn_rw, rn_ro, rn_map, rn_iter, rn_dead, renL, Val.ren, wfAll, wn_rw, wn_ro, wn_map, wn_iter, wn_dead, wfL, Val.wf, Env.get, initEnv, rC_ren, rC_wf])
    rintro v C' ⟨w, s3, hw, hs3, hs3', rfl, rfl⟩
    simp only [merge, place, after, nm, MG, Val.ren, renL, rn_rw, rn_ro, rn_map, rn_iter, rn_dead, reduceIte, Nat.reduceLT, Nat.reduceAdd, Nat.reduceSub, Nat.lt_irrefl, Nat.zero_lt_one, Nat.zero_lt_succ, rC_ren]
    refine GG0 ?_
    have hwb : a ≤ w ∧ w < a + l := by omega
    by_cases h0 : s3 = 0
    · have hb0 : (s3 == 0) = true := by simp [h0]
      (have g0 := hb0; refine GG1 ?_; clear g0)
      refine told [0] [.rw (rC f n)] (.tup [.i .i64 (w : Nat), .i .i64 1]) ?_ (by decide) ?_ ?_ ?_ rfl ?_ ?_ ?_; iterate 6 (· simp [-List.map_map, embAt, nm, rn_rw, rn_ro, rn_map, rn_iter, rn_dead, renL, Val.ren, wfAll, wn_rw, wn_ro, wn_map, wn_iter, wn_dead, wfL, Val.wf, Env.get, initEnv, rC_ren, rC_wf])
      exact ⟨w, 1, hwb.1, hwb.2, rfl, rfl⟩
    · have hb0 : (s3 == 0) = false := by simpa using h0
      by_cases h12 : s3 = 12
      · have hb1 : (s3 == 12) = true := by simp [h12]
        (have g0 := hb0; have g1 := hb1; refine GG2 ?_; clear g0 g1)
        refine told [0] [.rw (rC f n)] (.tup [.i .i64 (w : Nat), .i .i64 2]) ?_ (by decide) ?_ ?_ ?_ rfl ?_ ?_ ?_; iterate 6 (· simp [-List.map_map, embAt, nm, rn_rw, rn_ro, rn_map, rn_iter, rn_dead, renL, Val.ren, wfAll, wn_rw, wn_ro, wn_map, wn_iter, wn_dead, wfL, Val.wf, Env.get, initEnv, rC_ren, rC_wf])
        exact ⟨w, 2, hwb.1, hwb.2, rfl, rfl⟩
      · have hb1 : (s3 == 12) = false := by simpa using h12
        (have g0 := hb0; have g1 := hb1; refine GG2 ?_; clear g0 g1)
        refine told [0] [.rw (rC f n)] (.tup [.i .i64 (w : Nat), .i .i64 0]) ?_ (by decide) ?_ ?_ ?_ rfl ?_ ?_ ?_; iterate 6 (· simp [-List.map_map, embAt, nm, rn_rw, rn_ro, rn_map, rn_iter, rn_dead, renL, Val.ren, wfAll, wn_rw, wn_ro, wn_map, wn_iter, wn_dead, wfL, Val.wf, Env.get, initEnv, rC_ren, rC_wf])
        exact ⟨w, 0, hwb.1, hwb.2, rfl, rfl⟩
end Go.Proofs.Ytjahkgfihdngkaa.IR
