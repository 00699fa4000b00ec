/- This text of a proof shows: what turns a row round, and what chooses a pivot. -/
import Derived.Test.YtjahkgfihdngkaaGg
import Derived.Test.YtjahkgfihdngkaaSa
set_option linter.unusedVariables false
set_option linter.unusedSimpArgs false
set_option linter.constructorNameAsVariable false
namespace Go.Proofs.Ytjahkgfihdngkaa.IR
open Go Go.Proofs.Ytjahkgfihdngkaa.Ev Go.Proofs.Ytjahkgfihdngkaa.Ev.Rb Go.Proofs.Ytjahkgfihdngkaa.Ev.So
set_option linter.unusedSimpArgs false
set_option linter.unusedVariables false
set_option maxHeartbeats 4000000
attribute [local go_sem] skipV nc0 nc1 nc2 nc3 bne_self_eq_false decide_true decide_false IOp.step Opd.ev Env.get initEnv Val.cells? Val.one List.all_cons List.all_nil Bool.and_true Bool.and_self Bool.true_and bin ints eqv Val.kindNo lenNo_s lenNo_nils lenNo_sl lenNo_nilm lenNo_m lenOf_s lenOf_nils lenOf_sl lenOf_nilm unary partsOf padTo List.foldl_cons List.foldl_nil wr_nil wr_step wr_zero List.set_cons_zero List.set_cons_succ List.map_cons List.map_nil z1 z2 Nat.succ_ne_zero List.length_cons List.length_nil List.cons_append List.nil_append List.append_nil List.getElem?_cons_zero List.getElem?_cons_succ List.getElem?_nil Option.map_some Option.map_none Nat.zero_add Nat.add_zero List.drop_zero List.drop_succ_cons List.take_succ_cons List.take_zero List.take_nil and_self and_true true_and Nat.le_refl Bool.not_true Bool.not_false Option.getD_some window Val.slen bnd resV resL RV.val Bool.false_eq_true BEq.rfl Bool.true_beq Bool.false_beq beq_true beq_false mk_one ite_true ite_false eqc ceqs ceq NOp.step isK eq_self
attribute [local go_sem] nat_toNat en_all en3
def RvI (f : Row) (n a b : Nat) (k : Nat) (ρ : Env) (H : Heap) : Prop :=
  ∃ (i j : Int) (g : Row), (a : Int) ≤ i ∧ j < (b : Int) ∧ i ≤ (b : Int) ∧ (a : Int) ≤ j + 1 ∧ k = (j + 1 - i).toNat ∧ Sws a b f g ∧ AnewS 1 [.rw (rC g n)] [(0, (.sl 0 0 n 3)), (8, .i .i64 i), (9, .i .i64 j)] ρ H
theorem rev_c (f : Row) (n a b : Nat) (hab : a ≤ b) (hb : b ≤ n) (hn : n ≤ 100000) :
    SoundM Try.prog 1 58 [(.sl 0 0 n 3), .i .i64 (a : Nat), .i .i64 (b : Nat), (.fn (.func 37) [] [])] [.rw (rC f n)] (Sw f n a b fun v _ => v = .tup []) := by
  refine sound_told (sound_func Try.func58 c58 rfl (by simp) ?_)
  simp only [e58]
  refine GG0 ?_
  refine ei_loop (RvI f n a b) (n := b - a) ?_ ?_
  · refine ⟨(a : Nat), (b : Nat) - 1, f, by omega, by omega, by omega, by omega, by omega, .refl, ?_⟩
    (refine anew [0] ?_ (by decide) ?_ ?_ ?_ rfl ?_ ?_ <;> simp [-List.map_map, embAt, nm, rn_rw, rn_ro, rn_map, rn_iter, rn_dead, renL, Val.ren, wfAll, wn_rw, wn_ro, wn_map, wn_iter, wn_dead, wfL, Val.wf, Env.get, initEnv, rC_ren, rC_wf])
  · rintro k ρ H ⟨i, j, g, h1, h2, h3, h4, rfl, hs, ha⟩
    refine ei_anewS ha ?_
    clear ha
    by_cases hlt : i < j
    · obtain ⟨p, rfl⟩ : ∃ p : Nat, i = (p : Nat) := ⟨i.toNat, by omega⟩
      obtain ⟨q, rfl⟩ : ∃ q : Nat, j = (q : Nat) := ⟨j.toNat, by omega⟩
      have hl3 := rC_len g n
      (have g0 := decide_t hlt; have g1 := fun qf => rC_get (f := qf) (show p < n by omega); have g2 := fun qf => rC_get (f := qf) (show q < n by omega); have g3 := fun qf q0 => rC_wr (f := qf) q0 (show p < n by omega); have g4 := fun qf q0 => rC_wr (f := qf) q0 (show q < n by omega); have g5 := rC_len; refine GG6 ?_; clear g0 g1 g2 g3 g4 g5)
      have hsw : rC (So.upd (So.upd g p (g q)) q (g p)) n = rC (swp g p q) n := rfl
      rw [hsw]
      refine ⟨((q : Int) - 1 + 1 - ((p : Int) + 1)).toNat, by omega, _, _, swp g p q, by omega, by omega, by omega, by omega, rfl, .swap p q hs ⟨by omega, by omega⟩ ⟨by omega, by omega⟩, ?_⟩
      (refine anew [0] ?_ (by decide) ?_ ?_ ?_ rfl ?_ ?_ <;> simp [-List.map_map, embAt, nm, rn_rw, rn_ro, rn_map, rn_iter, rn_dead, renL, Val.ren, wfAll, wn_rw, wn_ro, wn_map, wn_iter, wn_dead, wfL, Val.wf, Env.get, initEnv, rC_ren, rC_wf])
    · (have g0 := decide_f hlt; refine GG1 ?_; clear g0)
      refine told [0] [.rw (rC g n)] (.tup []) ?_ (by decide) ?_ ?_ ?_ rfl ?_ ?_ ?_; iterate 6 (· simp [-List.map_map, embAt, nm, rn_rw, rn_ro, rn_map, rn_iter, rn_dead, renL, Val.ren, wfAll, wn_rw, wn_ro, wn_map, wn_iter, wn_dead, wfL, Val.wf, Env.get, initEnv, rC_ren, rC_wf])
      exact ⟨g, hs, rfl, rfl⟩
/-- Two places, in some order; how often they were exchanged. -/
def O2 (f : Row) (n a b : Nat) (s : Int) (v : Val) (H : Heap) : Prop := ∃ (c d : Nat) (s' : Int), (c = a ∧ d = b ∨ c = b ∧ d = a) ∧ s ≤ s' ∧ s' ≤ s + 1 ∧ v = .tup [.i .i64 (c : Nat), .i .i64 (d : Nat)] ∧ H = [.rw (rC f n), .rw [.i .i64 s']]
theorem order2_c (f : Row) (n a b : Nat) (s : Int) (ha : a < n) (hb : b < n) (hn : n ≤ 100000) (hs : 0 ≤ s ∧ s ≤ 1000) :
    SoundM Try.prog 2 69 [(.sl 0 0 n 3), .i .i64 (a : Nat), .i .i64 (b : Nat), .p 1 0, (.fn (.func 37) [] [])] [.rw (rC f n), .rw [.i .i64 s]] (O2 f n a b s) := by
  refine sound_told (sound_func Try.func69 c69 rfl (by simp) ?_)
  have hl3 := rC_len f n
  simp only [e69]
  (have g0 := fun qf => rC_get (f := qf) ha; have g1 := fun qf => rC_get (f := qf) hb; refine GG2 ?_; clear g0 g1)
  (first | ((with_reducible first | apply RunP.call | apply Run.call | apply Run.call0); iterate 2 (· (simp only [go_sem, reduceIte, Nat.reduceEqDiff]; (try with_reducible exact rfl)))) | ((with_reducible first | apply Run.callY | apply RunP.callY); iterate 3 (· (simp only [go_sem, reduceIte, Nat.reduceEqDiff]; (try with_reducible exact rfl)))))
  refine (cmp_ok _ _ _).mono ?_
  rintro v H' ⟨rfl, rfl⟩
  (first | refine And.intro rfl ?_ | refine And.intro trivial ?_ | skip)
  by_cases hc : cV (f b) (f a) < 0
  · (have g0 := decide_t hc; refine GG1 ?_; clear g0)
    refine told [0, 1] [.rw (rC f n), .rw [.i .i64 (s + 1)]] (.tup [.i .i64 (b : Nat), .i .i64 (a : Nat)]) ?_ (by decide) ?_ ?_ ?_ rfl ?_ ?_ ?_; iterate 6 (· simp [-List.map_map, embAt, nm, rn_rw, rn_ro, rn_map, rn_iter, rn_dead, renL, Val.ren, wfAll, wn_rw, wn_ro, wn_map, wn_iter, wn_dead, wfL, Val.wf, Env.get, initEnv, rC_ren, rC_wf])
    exact ⟨b, a, s + 1, .inr ⟨rfl, rfl⟩, by omega, by omega, rfl, rfl⟩
  · (have g0 := decide_f hc; refine GG1 ?_; clear g0)
    refine told [0, 1] [.rw (rC f n), .rw [.i .i64 s]] (.tup [.i .i64 (a : Nat), .i .i64 (b : Nat)]) ?_ (by decide) ?_ ?_ ?_ rfl ?_ ?_ ?_; iterate 6 (· simp [-List.map_map, embAt, nm, rn_rw, rn_ro, rn_map, rn_iter, rn_dead, renL, Val.ren, wfAll, wn_rw, wn_ro, wn_map, wn_iter, wn_dead, wfL, Val.wf, Env.get, initEnv, rC_ren, rC_wf])
    exact ⟨a, b, s, .inl ⟨rfl, rfl⟩, by omega, by omega, rfl, rfl⟩
def Md (f : Row) (n : Nat) (P : Nat → Prop) (s : Int) (v : Val) (H : Heap) : Prop := ∃ (c : Nat) (s' : Int), P c ∧ s ≤ s' ∧ s' ≤ s + 3 ∧ v = .i .i64 (c : Nat) ∧ H = [.rw (rC f n), .rw [.i .i64 s']]
theorem median_c (f : Row) (n a b c : Nat) (s : Int) (ha : a < n) (hb : b < n) (hcn : c < n) (hn : n ≤ 100000) (hs : 0 ≤ s ∧ s ≤ 990) :
    SoundM Try.prog 2 68 [(.sl 0 0 n 3), .i .i64 (a : Nat), .i .i64 (b : Nat), .i .i64 (c : Nat), .p 1 0, (.fn (.func 37) [] [])] [.rw (rC f n), .rw [.i .i64 s]] (Md f n (fun x => x = a ∨ x = b ∨ x = c) s) := by
  refine sound_told (sound_func Try.func68 c68 rfl (by simp) ?_)
  simp only [e68]
  refine GG0 ?_
  (first | ((with_reducible first | apply RunP.call | apply Run.call | apply Run.call0); iterate 2 (· (simp only [go_sem, reduceIte, Nat.reduceEqDiff]; (try with_reducible exact rfl)))) | ((with_reducible first | apply Run.callY | apply RunP.callY); iterate 3 (· (simp only [go_sem, reduceIte, Nat.reduceEqDiff]; (try with_reducible exact rfl)))))
  refine sound_use (order2_c f n a b s ha hb hn (by omega)) [0, 1] rfl (by decide) ?_ ?_ ?_ ?_ ?_; iterate 4 (· simp [-List.map_map, embAt, nm, rn_rw, rn_ro, rn_map, rn_iter, rn_dead, renL, Val.ren, wfAll, wn_rw, wn_ro, wn_map, wn_iter, wn_dead, wfL, Val.wf, Env.get, initEnv, rC_ren, rC_wf])
  rintro v C' ⟨x1, y1, s1, hxy1, hs1, hs1', rfl, rfl⟩
  simp only [merge, place, after, nm, MG, Val.ren, renL, rn_rw, rn_ro, rn_map, rn_iter, rn_dead, reduceIte, Nat.reduceLT, Nat.reduceAdd, Nat.reduceSub, Nat.lt_irrefl, Nat.zero_lt_one, Nat.zero_lt_succ, rC_ren]
  have hx1 : x1 < n := by rcases hxy1 with ⟨h, _⟩ | ⟨h, _⟩ <;> omega
  have hy1 : y1 < n := by rcases hxy1 with ⟨_, h⟩ | ⟨_, h⟩ <;> omega
  refine GG0 ?_
  (first | ((with_reducible first | apply RunP.call | apply Run.call | apply Run.call0); iterate 2 (· (simp only [go_sem, reduceIte, Nat.reduceEqDiff]; (try with_reducible exact rfl)))) | ((with_reducible first | apply Run.callY | apply RunP.callY); iterate 3 (· (simp only [go_sem, reduceIte, Nat.reduceEqDiff]; (try with_reducible exact rfl)))))
  refine sound_use (order2_c f n y1 c s1 hy1 hcn hn (by omega)) [0, 1] rfl (by decide) ?_ ?_ ?_ ?_ ?_; iterate 4 (· simp [-List.map_map, embAt, nm, rn_rw, rn_ro, rn_map, rn_iter, rn_dead, renL, Val.ren, wfAll, wn_rw, wn_ro, wn_map, wn_iter, wn_dead, wfL, Val.wf, Env.get, initEnv, rC_ren, rC_wf])
  rintro v C' ⟨x2, y2, s2, hxy2, hs2, hs2', rfl, rfl⟩
  simp only [merge, place, after, nm, MG, Val.ren, renL, rn_rw, rn_ro, rn_map, rn_iter, rn_dead, reduceIte, Nat.reduceLT, Nat.reduceAdd, Nat.reduceSub, Nat.lt_irrefl, Nat.zero_lt_one, Nat.zero_lt_succ, rC_ren]
  have hx2 : x2 < n := by rcases hxy2 with ⟨h, _⟩ | ⟨h, _⟩ <;> omega
  refine GG0 ?_
  (first | ((with_reducible first | apply RunP.call | apply Run.call | apply Run.call0); iterate 2 (· (simp only [go_sem, reduceIte, Nat.reduceEqDiff]; (try with_reducible exact rfl)))) | ((with_reducible first | apply Run.callY | apply RunP.callY); iterate 3 (· (simp only [go_sem, reduceIte, Nat.reduceEqDiff]; (try with_reducible exact rfl)))))
  refine sound_use (order2_c f n x1 x2 s2 hx1 hx2 hn (by omega)) [0, 1] rfl (by decide) ?_ ?_ ?_ ?_ ?_; iterate 4 (· simp [-List.map_map, embAt, nm, rn_rw, rn_ro, rn_map, rn_iter, rn_dead, renL, Val.ren, wfAll, wn_rw, wn_ro, wn_map, wn_iter, wn_dead, wfL, Val.wf, Env.get, initEnv, rC_ren, rC_wf])
  rintro v C' ⟨x3, y3, s3, hxy3, hs3, hs3', rfl, rfl⟩
  simp only [merge, place, after, nm, MG, Val.ren, renL, rn_rw, rn_ro, rn_map, rn_iter, rn_dead, reduceIte, Nat.reduceLT, Nat.reduceAdd, Nat.reduceSub, Nat.lt_irrefl, Nat.zero_lt_one, Nat.zero_lt_succ, rC_ren]
  refine GG0 ?_
  refine told [0, 1] [.rw (rC f n), .rw [.i .i64 s3]] (.i .i64 (y3 : Nat)) ?_ (by decide) ?_ ?_ ?_ rfl ?_ ?_ ?_; iterate 6 (· simp [-List.map_map, embAt, nm, rn_rw, rn_ro, rn_map, rn_iter, rn_dead, renL, Val.ren, wfAll, wn_rw, wn_ro, wn_map, wn_iter, wn_dead, wfL, Val.wf, Env.get, initEnv, rC_ren, rC_wf])
  exact ⟨y3, s3, by omega, by omega, by omega, rfl, rfl⟩
theorem medianA_c (f : Row) (n a : Nat) (s : Int) (h1 : 1 ≤ a) (ha : a + 1 < n) (hn : n ≤ 100000) (hs : 0 ≤ s ∧ s ≤ 990) :
    SoundM Try.prog 2 67 [(.sl 0 0 n 3), .i .i64 (a : Nat), .p 1 0, (.fn (.func 37) [] [])] [.rw (rC f n), .rw [.i .i64 s]] (Md f n (fun x => a - 1 ≤ x ∧ x ≤ a + 1) s) := by
  refine sound_told (sound_func Try.func67 c67 rfl (by simp) ?_)
  simp only [e67]
  have e1 : ((a : Nat) : Int) - 1 = ((a - 1 : Nat) : Int) := by omega
  have e2 : ((a : Nat) : Int) + 1 = ((a + 1 : Nat) : Int) := by omega
  (have g0 := e1; have g1 := e2; refine GG2 ?_; clear g0 g1)
  (first | ((with_reducible first | apply RunP.call | apply Run.call | apply Run.call0); iterate 2 (· (simp only [go_sem, reduceIte, Nat.reduceEqDiff]; (try with_reducible exact rfl)))) | ((with_reducible first | apply Run.callY | apply RunP.callY); iterate 3 (· (simp only [go_sem, reduceIte, Nat.reduceEqDiff]; (try with_reducible exact rfl)))))
  refine sound_use (median_c f n (a - 1) a (a + 1) s (by omega) (by omega) (by omega) hn hs) [0, 1] rfl (by decide) ?_ ?_ ?_ ?_ ?_; iterate 4 (· simp [-List.map_map, embAt, nm, rn_rw, rn_ro, rn_map, rn_iter, rn_dead, renL, Val.ren, wfAll, wn_rw, wn_ro, wn_map, wn_iter, wn_dead, wfL, Val.wf, Env.get, initEnv, rC_ren, rC_wf])
  rintro v C' ⟨x, s1, hx, hs1, hs1', rfl, rfl⟩
  simp only [merge, place, after, nm, MG, Val.ren, renL, rn_rw, rn_ro, rn_map, rn_iter, rn_dead, reduceIte, Nat.reduceLT, Nat.reduceAdd, Nat.reduceSub, Nat.lt_irrefl, Nat.zero_lt_one, Nat.zero_lt_succ, rC_ren]
  refine GG0 ?_
  refine told [0, 1] [.rw (rC f n), .rw [.i .i64 s1]] (.i .i64 (x : Nat)) ?_ (by decide) ?_ ?_ ?_ rfl ?_ ?_ ?_; iterate 6 (· simp [-List.map_map, embAt, nm, rn_rw, rn_ro, rn_map, rn_iter, rn_dead, renL, Val.ren, wfAll, wn_rw, wn_ro, wn_map, wn_iter, wn_dead, wfL, Val.wf, Env.get, initEnv, rC_ren, rC_wf])
  exact ⟨x, s1, by omega, hs1, hs1', rfl, rfl⟩
end Go.Proofs.Ytjahkgfihdngkaa.IR
