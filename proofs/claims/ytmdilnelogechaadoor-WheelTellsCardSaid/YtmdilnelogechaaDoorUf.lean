/- This text of a proof shows: what a bitmap's Next comes to. -/
import Derived.Test.YtmdilnelogechaaDoorGg
import Derived.Test.YtmdilnelogechaaDoorUa
set_option linter.unusedVariables false
set_option linter.unusedSimpArgs false
set_option linter.constructorNameAsVariable false
namespace Go.Proofs.YtmdilnelogechaaDoor.IR
open Go Go.Proofs.YtmdilnelogechaaDoor.Ev

set_option linter.unusedSimpArgs false
set_option linter.unusedVariables false
set_option maxHeartbeats 4000000
attribute [local go_sem] skipV nc0 nc1 nc2 nc3 bne_self_eq_false decide_true decide_false IOp.step Opd.ev Env.get initEnv Val.cells? Val.one List.all_cons List.all_nil Bool.and_true Bool.and_self Bool.true_and bin_shr6 bin_rem bin_shrw bin_shl1 bin_shl6 bin_and1 bin_or bin_andNot bitN_eq bin_quo bin_mul bin_add bin_sub bin_lss bin_leq bin_gtr bin_geq bin_eql bin_neq eqv Val.kindNo lenNo_s lenNo_nils lenNo_sl lenNo_nilm lenNo_m lenOf_s lenOf_nils lenOf_sl lenOf_nilm unary mxs mx2 partsOf padTo List.foldl_cons List.foldl_nil wr_nil wr_step wr_zero List.set_cons_zero List.set_cons_succ List.map_cons List.map_nil z1 z2 Nat.succ_ne_zero List.length_cons List.length_nil List.cons_append List.nil_append List.append_nil List.getElem?_cons_zero List.getElem?_cons_succ List.getElem?_nil Option.map_some Option.map_none Nat.zero_add Nat.add_zero List.drop_zero List.drop_succ_cons List.take_succ_cons List.take_zero List.take_nil and_self and_true true_and Nat.le_refl Bool.not_true Bool.not_false Option.getD_some window Val.slen bnd resV resL RV.val Bool.false_eq_true BEq.rfl Bool.true_beq Bool.false_beq beq_true beq_false mk_one ite_true ite_false eqc ceqs ceq
attribute [local go_sem] Int.toNat_natCast Nat.mul_one
attribute [local simp] Wd_ren Wd_wf
def NextPost' (b : BB) (j : Nat) (v : Val) (H' : Heap) : Prop :=
  H' = b.heap ∧ ((∃ i : Nat, Least b.p j i ∧ v = .tup [.i .i64 i, .b true]) ∨ ((∀ k, j ≤ k → b.p k = false) ∧ v = .tup [.i .i64 0, .b false]))
def NextPost (b : BB) (i : Int) : Val → Heap → Prop := NextPost' b i.toNat
theorem addn1 (a : Nat) : (a : Int) + 1 = ((a + 1 : Nat) : Int) := rfl
theorem nzt {x : Nat} (h : x ≠ 0) : ((x : Int) != 0) = true := by simp [h]
theorem nzf {x : Nat} (h : x = 0) : ((x : Int) != 0) = false := by rw [h]; rfl
theorem tzn_c (x : Nat) (h : x < 18446744073709551616) (H : Heap) : SoundCall Tryd.prog 74 [.i .u64 (x : Int)] H (fun v H' => v = .i .i64 (Lib.ctz 64 x) ∧ H' = H) := by
  have := tz_c (x : Int) (by omega) (by omega) H
  rwa [Int.toNat_natCast] at this
theorem BB.lt0 {b : BB} (hb : b.ok) {k : Nat} (h : b.p k = true) : k < b.n := by
  apply Nat.lt_of_not_le; intro hge; have := hb.below k hge; rw [h] at this; exact Bool.noConfusion this
theorem BB.lt1 {b : BB} (hb : b.ok) {k : Nat} (h : up b.p k = true) : k < b.L := by
  apply Nat.lt_of_not_le; intro hge; have := hb.below.up k (by rw [← hb.L]; exact hge); rw [h] at this; exact Bool.noConfusion this
theorem BB.lt2 {b : BB} (hb : b.ok) {k : Nat} (h : up (up b.p) k = true) : k < b.M := by
  apply Nat.lt_of_not_le; intro hge; have := hb.below.up.up k (by rw [← hb.L, ← hb.M]; exact hge); rw [h] at this; exact Bool.noConfusion this
theorem next1_c (b : BB) (hb : b.ok) (h : (b.n ≤ 64) = True) (i : Int) : SoundM Tryd.prog b.m 55 [.p 0 0, .i .i64 i] b.heap (NextPost b i) := by
  have hn0 := hb.n0
  have hn1 := hb.n1
  have hL := hb.L
  have hM := hb.M
  have h' := True.intro
  have hs1 := of_eq_true h
  conv => arg 2; simp only [BB.m, h, h', if_true, if_false]
  refine sound_told (sound_func Tryd.func55 c55 rfl (by simp [BB.heap, h, h']) ?_)
  simp only [e55, s55]
  conv => arg 6; simp only [BB.heap, h, h', if_true, if_false]
  obtain ⟨j, hj⟩ : ∃ j : Nat, i.toNat = j := ⟨_, rfl⟩
  have hmx : (if (0 : Int) > i then (0 : Int) else i) = (j : Int) := by split <;> omega
  rw [show NextPost b i = NextPost' b j by unfold NextPost; rw [hj]]
  (have g0 := hmx; refine GG1 ?_; clear g0)
  have hp := place_c b j
  simp only [BB.m, BB.heap, h, h', if_true, if_false] at hp
  (first | ((with_reducible apply RunP.call); (· (simp only [go_sem, reduceIte, Nat.reduceEqDiff]; (try with_reducible exact rfl))); (· (simp only [go_sem, reduceIte, Nat.reduceEqDiff]; (try with_reducible exact rfl)))) | ((with_reducible apply Run.call); (· (simp only [go_sem, reduceIte, Nat.reduceEqDiff]; (try with_reducible exact rfl))); (· (simp only [go_sem, reduceIte, Nat.reduceEqDiff]; (try with_reducible exact rfl)))) | ((with_reducible apply Run.callY); (· (simp only [go_sem, reduceIte, Nat.reduceEqDiff]; (try with_reducible exact rfl))); (· (simp only [go_sem, reduceIte, Nat.reduceEqDiff]; (try with_reducible exact rfl))); (· (simp only [go_sem, reduceIte, Nat.reduceEqDiff]; (try with_reducible exact rfl)))) | ((with_reducible apply RunP.callY); (· (simp only [go_sem, reduceIte, Nat.reduceEqDiff]; (try with_reducible exact rfl))); (· (simp only [go_sem, reduceIte, Nat.reduceEqDiff]; (try with_reducible exact rfl))); (· (simp only [go_sem, reduceIte, Nat.reduceEqDiff]; (try with_reducible exact rfl)))) | ((with_reducible apply Run.call0); (· (simp only [go_sem, reduceIte, Nat.reduceEqDiff]; (try with_reducible exact rfl))); (· (simp only [go_sem, reduceIte, Nat.reduceEqDiff]; (try with_reducible exact rfl)))))
  refine sound_use (hp) [0, 1, 2] rfl (by decide) (by simp [-List.map_map, embAt, nm, AObj.ren, renL, Val.ren, nc0]) (by simp [-List.map_map, wfAll, AObj.wf, wfL, Val.wf, nc0]) (by simp [-List.map_map, Val.wf, wfL, nc0]) (by simp [-List.map_map, Val.ren, renL, nm, nc0]) ?_
  rintro v C' ⟨rfl, rfl⟩
  simp only [merge, place, after, nm, MG, Val.ren, renL, AObj.ren, reduceIte, Nat.reduceLT, Nat.reduceAdd, Nat.reduceSub, Nat.lt_irrefl, Nat.zero_lt_one, Nat.zero_lt_succ, Wd_ren]
  rw [decide_t (p := (0 : Int) ≤ j) (by omega)]
  by_cases hjn : j < b.n
  · rw [decide_t (p := (j : Int) < b.n) (by omega)]
    refine GG0 ?_
    have gz0 : decide (((j / 64 : Nat) : Int) < 1) = true := decide_t (by omega)
    refine ei_unroll 4 (unr ?_)
    (have g0 := Wd_get; have g1 := addn; have g2 := addn1; have g3 := gz0; refine GG4 ?_; clear g0 g1 g2 g3)
    by_cases z0 : word b.p (j / 64) / 2 ^ (j % 64) = 0
    · have f0 : (((word b.p (j / 64) / 2 ^ (j % 64) : Nat) : Int) != 0) = false := nzf z0
      have n1 : ∀ k, b.p k = true → j ≤ k → 64 * (j / 64 + 1) ≤ k := fun k e hk => by apply Nat.le_of_not_lt; intro hlt; have := none_word b.p j z0 k hk hlt; rw [e] at this; exact Bool.noConfusion this
      (have g0 := Wd_get; have g1 := addn; have g2 := addn1; have g3 := f0; refine GG4 ?_; clear g0 g1 g2 g3)
      repeat (refine unr ?_; (have g0 := Wd_get; have g1 := addn; have g2 := addn1; refine GG3 ?_; clear g0 g1 g2))
      refine told [0, 1, 2] b.heap (.tup [.i .i64 0, .b false]) (by simp [BB.heap, h, h'] <;> fail) (by decide) (by simp [-List.map_map, embAt, nm, AObj.ren, renL, Val.ren, BB.heap, h, h']) (by simp [-List.map_map, wfAll, AObj.wf, wfL, Val.wf, BB.heap, h, h']) (by simp [BB.heap, h, h']) rfl (by simp [-List.map_map, Val.wf, wfL, BB.heap, h, h']) (by simp [-List.map_map, Val.ren, renL, nm, BB.heap, h, h']) ?_
      exact ⟨rfl, .inr ⟨fun k hk => by cases e : b.p k with | false => rfl | true => have := n1 k e hk; have := BB.lt0 hb e; omega, rfl⟩⟩
    · have l0 := least_word b.p j z0
      have q0 := l0.2
      have lr := l0.1
      have hw := shift_lt b.p j
      have f0 : (((word b.p (j / 64) / 2 ^ (j % 64) : Nat) : Int) != 0) = true := nzt z0
      (have g0 := Wd_get; have g1 := addn; have g2 := addn1; have g3 := f0; refine GG4 ?_; clear g0 g1 g2 g3)
      (first | ((with_reducible apply RunP.call); (· (simp only [go_sem, reduceIte, Nat.reduceEqDiff]; (try with_reducible exact rfl))); (· (simp only [go_sem, reduceIte, Nat.reduceEqDiff]; (try with_reducible exact rfl)))) | ((with_reducible apply Run.call); (· (simp only [go_sem, reduceIte, Nat.reduceEqDiff]; (try with_reducible exact rfl))); (· (simp only [go_sem, reduceIte, Nat.reduceEqDiff]; (try with_reducible exact rfl)))) | ((with_reducible apply Run.callY); (· (simp only [go_sem, reduceIte, Nat.reduceEqDiff]; (try with_reducible exact rfl))); (· (simp only [go_sem, reduceIte, Nat.reduceEqDiff]; (try with_reducible exact rfl))); (· (simp only [go_sem, reduceIte, Nat.reduceEqDiff]; (try with_reducible exact rfl)))) | ((with_reducible apply RunP.callY); (· (simp only [go_sem, reduceIte, Nat.reduceEqDiff]; (try with_reducible exact rfl))); (· (simp only [go_sem, reduceIte, Nat.reduceEqDiff]; (try with_reducible exact rfl))); (· (simp only [go_sem, reduceIte, Nat.reduceEqDiff]; (try with_reducible exact rfl)))) | ((with_reducible apply Run.call0); (· (simp only [go_sem, reduceIte, Nat.reduceEqDiff]; (try with_reducible exact rfl))); (· (simp only [go_sem, reduceIte, Nat.reduceEqDiff]; (try with_reducible exact rfl)))))
      refine (tzn_c _ hw _).mono ?_
      rintro v H' ⟨rfl, rfl⟩
      (have g0 := Wd_get; have g1 := addn; have g2 := addn1; refine GG3 ?_; clear g0 g1 g2)
      have hd := down0_c b (j + Lib.ctz 64 (word b.p (j / 64) / 2 ^ (j % 64)))
      simp only [BB.m, BB.heap, h, h', if_true, if_false] at hd
      (first | ((with_reducible apply RunP.call); (· (simp only [go_sem, reduceIte, Nat.reduceEqDiff]; (try with_reducible exact rfl))); (· (simp only [go_sem, reduceIte, Nat.reduceEqDiff]; (try with_reducible exact rfl)))) | ((with_reducible apply Run.call); (· (simp only [go_sem, reduceIte, Nat.reduceEqDiff]; (try with_reducible exact rfl))); (· (simp only [go_sem, reduceIte, Nat.reduceEqDiff]; (try with_reducible exact rfl)))) | ((with_reducible apply Run.callY); (· (simp only [go_sem, reduceIte, Nat.reduceEqDiff]; (try with_reducible exact rfl))); (· (simp only [go_sem, reduceIte, Nat.reduceEqDiff]; (try with_reducible exact rfl))); (· (simp only [go_sem, reduceIte, Nat.reduceEqDiff]; (try with_reducible exact rfl)))) | ((with_reducible apply RunP.callY); (· (simp only [go_sem, reduceIte, Nat.reduceEqDiff]; (try with_reducible exact rfl))); (· (simp only [go_sem, reduceIte, Nat.reduceEqDiff]; (try with_reducible exact rfl))); (· (simp only [go_sem, reduceIte, Nat.reduceEqDiff]; (try with_reducible exact rfl)))) | ((with_reducible apply Run.call0); (· (simp only [go_sem, reduceIte, Nat.reduceEqDiff]; (try with_reducible exact rfl))); (· (simp only [go_sem, reduceIte, Nat.reduceEqDiff]; (try with_reducible exact rfl)))))
      refine sound_use (hd) [0, 1, 2] rfl (by decide) (by simp [-List.map_map, embAt, nm, AObj.ren, renL, Val.ren, nc0]) (by simp [-List.map_map, wfAll, AObj.wf, wfL, Val.wf, nc0]) (by simp [-List.map_map, Val.wf, wfL, nc0]) (by simp [-List.map_map, Val.ren, renL, nm, nc0]) ?_
      rintro v C' ⟨rfl, rfl⟩
      simp only [merge, place, after, nm, MG, Val.ren, renL, AObj.ren, reduceIte, Nat.reduceLT, Nat.reduceAdd, Nat.reduceSub, Nat.lt_irrefl, Nat.zero_lt_one, Nat.zero_lt_succ, Wd_ren]
      refine GG0 ?_
      refine told [0, 1, 2] b.heap (.tup [.i .i64 ((j + Lib.ctz 64 (word b.p (j / 64) / 2 ^ (j % 64)) : Nat) : Int), .b true]) (by simp [BB.heap, h, h'] <;> fail) (by decide) (by simp [-List.map_map, embAt, nm, AObj.ren, renL, Val.ren, BB.heap, h, h']) (by simp [-List.map_map, wfAll, AObj.wf, wfL, Val.wf, BB.heap, h, h']) (by simp [BB.heap, h, h']) rfl (by simp [-List.map_map, Val.wf, wfL, BB.heap, h, h']) (by simp [-List.map_map, Val.ren, renL, nm, BB.heap, h, h']) ?_
      exact ⟨rfl, .inl ⟨_, lr, rfl⟩⟩
  · rw [decide_f (p := (j : Int) < b.n) (by omega)]
    refine GG0 ?_
    refine told [0, 1, 2] b.heap (.tup [.i .i64 0, .b false]) (by simp [BB.heap, h, h'] <;> fail) (by decide) (by simp [-List.map_map, embAt, nm, AObj.ren, renL, Val.ren, BB.heap, h, h']) (by simp [-List.map_map, wfAll, AObj.wf, wfL, Val.wf, BB.heap, h, h']) (by simp [BB.heap, h, h']) rfl (by simp [-List.map_map, Val.wf, wfL, BB.heap, h, h']) (by simp [-List.map_map, Val.ren, renL, nm, BB.heap, h, h']) ?_
    exact ⟨rfl, .inr ⟨fun k hk => hb.below k (by omega), rfl⟩⟩
theorem next2_c (b : BB) (hb : b.ok) (h : (b.n ≤ 64) = False) (h' : (b.n ≤ 4096) = True) (i : Int) : SoundM Tryd.prog b.m 55 [.p 0 0, .i .i64 i] b.heap (NextPost b i) := by
  have hn0 := hb.n0
  have hn1 := hb.n1
  have hL := hb.L
  have hM := hb.M
  have hs := of_eq_false h
  have hs1 := of_eq_true h'
  conv => arg 2; simp only [BB.m, h, h', if_true, if_false]
  refine sound_told (sound_func Tryd.func55 c55 rfl (by simp [BB.heap, h, h']) ?_)
  simp only [e55, s55]
  conv => arg 6; simp only [BB.heap, h, h', if_true, if_false]
  obtain ⟨j, hj⟩ : ∃ j : Nat, i.toNat = j := ⟨_, rfl⟩
  have hmx : (if (0 : Int) > i then (0 : Int) else i) = (j : Int) := by split <;> omega
  rw [show NextPost b i = NextPost' b j by unfold NextPost; rw [hj]]
  (have g0 := hmx; refine GG1 ?_; clear g0)
  have hp := place_c b j
  simp only [BB.m, BB.heap, h, h', if_true, if_false] at hp
  (first | ((with_reducible apply RunP.call); (· (simp only [go_sem, reduceIte, Nat.reduceEqDiff]; (try with_reducible exact rfl))); (· (simp only [go_sem, reduceIte, Nat.reduceEqDiff]; (try with_reducible exact rfl)))) | ((with_reducible apply Run.call); (· (simp only [go_sem, reduceIte, Nat.reduceEqDiff]; (try with_reducible exact rfl))); (· (simp only [go_sem, reduceIte, Nat.reduceEqDiff]; (try with_reducible exact rfl)))) | ((with_reducible apply Run.callY); (· (simp only [go_sem, reduceIte, Nat.reduceEqDiff]; (try with_reducible exact rfl))); (· (simp only [go_sem, reduceIte, Nat.reduceEqDiff]; (try with_reducible exact rfl))); (· (simp only [go_sem, reduceIte, Nat.reduceEqDiff]; (try with_reducible exact rfl)))) | ((with_reducible apply RunP.callY); (· (simp only [go_sem, reduceIte, Nat.reduceEqDiff]; (try with_reducible exact rfl))); (· (simp only [go_sem, reduceIte, Nat.reduceEqDiff]; (try with_reducible exact rfl))); (· (simp only [go_sem, reduceIte, Nat.reduceEqDiff]; (try with_reducible exact rfl)))) | ((with_reducible apply Run.call0); (· (simp only [go_sem, reduceIte, Nat.reduceEqDiff]; (try with_reducible exact rfl))); (· (simp only [go_sem, reduceIte, Nat.reduceEqDiff]; (try with_reducible exact rfl)))))
  refine sound_use (hp) [0, 1, 2, 3] rfl (by decide) (by simp [-List.map_map, embAt, nm, AObj.ren, renL, Val.ren, nc0]) (by simp [-List.map_map, wfAll, AObj.wf, wfL, Val.wf, nc0]) (by simp [-List.map_map, Val.wf, wfL, nc0]) (by simp [-List.map_map, Val.ren, renL, nm, nc0]) ?_
  rintro v C' ⟨rfl, rfl⟩
  simp only [merge, place, after, nm, MG, Val.ren, renL, AObj.ren, reduceIte, Nat.reduceLT, Nat.reduceAdd, Nat.reduceSub, Nat.lt_irrefl, Nat.zero_lt_one, Nat.zero_lt_succ, Wd_ren]
  rw [decide_t (p := (0 : Int) ≤ j) (by omega)]
  by_cases hjn : j < b.n
  · rw [decide_t (p := (j : Int) < b.n) (by omega)]
    refine GG0 ?_
    have gz0 : decide (((j / 64 : Nat) : Int) < (b.L : Int)) = true := decide_t (by omega)
    refine ei_unroll 4 (unr ?_)
    (have g0 := Wd_get; have g1 := addn; have g2 := addn1; have g3 := gz0; refine GG4 ?_; clear g0 g1 g2 g3)
    by_cases z0 : word b.p (j / 64) / 2 ^ (j % 64) = 0
    · have f0 : (((word b.p (j / 64) / 2 ^ (j % 64) : Nat) : Int) != 0) = false := nzf z0
      have n1 : ∀ k, b.p k = true → j ≤ k → 64 * (j / 64 + 1) ≤ k := fun k e hk => by apply Nat.le_of_not_lt; intro hlt; have := none_word b.p j z0 k hk hlt; rw [e] at this; exact Bool.noConfusion this
      (have g0 := Wd_get; have g1 := addn; have g2 := addn1; have g3 := f0; refine GG4 ?_; clear g0 g1 g2 g3)
      refine unr ?_
      by_cases c1 : (j / 64 + 1) / 64 < 1
      · have gz1 : decide ((((j / 64 + 1) / 64 : Nat) : Int) < 1) = true := decide_t (by omega)
        (have g0 := Wd_get; have g1 := addn; have g2 := addn1; have g3 := gz1; refine GG4 ?_; clear g0 g1 g2 g3)
        by_cases z1 : word (up b.p) ((j / 64 + 1) / 64) / 2 ^ ((j / 64 + 1) % 64) = 0
        · have f1 : (((word (up b.p) ((j / 64 + 1) / 64) / 2 ^ ((j / 64 + 1) % 64) : Nat) : Int) != 0) = false := nzf z1
          have n2 : ∀ k, up b.p k = true → (j / 64 + 1) ≤ k → 64 * ((j / 64 + 1) / 64 + 1) ≤ k := fun k e hk => by apply Nat.le_of_not_lt; intro hlt; have := none_word (up b.p) (j / 64 + 1) z1 k hk hlt; rw [e] at this; exact Bool.noConfusion this
          (have g0 := Wd_get; have g1 := addn; have g2 := addn1; have g3 := f1; refine GG4 ?_; clear g0 g1 g2 g3)
          have n3 : ∀ k, b.p k = true → j ≤ k → 64 * (64 * ((j / 64 + 1) / 64 + 1)) ≤ k := fun k e hk => by have h1 := n1 k e hk; have h2 := n2 (k / 64) (up_true e) (by omega); omega
          repeat (refine unr ?_; (have g0 := Wd_get; have g1 := addn; have g2 := addn1; refine GG3 ?_; clear g0 g1 g2))
          refine told [0, 1, 2, 3] b.heap (.tup [.i .i64 0, .b false]) (by simp [BB.heap, h, h'] <;> fail) (by decide) (by simp [-List.map_map, embAt, nm, AObj.ren, renL, Val.ren, BB.heap, h, h']) (by simp [-List.map_map, wfAll, AObj.wf, wfL, Val.wf, BB.heap, h, h']) (by simp [BB.heap, h, h']) rfl (by simp [-List.map_map, Val.wf, wfL, BB.heap, h, h']) (by simp [-List.map_map, Val.ren, renL, nm, BB.heap, h, h']) ?_
          exact ⟨rfl, .inr ⟨fun k hk => by cases e : b.p k with | false => rfl | true => have := n3 k e hk; have := BB.lt0 hb e; omega, rfl⟩⟩
        · have l1 := least_word (up b.p) (j / 64 + 1) z1
          have q1 := l1.2
          have lr := least_comb l1.1 n1 (by omega)
          have hi1 := BB.lt1 hb l1.1.is
          have hw := shift_lt (up b.p) (j / 64 + 1)
          have f1 : (((word (up b.p) ((j / 64 + 1) / 64) / 2 ^ ((j / 64 + 1) % 64) : Nat) : Int) != 0) = true := nzt z1
          (have g0 := Wd_get; have g1 := addn; have g2 := addn1; have g3 := f1; refine GG4 ?_; clear g0 g1 g2 g3)
          (first | ((with_reducible apply RunP.call); (· (simp only [go_sem, reduceIte, Nat.reduceEqDiff]; (try with_reducible exact rfl))); (· (simp only [go_sem, reduceIte, Nat.reduceEqDiff]; (try with_reducible exact rfl)))) | ((with_reducible apply Run.call); (· (simp only [go_sem, reduceIte, Nat.reduceEqDiff]; (try with_reducible exact rfl))); (· (simp only [go_sem, reduceIte, Nat.reduceEqDiff]; (try with_reducible exact rfl)))) | ((with_reducible apply Run.callY); (· (simp only [go_sem, reduceIte, Nat.reduceEqDiff]; (try with_reducible exact rfl))); (· (simp only [go_sem, reduceIte, Nat.reduceEqDiff]; (try with_reducible exact rfl))); (· (simp only [go_sem, reduceIte, Nat.reduceEqDiff]; (try with_reducible exact rfl)))) | ((with_reducible apply RunP.callY); (· (simp only [go_sem, reduceIte, Nat.reduceEqDiff]; (try with_reducible exact rfl))); (· (simp only [go_sem, reduceIte, Nat.reduceEqDiff]; (try with_reducible exact rfl))); (· (simp only [go_sem, reduceIte, Nat.reduceEqDiff]; (try with_reducible exact rfl)))) | ((with_reducible apply Run.call0); (· (simp only [go_sem, reduceIte, Nat.reduceEqDiff]; (try with_reducible exact rfl))); (· (simp only [go_sem, reduceIte, Nat.reduceEqDiff]; (try with_reducible exact rfl)))))
          refine (tzn_c _ hw _).mono ?_
          rintro v H' ⟨rfl, rfl⟩
          (have g0 := Wd_get; have g1 := addn; have g2 := addn1; refine GG3 ?_; clear g0 g1 g2)
          have hd := down1_c b hb (by omega) ((j / 64 + 1) + Lib.ctz 64 (word (up b.p) ((j / 64 + 1) / 64) / 2 ^ ((j / 64 + 1) % 64))) hi1
          simp only [BB.m, BB.heap, h, h', if_true, if_false] at hd
          (first | ((with_reducible apply RunP.call); (· (simp only [go_sem, reduceIte, Nat.reduceEqDiff]; (try with_reducible exact rfl))); (· (simp only [go_sem, reduceIte, Nat.reduceEqDiff]; (try with_reducible exact rfl)))) | ((with_reducible apply Run.call); (· (simp only [go_sem, reduceIte, Nat.reduceEqDiff]; (try with_reducible exact rfl))); (· (simp only [go_sem, reduceIte, Nat.reduceEqDiff]; (try with_reducible exact rfl)))) | ((with_reducible apply Run.callY); (· (simp only [go_sem, reduceIte, Nat.reduceEqDiff]; (try with_reducible exact rfl))); (· (simp only [go_sem, reduceIte, Nat.reduceEqDiff]; (try with_reducible exact rfl))); (· (simp only [go_sem, reduceIte, Nat.reduceEqDiff]; (try with_reducible exact rfl)))) | ((with_reducible apply RunP.callY); (· (simp only [go_sem, reduceIte, Nat.reduceEqDiff]; (try with_reducible exact rfl))); (· (simp only [go_sem, reduceIte, Nat.reduceEqDiff]; (try with_reducible exact rfl))); (· (simp only [go_sem, reduceIte, Nat.reduceEqDiff]; (try with_reducible exact rfl)))) | ((with_reducible apply Run.call0); (· (simp only [go_sem, reduceIte, Nat.reduceEqDiff]; (try with_reducible exact rfl))); (· (simp only [go_sem, reduceIte, Nat.reduceEqDiff]; (try with_reducible exact rfl)))))
          refine sound_use (hd) [0, 1, 2, 3] rfl (by decide) (by simp [-List.map_map, embAt, nm, AObj.ren, renL, Val.ren, nc0]) (by simp [-List.map_map, wfAll, AObj.wf, wfL, Val.wf, nc0]) (by simp [-List.map_map, Val.wf, wfL, nc0]) (by simp [-List.map_map, Val.ren, renL, nm, nc0]) ?_
          rintro v C' ⟨rfl, rfl⟩
          simp only [merge, place, after, nm, MG, Val.ren, renL, AObj.ren, reduceIte, Nat.reduceLT, Nat.reduceAdd, Nat.reduceSub, Nat.lt_irrefl, Nat.zero_lt_one, Nat.zero_lt_succ, Wd_ren]
          refine GG0 ?_
          refine told [0, 1, 2, 3] b.heap (.tup [.i .i64 ((64 * ((j / 64 + 1) + Lib.ctz 64 (word (up b.p) ((j / 64 + 1) / 64) / 2 ^ ((j / 64 + 1) % 64))) + Lib.ctz 64 (word b.p ((j / 64 + 1) + Lib.ctz 64 (word (up b.p) ((j / 64 + 1) / 64) / 2 ^ ((j / 64 + 1) % 64)))) : Nat) : Int), .b true]) (by simp [BB.heap, h, h'] <;> fail) (by decide) (by simp [-List.map_map, embAt, nm, AObj.ren, renL, Val.ren, BB.heap, h, h']) (by simp [-List.map_map, wfAll, AObj.wf, wfL, Val.wf, BB.heap, h, h']) (by simp [BB.heap, h, h']) rfl (by simp [-List.map_map, Val.wf, wfL, BB.heap, h, h']) (by simp [-List.map_map, Val.ren, renL, nm, BB.heap, h, h']) ?_
          exact ⟨rfl, .inl ⟨_, lr, rfl⟩⟩
      · have gz1 : decide ((((j / 64 + 1) / 64 : Nat) : Int) < 1) = false := decide_f (by omega)
        have n2 : ∀ k, up b.p k = true → (j / 64 + 1) ≤ k → 64 * ((j / 64 + 1) / 64 + 1) ≤ k := fun k e hk => by have := BB.lt1 hb e; omega
        (have g0 := Wd_get; have g1 := addn; have g2 := addn1; have g3 := gz1; refine GG4 ?_; clear g0 g1 g2 g3)
        have n3 : ∀ k, b.p k = true → j ≤ k → 64 * (64 * ((j / 64 + 1) / 64 + 1)) ≤ k := fun k e hk => by have h1 := n1 k e hk; have h2 := n2 (k / 64) (up_true e) (by omega); omega
        repeat (refine unr ?_; (have g0 := Wd_get; have g1 := addn; have g2 := addn1; refine GG3 ?_; clear g0 g1 g2))
        refine told [0, 1, 2, 3] b.heap (.tup [.i .i64 0, .b false]) (by simp [BB.heap, h, h'] <;> fail) (by decide) (by simp [-List.map_map, embAt, nm, AObj.ren, renL, Val.ren, BB.heap, h, h']) (by simp [-List.map_map, wfAll, AObj.wf, wfL, Val.wf, BB.heap, h, h']) (by simp [BB.heap, h, h']) rfl (by simp [-List.map_map, Val.wf, wfL, BB.heap, h, h']) (by simp [-List.map_map, Val.ren, renL, nm, BB.heap, h, h']) ?_
        exact ⟨rfl, .inr ⟨fun k hk => by cases e : b.p k with | false => rfl | true => have := n3 k e hk; have := BB.lt0 hb e; omega, rfl⟩⟩
    · have l0 := least_word b.p j z0
      have q0 := l0.2
      have lr := l0.1
      have hw := shift_lt b.p j
      have f0 : (((word b.p (j / 64) / 2 ^ (j % 64) : Nat) : Int) != 0) = true := nzt z0
      (have g0 := Wd_get; have g1 := addn; have g2 := addn1; have g3 := f0; refine GG4 ?_; clear g0 g1 g2 g3)
      (first | ((with_reducible apply RunP.call); (· (simp only [go_sem, reduceIte, Nat.reduceEqDiff]; (try with_reducible exact rfl))); (· (simp only [go_sem, reduceIte, Nat.reduceEqDiff]; (try with_reducible exact rfl)))) | ((with_reducible apply Run.call); (· (simp only [go_sem, reduceIte, Nat.reduceEqDiff]; (try with_reducible exact rfl))); (· (simp only [go_sem, reduceIte, Nat.reduceEqDiff]; (try with_reducible exact rfl)))) | ((with_reducible apply Run.callY); (· (simp only [go_sem, reduceIte, Nat.reduceEqDiff]; (try with_reducible exact rfl))); (· (simp only [go_sem, reduceIte, Nat.reduceEqDiff]; (try with_reducible exact rfl))); (· (simp only [go_sem, reduceIte, Nat.reduceEqDiff]; (try with_reducible exact rfl)))) | ((with_reducible apply RunP.callY); (· (simp only [go_sem, reduceIte, Nat.reduceEqDiff]; (try with_reducible exact rfl))); (· (simp only [go_sem, reduceIte, Nat.reduceEqDiff]; (try with_reducible exact rfl))); (· (simp only [go_sem, reduceIte, Nat.reduceEqDiff]; (try with_reducible exact rfl)))) | ((with_reducible apply Run.call0); (· (simp only [go_sem, reduceIte, Nat.reduceEqDiff]; (try with_reducible exact rfl))); (· (simp only [go_sem, reduceIte, Nat.reduceEqDiff]; (try with_reducible exact rfl)))))
      refine (tzn_c _ hw _).mono ?_
      rintro v H' ⟨rfl, rfl⟩
      (have g0 := Wd_get; have g1 := addn; have g2 := addn1; refine GG3 ?_; clear g0 g1 g2)
      have hd := down0_c b (j + Lib.ctz 64 (word b.p (j / 64) / 2 ^ (j % 64)))
      simp only [BB.m, BB.heap, h, h', if_true, if_false] at hd
      (first | ((with_reducible apply RunP.call); (· (simp only [go_sem, reduceIte, Nat.reduceEqDiff]; (try with_reducible exact rfl))); (· (simp only [go_sem, reduceIte, Nat.reduceEqDiff]; (try with_reducible exact rfl)))) | ((with_reducible apply Run.call); (· (simp only [go_sem, reduceIte, Nat.reduceEqDiff]; (try with_reducible exact rfl))); (· (simp only [go_sem, reduceIte, Nat.reduceEqDiff]; (try with_reducible exact rfl)))) | ((with_reducible apply Run.callY); (· (simp only [go_sem, reduceIte, Nat.reduceEqDiff]; (try with_reducible exact rfl))); (· (simp only [go_sem, reduceIte, Nat.reduceEqDiff]; (try with_reducible exact rfl))); (· (simp only [go_sem, reduceIte, Nat.reduceEqDiff]; (try with_reducible exact rfl)))) | ((with_reducible apply RunP.callY); (· (simp only [go_sem, reduceIte, Nat.reduceEqDiff]; (try with_reducible exact rfl))); (· (simp only [go_sem, reduceIte, Nat.reduceEqDiff]; (try with_reducible exact rfl))); (· (simp only [go_sem, reduceIte, Nat.reduceEqDiff]; (try with_reducible exact rfl)))) | ((with_reducible apply Run.call0); (· (simp only [go_sem, reduceIte, Nat.reduceEqDiff]; (try with_reducible exact rfl))); (· (simp only [go_sem, reduceIte, Nat.reduceEqDiff]; (try with_reducible exact rfl)))))
      refine sound_use (hd) [0, 1, 2, 3] rfl (by decide) (by simp [-List.map_map, embAt, nm, AObj.ren, renL, Val.ren, nc0]) (by simp [-List.map_map, wfAll, AObj.wf, wfL, Val.wf, nc0]) (by simp [-List.map_map, Val.wf, wfL, nc0]) (by simp [-List.map_map, Val.ren, renL, nm, nc0]) ?_
      rintro v C' ⟨rfl, rfl⟩
      simp only [merge, place, after, nm, MG, Val.ren, renL, AObj.ren, reduceIte, Nat.reduceLT, Nat.reduceAdd, Nat.reduceSub, Nat.lt_irrefl, Nat.zero_lt_one, Nat.zero_lt_succ, Wd_ren]
      refine GG0 ?_
      refine told [0, 1, 2, 3] b.heap (.tup [.i .i64 ((j + Lib.ctz 64 (word b.p (j / 64) / 2 ^ (j % 64)) : Nat) : Int), .b true]) (by simp [BB.heap, h, h'] <;> fail) (by decide) (by simp [-List.map_map, embAt, nm, AObj.ren, renL, Val.ren, BB.heap, h, h']) (by simp [-List.map_map, wfAll, AObj.wf, wfL, Val.wf, BB.heap, h, h']) (by simp [BB.heap, h, h']) rfl (by simp [-List.map_map, Val.wf, wfL, BB.heap, h, h']) (by simp [-List.map_map, Val.ren, renL, nm, BB.heap, h, h']) ?_
      exact ⟨rfl, .inl ⟨_, lr, rfl⟩⟩
  · rw [decide_f (p := (j : Int) < b.n) (by omega)]
    refine GG0 ?_
    refine told [0, 1, 2, 3] b.heap (.tup [.i .i64 0, .b false]) (by simp [BB.heap, h, h'] <;> fail) (by decide) (by simp [-List.map_map, embAt, nm, AObj.ren, renL, Val.ren, BB.heap, h, h']) (by simp [-List.map_map, wfAll, AObj.wf, wfL, Val.wf, BB.heap, h, h']) (by simp [BB.heap, h, h']) rfl (by simp [-List.map_map, Val.wf, wfL, BB.heap, h, h']) (by simp [-List.map_map, Val.ren, renL, nm, BB.heap, h, h']) ?_
    exact ⟨rfl, .inr ⟨fun k hk => hb.below k (by omega), rfl⟩⟩
theorem next3_c (b : BB) (hb : b.ok) (h : (b.n ≤ 64) = False) (h' : (b.n ≤ 4096) = False) (i : Int) : SoundM Tryd.prog b.m 55 [.p 0 0, .i .i64 i] b.heap (NextPost b i) := by
  have hn0 := hb.n0
  have hn1 := hb.n1
  have hL := hb.L
  have hM := hb.M
  have hs0 := of_eq_false h
  have hs := of_eq_false h'
  conv => arg 2; simp only [BB.m, h, h', if_true, if_false]
  refine sound_told (sound_func Tryd.func55 c55 rfl (by simp [BB.heap, h, h']) ?_)
  simp only [e55, s55]
  conv => arg 6; simp only [BB.heap, h, h', if_true, if_false]
  obtain ⟨j, hj⟩ : ∃ j : Nat, i.toNat = j := ⟨_, rfl⟩
  have hmx : (if (0 : Int) > i then (0 : Int) else i) = (j : Int) := by split <;> omega
  rw [show NextPost b i = NextPost' b j by unfold NextPost; rw [hj]]
  (have g0 := hmx; refine GG1 ?_; clear g0)
  have hp := place_c b j
  simp only [BB.m, BB.heap, h, h', if_true, if_false] at hp
  (first | ((with_reducible apply RunP.call); (· (simp only [go_sem, reduceIte, Nat.reduceEqDiff]; (try with_reducible exact rfl))); (· (simp only [go_sem, reduceIte, Nat.reduceEqDiff]; (try with_reducible exact rfl)))) | ((with_reducible apply Run.call); (· (simp only [go_sem, reduceIte, Nat.reduceEqDiff]; (try with_reducible exact rfl))); (· (simp only [go_sem, reduceIte, Nat.reduceEqDiff]; (try with_reducible exact rfl)))) | ((with_reducible apply Run.callY); (· (simp only [go_sem, reduceIte, Nat.reduceEqDiff]; (try with_reducible exact rfl))); (· (simp only [go_sem, reduceIte, Nat.reduceEqDiff]; (try with_reducible exact rfl))); (· (simp only [go_sem, reduceIte, Nat.reduceEqDiff]; (try with_reducible exact rfl)))) | ((with_reducible apply RunP.callY); (· (simp only [go_sem, reduceIte, Nat.reduceEqDiff]; (try with_reducible exact rfl))); (· (simp only [go_sem, reduceIte, Nat.reduceEqDiff]; (try with_reducible exact rfl))); (· (simp only [go_sem, reduceIte, Nat.reduceEqDiff]; (try with_reducible exact rfl)))) | ((with_reducible apply Run.call0); (· (simp only [go_sem, reduceIte, Nat.reduceEqDiff]; (try with_reducible exact rfl))); (· (simp only [go_sem, reduceIte, Nat.reduceEqDiff]; (try with_reducible exact rfl)))))
  refine sound_use (hp) [0, 1, 2, 3, 4] rfl (by decide) (by simp [-List.map_map, embAt, nm, AObj.ren, renL, Val.ren, nc0]) (by simp [-List.map_map, wfAll, AObj.wf, wfL, Val.wf, nc0]) (by simp [-List.map_map, Val.wf, wfL, nc0]) (by simp [-List.map_map, Val.ren, renL, nm, nc0]) ?_
  rintro v C' ⟨rfl, rfl⟩
  simp only [merge, place, after, nm, MG, Val.ren, renL, AObj.ren, reduceIte, Nat.reduceLT, Nat.reduceAdd, Nat.reduceSub, Nat.lt_irrefl, Nat.zero_lt_one, Nat.zero_lt_succ, Wd_ren]
  rw [decide_t (p := (0 : Int) ≤ j) (by omega)]
  by_cases hjn : j < b.n
  · rw [decide_t (p := (j : Int) < b.n) (by omega)]
    refine GG0 ?_
    have gz0 : decide (((j / 64 : Nat) : Int) < (b.L : Int)) = true := decide_t (by omega)
    refine ei_unroll 4 (unr ?_)
    (have g0 := Wd_get; have g1 := addn; have g2 := addn1; have g3 := gz0; refine GG4 ?_; clear g0 g1 g2 g3)
    by_cases z0 : word b.p (j / 64) / 2 ^ (j % 64) = 0
    · have f0 : (((word b.p (j / 64) / 2 ^ (j % 64) : Nat) : Int) != 0) = false := nzf z0
      have n1 : ∀ k, b.p k = true → j ≤ k → 64 * (j / 64 + 1) ≤ k := fun k e hk => by apply Nat.le_of_not_lt; intro hlt; have := none_word b.p j z0 k hk hlt; rw [e] at this; exact Bool.noConfusion this
      (have g0 := Wd_get; have g1 := addn; have g2 := addn1; have g3 := f0; refine GG4 ?_; clear g0 g1 g2 g3)
      refine unr ?_
      by_cases c1 : (j / 64 + 1) / 64 < b.M
      · have gz1 : decide ((((j / 64 + 1) / 64 : Nat) : Int) < (b.M : Int)) = true := decide_t (by omega)
        (have g0 := Wd_get; have g1 := addn; have g2 := addn1; have g3 := gz1; refine GG4 ?_; clear g0 g1 g2 g3)
        by_cases z1 : word (up b.p) ((j / 64 + 1) / 64) / 2 ^ ((j / 64 + 1) % 64) = 0
        · have f1 : (((word (up b.p) ((j / 64 + 1) / 64) / 2 ^ ((j / 64 + 1) % 64) : Nat) : Int) != 0) = false := nzf z1
          have n2 : ∀ k, up b.p k = true → (j / 64 + 1) ≤ k → 64 * ((j / 64 + 1) / 64 + 1) ≤ k := fun k e hk => by apply Nat.le_of_not_lt; intro hlt; have := none_word (up b.p) (j / 64 + 1) z1 k hk hlt; rw [e] at this; exact Bool.noConfusion this
          (have g0 := Wd_get; have g1 := addn; have g2 := addn1; have g3 := f1; refine GG4 ?_; clear g0 g1 g2 g3)
          have n3 : ∀ k, b.p k = true → j ≤ k → 64 * (64 * ((j / 64 + 1) / 64 + 1)) ≤ k := fun k e hk => by have h1 := n1 k e hk; have h2 := n2 (k / 64) (up_true e) (by omega); omega
          refine unr ?_
          by_cases c2 : ((j / 64 + 1) / 64 + 1) / 64 < 1
          · have gz2 : decide (((((j / 64 + 1) / 64 + 1) / 64 : Nat) : Int) < 1) = true := decide_t (by omega)
            (have g0 := Wd_get; have g1 := addn; have g2 := addn1; have g3 := gz2; refine GG4 ?_; clear g0 g1 g2 g3)
            by_cases z2 : word (up (up b.p)) (((j / 64 + 1) / 64 + 1) / 64) / 2 ^ (((j / 64 + 1) / 64 + 1) % 64) = 0
            · have f2 : (((word (up (up b.p)) (((j / 64 + 1) / 64 + 1) / 64) / 2 ^ (((j / 64 + 1) / 64 + 1) % 64) : Nat) : Int) != 0) = false := nzf z2
              have n2' : ∀ k, up (up b.p) k = true → ((j / 64 + 1) / 64 + 1) ≤ k → 64 * (((j / 64 + 1) / 64 + 1) / 64 + 1) ≤ k := fun k e hk => by apply Nat.le_of_not_lt; intro hlt; have := none_word (up (up b.p)) ((j / 64 + 1) / 64 + 1) z2 k hk hlt; rw [e] at this; exact Bool.noConfusion this
              (have g0 := Wd_get; have g1 := addn; have g2 := addn1; have g3 := f2; refine GG4 ?_; clear g0 g1 g2 g3)
              have n4 : ∀ k, b.p k = true → j ≤ k → 64 * (64 * (64 * (((j / 64 + 1) / 64 + 1) / 64 + 1))) ≤ k := fun k e hk => by have h1 := n1 k e hk; have h2 := n2 (k / 64) (up_true e) (by omega); have h3 := n2' (k / 64 / 64) (up_true (up_true e)) (by omega); omega
              repeat (refine unr ?_; (have g0 := Wd_get; have g1 := addn; have g2 := addn1; refine GG3 ?_; clear g0 g1 g2))
              refine told [0, 1, 2, 3, 4] b.heap (.tup [.i .i64 0, .b false]) (by simp [BB.heap, h, h'] <;> fail) (by decide) (by simp [-List.map_map, embAt, nm, AObj.ren, renL, Val.ren, BB.heap, h, h']) (by simp [-List.map_map, wfAll, AObj.wf, wfL, Val.wf, BB.heap, h, h']) (by simp [BB.heap, h, h']) rfl (by simp [-List.map_map, Val.wf, wfL, BB.heap, h, h']) (by simp [-List.map_map, Val.ren, renL, nm, BB.heap, h, h']) ?_
              exact ⟨rfl, .inr ⟨fun k hk => by cases e : b.p k with | false => rfl | true => have := n4 k e hk; have := BB.lt0 hb e; omega, rfl⟩⟩
            · have l2 := least_word (up (up b.p)) ((j / 64 + 1) / 64 + 1) z2
              have q2 := l2.2
              have l1 := least_comb l2.1 n2 (by omega)
              have lr := least_comb l1 n1 (by omega)
              have hi1 := BB.lt1 hb l1.is
              have hi2 := BB.lt2 hb l2.1.is
              have hw := shift_lt (up (up b.p)) ((j / 64 + 1) / 64 + 1)
              have f2 : (((word (up (up b.p)) (((j / 64 + 1) / 64 + 1) / 64) / 2 ^ (((j / 64 + 1) / 64 + 1) % 64) : Nat) : Int) != 0) = true := nzt z2
              (have g0 := Wd_get; have g1 := addn; have g2 := addn1; have g3 := f2; refine GG4 ?_; clear g0 g1 g2 g3)
              (first | ((with_reducible apply RunP.call); (· (simp only [go_sem, reduceIte, Nat.reduceEqDiff]; (try with_reducible exact rfl))); (· (simp only [go_sem, reduceIte, Nat.reduceEqDiff]; (try with_reducible exact rfl)))) | ((with_reducible apply Run.call); (· (simp only [go_sem, reduceIte, Nat.reduceEqDiff]; (try with_reducible exact rfl))); (· (simp only [go_sem, reduceIte, Nat.reduceEqDiff]; (try with_reducible exact rfl)))) | ((with_reducible apply Run.callY); (· (simp only [go_sem, reduceIte, Nat.reduceEqDiff]; (try with_reducible exact rfl))); (· (simp only [go_sem, reduceIte, Nat.reduceEqDiff]; (try with_reducible exact rfl))); (· (simp only [go_sem, reduceIte, Nat.reduceEqDiff]; (try with_reducible exact rfl)))) | ((with_reducible apply RunP.callY); (· (simp only [go_sem, reduceIte, Nat.reduceEqDiff]; (try with_reducible exact rfl))); (· (simp only [go_sem, reduceIte, Nat.reduceEqDiff]; (try with_reducible exact rfl))); (· (simp only [go_sem, reduceIte, Nat.reduceEqDiff]; (try with_reducible exact rfl)))) | ((with_reducible apply Run.call0); (· (simp only [go_sem, reduceIte, Nat.reduceEqDiff]; (try with_reducible exact rfl))); (· (simp only [go_sem, reduceIte, Nat.reduceEqDiff]; (try with_reducible exact rfl)))))
              refine (tzn_c _ hw _).mono ?_
              rintro v H' ⟨rfl, rfl⟩
              (have g0 := Wd_get; have g1 := addn; have g2 := addn1; refine GG3 ?_; clear g0 g1 g2)
              have hd := down2_c b hb hs (((j / 64 + 1) / 64 + 1) + Lib.ctz 64 (word (up (up b.p)) (((j / 64 + 1) / 64 + 1) / 64) / 2 ^ (((j / 64 + 1) / 64 + 1) % 64))) hi2 hi1
              simp only [BB.m, BB.heap, h, h', if_true, if_false] at hd
              (first | ((with_reducible apply RunP.call); (· (simp only [go_sem, reduceIte, Nat.reduceEqDiff]; (try with_reducible exact rfl))); (· (simp only [go_sem, reduceIte, Nat.reduceEqDiff]; (try with_reducible exact rfl)))) | ((with_reducible apply Run.call); (· (simp only [go_sem, reduceIte, Nat.reduceEqDiff]; (try with_reducible exact rfl))); (· (simp only [go_sem, reduceIte, Nat.reduceEqDiff]; (try with_reducible exact rfl)))) | ((with_reducible apply Run.callY); (· (simp only [go_sem, reduceIte, Nat.reduceEqDiff]; (try with_reducible exact rfl))); (· (simp only [go_sem, reduceIte, Nat.reduceEqDiff]; (try with_reducible exact rfl))); (· (simp only [go_sem, reduceIte, Nat.reduceEqDiff]; (try with_reducible exact rfl)))) | ((with_reducible apply RunP.callY); (· (simp only [go_sem, reduceIte, Nat.reduceEqDiff]; (try with_reducible exact rfl))); (· (simp only [go_sem, reduceIte, Nat.reduceEqDiff]; (try with_reducible exact rfl))); (· (simp only [go_sem, reduceIte, Nat.reduceEqDiff]; (try with_reducible exact rfl)))) | ((with_reducible apply Run.call0); (· (simp only [go_sem, reduceIte, Nat.reduceEqDiff]; (try with_reducible exact rfl))); (· (simp only [go_sem, reduceIte, Nat.reduceEqDiff]; (try with_reducible exact rfl)))))
              refine sound_use (hd) [0, 1, 2, 3, 4] rfl (by decide) (by simp [-List.map_map, embAt, nm, AObj.ren, renL, Val.ren, nc0]) (by simp [-List.map_map, wfAll, AObj.wf, wfL, Val.wf, nc0]) (by simp [-List.map_map, Val.wf, wfL, nc0]) (by simp [-List.map_map, Val.ren, renL, nm, nc0]) ?_
              rintro v C' ⟨rfl, rfl⟩
              simp only [merge, place, after, nm, MG, Val.ren, renL, AObj.ren, reduceIte, Nat.reduceLT, Nat.reduceAdd, Nat.reduceSub, Nat.lt_irrefl, Nat.zero_lt_one, Nat.zero_lt_succ, Wd_ren]
              refine GG0 ?_
              refine told [0, 1, 2, 3, 4] b.heap (.tup [.i .i64 ((64 * (64 * (((j / 64 + 1) / 64 + 1) + Lib.ctz 64 (word (up (up b.p)) (((j / 64 + 1) / 64 + 1) / 64) / 2 ^ (((j / 64 + 1) / 64 + 1) % 64))) + Lib.ctz 64 (word (up b.p) (((j / 64 + 1) / 64 + 1) + Lib.ctz 64 (word (up (up b.p)) (((j / 64 + 1) / 64 + 1) / 64) / 2 ^ (((j / 64 + 1) / 64 + 1) % 64))))) + Lib.ctz 64 (word b.p (64 * (((j / 64 + 1) / 64 + 1) + Lib.ctz 64 (word (up (up b.p)) (((j / 64 + 1) / 64 + 1) / 64) / 2 ^ (((j / 64 + 1) / 64 + 1) % 64))) + Lib.ctz 64 (word (up b.p) (((j / 64 + 1) / 64 + 1) + Lib.ctz 64 (word (up (up b.p)) (((j / 64 + 1) / 64 + 1) / 64) / 2 ^ (((j / 64 + 1) / 64 + 1) % 64)))))) : Nat) : Int), .b true]) (by simp [BB.heap, h, h'] <;> fail) (by decide) (by simp [-List.map_map, embAt, nm, AObj.ren, renL, Val.ren, BB.heap, h, h']) (by simp [-List.map_map, wfAll, AObj.wf, wfL, Val.wf, BB.heap, h, h']) (by simp [BB.heap, h, h']) rfl (by simp [-List.map_map, Val.wf, wfL, BB.heap, h, h']) (by simp [-List.map_map, Val.ren, renL, nm, BB.heap, h, h']) ?_
              exact ⟨rfl, .inl ⟨_, lr, rfl⟩⟩
          · have gz2 : decide (((((j / 64 + 1) / 64 + 1) / 64 : Nat) : Int) < 1) = false := decide_f (by omega)
            have n2' : ∀ k, up (up b.p) k = true → ((j / 64 + 1) / 64 + 1) ≤ k → 64 * (((j / 64 + 1) / 64 + 1) / 64 + 1) ≤ k := fun k e hk => by have := BB.lt2 hb e; omega
            (have g0 := Wd_get; have g1 := addn; have g2 := addn1; have g3 := gz2; refine GG4 ?_; clear g0 g1 g2 g3)
            have n4 : ∀ k, b.p k = true → j ≤ k → 64 * (64 * (64 * (((j / 64 + 1) / 64 + 1) / 64 + 1))) ≤ k := fun k e hk => by have h1 := n1 k e hk; have h2 := n2 (k / 64) (up_true e) (by omega); have h3 := n2' (k / 64 / 64) (up_true (up_true e)) (by omega); omega
            repeat (refine unr ?_; (have g0 := Wd_get; have g1 := addn; have g2 := addn1; refine GG3 ?_; clear g0 g1 g2))
            refine told [0, 1, 2, 3, 4] b.heap (.tup [.i .i64 0, .b false]) (by simp [BB.heap, h, h'] <;> fail) (by decide) (by simp [-List.map_map, embAt, nm, AObj.ren, renL, Val.ren, BB.heap, h, h']) (by simp [-List.map_map, wfAll, AObj.wf, wfL, Val.wf, BB.heap, h, h']) (by simp [BB.heap, h, h']) rfl (by simp [-List.map_map, Val.wf, wfL, BB.heap, h, h']) (by simp [-List.map_map, Val.ren, renL, nm, BB.heap, h, h']) ?_
            exact ⟨rfl, .inr ⟨fun k hk => by cases e : b.p k with | false => rfl | true => have := n4 k e hk; have := BB.lt0 hb e; omega, rfl⟩⟩
        · have l1 := least_word (up b.p) (j / 64 + 1) z1
          have q1 := l1.2
          have lr := least_comb l1.1 n1 (by omega)
          have hi1 := BB.lt1 hb l1.1.is
          have hw := shift_lt (up b.p) (j / 64 + 1)
          have f1 : (((word (up b.p) ((j / 64 + 1) / 64) / 2 ^ ((j / 64 + 1) % 64) : Nat) : Int) != 0) = true := nzt z1
          (have g0 := Wd_get; have g1 := addn; have g2 := addn1; have g3 := f1; refine GG4 ?_; clear g0 g1 g2 g3)
          (first | ((with_reducible apply RunP.call); (· (simp only [go_sem, reduceIte, Nat.reduceEqDiff]; (try with_reducible exact rfl))); (· (simp only [go_sem, reduceIte, Nat.reduceEqDiff]; (try with_reducible exact rfl)))) | ((with_reducible apply Run.call); (· (simp only [go_sem, reduceIte, Nat.reduceEqDiff]; (try with_reducible exact rfl))); (· (simp only [go_sem, reduceIte, Nat.reduceEqDiff]; (try with_reducible exact rfl)))) | ((with_reducible apply Run.callY); (· (simp only [go_sem, reduceIte, Nat.reduceEqDiff]; (try with_reducible exact rfl))); (· (simp only [go_sem, reduceIte, Nat.reduceEqDiff]; (try with_reducible exact rfl))); (· (simp only [go_sem, reduceIte, Nat.reduceEqDiff]; (try with_reducible exact rfl)))) | ((with_reducible apply RunP.callY); (· (simp only [go_sem, reduceIte, Nat.reduceEqDiff]; (try with_reducible exact rfl))); (· (simp only [go_sem, reduceIte, Nat.reduceEqDiff]; (try with_reducible exact rfl))); (· (simp only [go_sem, reduceIte, Nat.reduceEqDiff]; (try with_reducible exact rfl)))) | ((with_reducible apply Run.call0); (· (simp only [go_sem, reduceIte, Nat.reduceEqDiff]; (try with_reducible exact rfl))); (· (simp only [go_sem, reduceIte, Nat.reduceEqDiff]; (try with_reducible exact rfl)))))
          refine (tzn_c _ hw _).mono ?_
          rintro v H' ⟨rfl, rfl⟩
          (have g0 := Wd_get; have g1 := addn; have g2 := addn1; refine GG3 ?_; clear g0 g1 g2)
          have hd := down1_c b hb (by omega) ((j / 64 + 1) + Lib.ctz 64 (word (up b.p) ((j / 64 + 1) / 64) / 2 ^ ((j / 64 + 1) % 64))) hi1
          simp only [BB.m, BB.heap, h, h', if_true, if_false] at hd
          (first | ((with_reducible apply RunP.call); (· (simp only [go_sem, reduceIte, Nat.reduceEqDiff]; (try with_reducible exact rfl))); (· (simp only [go_sem, reduceIte, Nat.reduceEqDiff]; (try with_reducible exact rfl)))) | ((with_reducible apply Run.call); (· (simp only [go_sem, reduceIte, Nat.reduceEqDiff]; (try with_reducible exact rfl))); (· (simp only [go_sem, reduceIte, Nat.reduceEqDiff]; (try with_reducible exact rfl)))) | ((with_reducible apply Run.callY); (· (simp only [go_sem, reduceIte, Nat.reduceEqDiff]; (try with_reducible exact rfl))); (· (simp only [go_sem, reduceIte, Nat.reduceEqDiff]; (try with_reducible exact rfl))); (· (simp only [go_sem, reduceIte, Nat.reduceEqDiff]; (try with_reducible exact rfl)))) | ((with_reducible apply RunP.callY); (· (simp only [go_sem, reduceIte, Nat.reduceEqDiff]; (try with_reducible exact rfl))); (· (simp only [go_sem, reduceIte, Nat.reduceEqDiff]; (try with_reducible exact rfl))); (· (simp only [go_sem, reduceIte, Nat.reduceEqDiff]; (try with_reducible exact rfl)))) | ((with_reducible apply Run.call0); (· (simp only [go_sem, reduceIte, Nat.reduceEqDiff]; (try with_reducible exact rfl))); (· (simp only [go_sem, reduceIte, Nat.reduceEqDiff]; (try with_reducible exact rfl)))))
          refine sound_use (hd) [0, 1, 2, 3, 4] rfl (by decide) (by simp [-List.map_map, embAt, nm, AObj.ren, renL, Val.ren, nc0]) (by simp [-List.map_map, wfAll, AObj.wf, wfL, Val.wf, nc0]) (by simp [-List.map_map, Val.wf, wfL, nc0]) (by simp [-List.map_map, Val.ren, renL, nm, nc0]) ?_
          rintro v C' ⟨rfl, rfl⟩
          simp only [merge, place, after, nm, MG, Val.ren, renL, AObj.ren, reduceIte, Nat.reduceLT, Nat.reduceAdd, Nat.reduceSub, Nat.lt_irrefl, Nat.zero_lt_one, Nat.zero_lt_succ, Wd_ren]
          refine GG0 ?_
          refine told [0, 1, 2, 3, 4] b.heap (.tup [.i .i64 ((64 * ((j / 64 + 1) + Lib.ctz 64 (word (up b.p) ((j / 64 + 1) / 64) / 2 ^ ((j / 64 + 1) % 64))) + Lib.ctz 64 (word b.p ((j / 64 + 1) + Lib.ctz 64 (word (up b.p) ((j / 64 + 1) / 64) / 2 ^ ((j / 64 + 1) % 64)))) : Nat) : Int), .b true]) (by simp [BB.heap, h, h'] <;> fail) (by decide) (by simp [-List.map_map, embAt, nm, AObj.ren, renL, Val.ren, BB.heap, h, h']) (by simp [-List.map_map, wfAll, AObj.wf, wfL, Val.wf, BB.heap, h, h']) (by simp [BB.heap, h, h']) rfl (by simp [-List.map_map, Val.wf, wfL, BB.heap, h, h']) (by simp [-List.map_map, Val.ren, renL, nm, BB.heap, h, h']) ?_
          exact ⟨rfl, .inl ⟨_, lr, rfl⟩⟩
      · have gz1 : decide ((((j / 64 + 1) / 64 : Nat) : Int) < (b.M : Int)) = false := decide_f (by omega)
        have n2 : ∀ k, up b.p k = true → (j / 64 + 1) ≤ k → 64 * ((j / 64 + 1) / 64 + 1) ≤ k := fun k e hk => by have := BB.lt1 hb e; omega
        (have g0 := Wd_get; have g1 := addn; have g2 := addn1; have g3 := gz1; refine GG4 ?_; clear g0 g1 g2 g3)
        have n3 : ∀ k, b.p k = true → j ≤ k → 64 * (64 * ((j / 64 + 1) / 64 + 1)) ≤ k := fun k e hk => by have h1 := n1 k e hk; have h2 := n2 (k / 64) (up_true e) (by omega); omega
        refine unr ?_
        by_cases c2 : ((j / 64 + 1) / 64 + 1) / 64 < 1
        · have gz2 : decide (((((j / 64 + 1) / 64 + 1) / 64 : Nat) : Int) < 1) = true := decide_t (by omega)
          (have g0 := Wd_get; have g1 := addn; have g2 := addn1; have g3 := gz2; refine GG4 ?_; clear g0 g1 g2 g3)
          by_cases z2 : word (up (up b.p)) (((j / 64 + 1) / 64 + 1) / 64) / 2 ^ (((j / 64 + 1) / 64 + 1) % 64) = 0
          · have f2 : (((word (up (up b.p)) (((j / 64 + 1) / 64 + 1) / 64) / 2 ^ (((j / 64 + 1) / 64 + 1) % 64) : Nat) : Int) != 0) = false := nzf z2
            have n2' : ∀ k, up (up b.p) k = true → ((j / 64 + 1) / 64 + 1) ≤ k → 64 * (((j / 64 + 1) / 64 + 1) / 64 + 1) ≤ k := fun k e hk => by apply Nat.le_of_not_lt; intro hlt; have := none_word (up (up b.p)) ((j / 64 + 1) / 64 + 1) z2 k hk hlt; rw [e] at this; exact Bool.noConfusion this
            (have g0 := Wd_get; have g1 := addn; have g2 := addn1; have g3 := f2; refine GG4 ?_; clear g0 g1 g2 g3)
            have n4 : ∀ k, b.p k = true → j ≤ k → 64 * (64 * (64 * (((j / 64 + 1) / 64 + 1) / 64 + 1))) ≤ k := fun k e hk => by have h1 := n1 k e hk; have h2 := n2 (k / 64) (up_true e) (by omega); have h3 := n2' (k / 64 / 64) (up_true (up_true e)) (by omega); omega
            repeat (refine unr ?_; (have g0 := Wd_get; have g1 := addn; have g2 := addn1; refine GG3 ?_; clear g0 g1 g2))
            refine told [0, 1, 2, 3, 4] b.heap (.tup [.i .i64 0, .b false]) (by simp [BB.heap, h, h'] <;> fail) (by decide) (by simp [-List.map_map, embAt, nm, AObj.ren, renL, Val.ren, BB.heap, h, h']) (by simp [-List.map_map, wfAll, AObj.wf, wfL, Val.wf, BB.heap, h, h']) (by simp [BB.heap, h, h']) rfl (by simp [-List.map_map, Val.wf, wfL, BB.heap, h, h']) (by simp [-List.map_map, Val.ren, renL, nm, BB.heap, h, h']) ?_
            exact ⟨rfl, .inr ⟨fun k hk => by cases e : b.p k with | false => rfl | true => have := n4 k e hk; have := BB.lt0 hb e; omega, rfl⟩⟩
          · have l2 := least_word (up (up b.p)) ((j / 64 + 1) / 64 + 1) z2
            have q2 := l2.2
            have l1 := least_comb l2.1 n2 (by omega)
            have lr := least_comb l1 n1 (by omega)
            have hi1 := BB.lt1 hb l1.is
            have hi2 := BB.lt2 hb l2.1.is
            have hw := shift_lt (up (up b.p)) ((j / 64 + 1) / 64 + 1)
            have f2 : (((word (up (up b.p)) (((j / 64 + 1) / 64 + 1) / 64) / 2 ^ (((j / 64 + 1) / 64 + 1) % 64) : Nat) : Int) != 0) = true := nzt z2
            (have g0 := Wd_get; have g1 := addn; have g2 := addn1; have g3 := f2; refine GG4 ?_; clear g0 g1 g2 g3)
            (first | ((with_reducible apply RunP.call); (· (simp only [go_sem, reduceIte, Nat.reduceEqDiff]; (try with_reducible exact rfl))); (· (simp only [go_sem, reduceIte, Nat.reduceEqDiff]; (try with_reducible exact rfl)))) | ((with_reducible apply Run.call); (· (simp only [go_sem, reduceIte, Nat.reduceEqDiff]; (try with_reducible exact rfl))); (· (simp only [go_sem, reduceIte, Nat.reduceEqDiff]; (try with_reducible exact rfl)))) | ((with_reducible apply Run.callY); (· (simp only [go_sem, reduceIte, Nat.reduceEqDiff]; (try with_reducible exact rfl))); (· (simp only [go_sem, reduceIte, Nat.reduceEqDiff]; (try with_reducible exact rfl))); (· (simp only [go_sem, reduceIte, Nat.reduceEqDiff]; (try with_reducible exact rfl)))) | ((with_reducible apply RunP.callY); (· (simp only [go_sem, reduceIte, Nat.reduceEqDiff]; (try with_reducible exact rfl))); (· (simp only [go_sem, reduceIte, Nat.reduceEqDiff]; (try with_reducible exact rfl))); (· (simp only [go_sem, reduceIte, Nat.reduceEqDiff]; (try with_reducible exact rfl)))) | ((with_reducible apply Run.call0); (· (simp only [go_sem, reduceIte, Nat.reduceEqDiff]; (try with_reducible exact rfl))); (· (simp only [go_sem, reduceIte, Nat.reduceEqDiff]; (try with_reducible exact rfl)))))
            refine (tzn_c _ hw _).mono ?_
            rintro v H' ⟨rfl, rfl⟩
            (have g0 := Wd_get; have g1 := addn; have g2 := addn1; refine GG3 ?_; clear g0 g1 g2)
            have hd := down2_c b hb hs (((j / 64 + 1) / 64 + 1) + Lib.ctz 64 (word (up (up b.p)) (((j / 64 + 1) / 64 + 1) / 64) / 2 ^ (((j / 64 + 1) / 64 + 1) % 64))) hi2 hi1
            simp only [BB.m, BB.heap, h, h', if_true, if_false] at hd
            (first | ((with_reducible apply RunP.call); (· (simp only [go_sem, reduceIte, Nat.reduceEqDiff]; (try with_reducible exact rfl))); (· (simp only [go_sem, reduceIte, Nat.reduceEqDiff]; (try with_reducible exact rfl)))) | ((with_reducible apply Run.call); (· (simp only [go_sem, reduceIte, Nat.reduceEqDiff]; (try with_reducible exact rfl))); (· (simp only [go_sem, reduceIte, Nat.reduceEqDiff]; (try with_reducible exact rfl)))) | ((with_reducible apply Run.callY); (· (simp only [go_sem, reduceIte, Nat.reduceEqDiff]; (try with_reducible exact rfl))); (· (simp only [go_sem, reduceIte, Nat.reduceEqDiff]; (try with_reducible exact rfl))); (· (simp only [go_sem, reduceIte, Nat.reduceEqDiff]; (try with_reducible exact rfl)))) | ((with_reducible apply RunP.callY); (· (simp only [go_sem, reduceIte, Nat.reduceEqDiff]; (try with_reducible exact rfl))); (· (simp only [go_sem, reduceIte, Nat.reduceEqDiff]; (try with_reducible exact rfl))); (· (simp only [go_sem, reduceIte, Nat.reduceEqDiff]; (try with_reducible exact rfl)))) | ((with_reducible apply Run.call0); (· (simp only [go_sem, reduceIte, Nat.reduceEqDiff]; (try with_reducible exact rfl))); (· (simp only [go_sem, reduceIte, Nat.reduceEqDiff]; (try with_reducible exact rfl)))))
            refine sound_use (hd) [0, 1, 2, 3, 4] rfl (by decide) (by simp [-List.map_map, embAt, nm, AObj.ren, renL, Val.ren, nc0]) (by simp [-List.map_map, wfAll, AObj.wf, wfL, Val.wf, nc0]) (by simp [-List.map_map, Val.wf, wfL, nc0]) (by simp [-List.map_map, Val.ren, renL, nm, nc0]) ?_
            rintro v C' ⟨rfl, rfl⟩
            simp only [merge, place, after, nm, MG, Val.ren, renL, AObj.ren, reduceIte, Nat.reduceLT, Nat.reduceAdd, Nat.reduceSub, Nat.lt_irrefl, Nat.zero_lt_one, Nat.zero_lt_succ, Wd_ren]
            refine GG0 ?_
            refine told [0, 1, 2, 3, 4] b.heap (.tup [.i .i64 ((64 * (64 * (((j / 64 + 1) / 64 + 1) + Lib.ctz 64 (word (up (up b.p)) (((j / 64 + 1) / 64 + 1) / 64) / 2 ^ (((j / 64 + 1) / 64 + 1) % 64))) + Lib.ctz 64 (word (up b.p) (((j / 64 + 1) / 64 + 1) + Lib.ctz 64 (word (up (up b.p)) (((j / 64 + 1) / 64 + 1) / 64) / 2 ^ (((j / 64 + 1) / 64 + 1) % 64))))) + Lib.ctz 64 (word b.p (64 * (((j / 64 + 1) / 64 + 1) + Lib.ctz 64 (word (up (up b.p)) (((j / 64 + 1) / 64 + 1) / 64) / 2 ^ (((j / 64 + 1) / 64 + 1) % 64))) + Lib.ctz 64 (word (up b.p) (((j / 64 + 1) / 64 + 1) + Lib.ctz 64 (word (up (up b.p)) (((j / 64 + 1) / 64 + 1) / 64) / 2 ^ (((j / 64 + 1) / 64 + 1) % 64)))))) : Nat) : Int), .b true]) (by simp [BB.heap, h, h'] <;> fail) (by decide) (by simp [-List.map_map, embAt, nm, AObj.ren, renL, Val.ren, BB.heap, h, h']) (by simp [-List.map_map, wfAll, AObj.wf, wfL, Val.wf, BB.heap, h, h']) (by simp [BB.heap, h, h']) rfl (by simp [-List.map_map, Val.wf, wfL, BB.heap, h, h']) (by simp [-List.map_map, Val.ren, renL, nm, BB.heap, h, h']) ?_
            exact ⟨rfl, .inl ⟨_, lr, rfl⟩⟩
        · have gz2 : decide (((((j / 64 + 1) / 64 + 1) / 64 : Nat) : Int) < 1) = false := decide_f (by omega)
          have n2' : ∀ k, up (up b.p) k = true → ((j / 64 + 1) / 64 + 1) ≤ k → 64 * (((j / 64 + 1) / 64 + 1) / 64 + 1) ≤ k := fun k e hk => by have := BB.lt2 hb e; omega
          (have g0 := Wd_get; have g1 := addn; have g2 := addn1; have g3 := gz2; refine GG4 ?_; clear g0 g1 g2 g3)
          have n4 : ∀ k, b.p k = true → j ≤ k → 64 * (64 * (64 * (((j / 64 + 1) / 64 + 1) / 64 + 1))) ≤ k := fun k e hk => by have h1 := n1 k e hk; have h2 := n2 (k / 64) (up_true e) (by omega); have h3 := n2' (k / 64 / 64) (up_true (up_true e)) (by omega); omega
          repeat (refine unr ?_; (have g0 := Wd_get; have g1 := addn; have g2 := addn1; refine GG3 ?_; clear g0 g1 g2))
          refine told [0, 1, 2, 3, 4] b.heap (.tup [.i .i64 0, .b false]) (by simp [BB.heap, h, h'] <;> fail) (by decide) (by simp [-List.map_map, embAt, nm, AObj.ren, renL, Val.ren, BB.heap, h, h']) (by simp [-List.map_map, wfAll, AObj.wf, wfL, Val.wf, BB.heap, h, h']) (by simp [BB.heap, h, h']) rfl (by simp [-List.map_map, Val.wf, wfL, BB.heap, h, h']) (by simp [-List.map_map, Val.ren, renL, nm, BB.heap, h, h']) ?_
          exact ⟨rfl, .inr ⟨fun k hk => by cases e : b.p k with | false => rfl | true => have := n4 k e hk; have := BB.lt0 hb e; omega, rfl⟩⟩
    · have l0 := least_word b.p j z0
      have q0 := l0.2
      have lr := l0.1
      have hw := shift_lt b.p j
      have f0 : (((word b.p (j / 64) / 2 ^ (j % 64) : Nat) : Int) != 0) = true := nzt z0
      (have g0 := Wd_get; have g1 := addn; have g2 := addn1; have g3 := f0; refine GG4 ?_; clear g0 g1 g2 g3)
      (first | ((with_reducible apply RunP.call); (· (simp only [go_sem, reduceIte, Nat.reduceEqDiff]; (try with_reducible exact rfl))); (· (simp only [go_sem, reduceIte, Nat.reduceEqDiff]; (try with_reducible exact rfl)))) | ((with_reducible apply Run.call); (· (simp only [go_sem, reduceIte, Nat.reduceEqDiff]; (try with_reducible exact rfl))); (· (simp only [go_sem, reduceIte, Nat.reduceEqDiff]; (try with_reducible exact rfl)))) | ((with_reducible apply Run.callY); (· (simp only [go_sem, reduceIte, Nat.reduceEqDiff]; (try with_reducible exact rfl))); (· (simp only [go_sem, reduceIte, Nat.reduceEqDiff]; (try with_reducible exact rfl))); (· (simp only [go_sem, reduceIte, Nat.reduceEqDiff]; (try with_reducible exact rfl)))) | ((with_reducible apply RunP.callY); (· (simp only [go_sem, reduceIte, Nat.reduceEqDiff]; (try with_reducible exact rfl))); (· (simp only [go_sem, reduceIte, Nat.reduceEqDiff]; (try with_reducible exact rfl))); (· (simp only [go_sem, reduceIte, Nat.reduceEqDiff]; (try with_reducible exact rfl)))) | ((with_reducible apply Run.call0); (· (simp only [go_sem, reduceIte, Nat.reduceEqDiff]; (try with_reducible exact rfl))); (· (simp only [go_sem, reduceIte, Nat.reduceEqDiff]; (try with_reducible exact rfl)))))
      refine (tzn_c _ hw _).mono ?_
      rintro v H' ⟨rfl, rfl⟩
      (have g0 := Wd_get; have g1 := addn; have g2 := addn1; refine GG3 ?_; clear g0 g1 g2)
      have hd := down0_c b (j + Lib.ctz 64 (word b.p (j / 64) / 2 ^ (j % 64)))
      simp only [BB.m, BB.heap, h, h', if_true, if_false] at hd
      (first | ((with_reducible apply RunP.call); (· (simp only [go_sem, reduceIte, Nat.reduceEqDiff]; (try with_reducible exact rfl))); (· (simp only [go_sem, reduceIte, Nat.reduceEqDiff]; (try with_reducible exact rfl)))) | ((with_reducible apply Run.call); (· (simp only [go_sem, reduceIte, Nat.reduceEqDiff]; (try with_reducible exact rfl))); (· (simp only [go_sem, reduceIte, Nat.reduceEqDiff]; (try with_reducible exact rfl)))) | ((with_reducible apply Run.callY); (· (simp only [go_sem, reduceIte, Nat.reduceEqDiff]; (try with_reducible exact rfl))); (· (simp only [go_sem, reduceIte, Nat.reduceEqDiff]; (try with_reducible exact rfl))); (· (simp only [go_sem, reduceIte, Nat.reduceEqDiff]; (try with_reducible exact rfl)))) | ((with_reducible apply RunP.callY); (· (simp only [go_sem, reduceIte, Nat.reduceEqDiff]; (try with_reducible exact rfl))); (· (simp only [go_sem, reduceIte, Nat.reduceEqDiff]; (try with_reducible exact rfl))); (· (simp only [go_sem, reduceIte, Nat.reduceEqDiff]; (try with_reducible exact rfl)))) | ((with_reducible apply Run.call0); (· (simp only [go_sem, reduceIte, Nat.reduceEqDiff]; (try with_reducible exact rfl))); (· (simp only [go_sem, reduceIte, Nat.reduceEqDiff]; (try with_reducible exact rfl)))))
      refine sound_use (hd) [0, 1, 2, 3, 4] rfl (by decide) (by simp [-List.map_map, embAt, nm, AObj.ren, renL, Val.ren, nc0]) (by simp [-List.map_map, wfAll, AObj.wf, wfL, Val.wf, nc0]) (by simp [-List.map_map, Val.wf, wfL, nc0]) (by simp [-List.map_map, Val.ren, renL, nm, nc0]) ?_
      rintro v C' ⟨rfl, rfl⟩
      simp only [merge, place, after, nm, MG, Val.ren, renL, AObj.ren, reduceIte, Nat.reduceLT, Nat.reduceAdd, Nat.reduceSub, Nat.lt_irrefl, Nat.zero_lt_one, Nat.zero_lt_succ, Wd_ren]
      refine GG0 ?_
      refine told [0, 1, 2, 3, 4] b.heap (.tup [.i .i64 ((j + Lib.ctz 64 (word b.p (j / 64) / 2 ^ (j % 64)) : Nat) : Int), .b true]) (by simp [BB.heap, h, h'] <;> fail) (by decide) (by simp [-List.map_map, embAt, nm, AObj.ren, renL, Val.ren, BB.heap, h, h']) (by simp [-List.map_map, wfAll, AObj.wf, wfL, Val.wf, BB.heap, h, h']) (by simp [BB.heap, h, h']) rfl (by simp [-List.map_map, Val.wf, wfL, BB.heap, h, h']) (by simp [-List.map_map, Val.ren, renL, nm, BB.heap, h, h']) ?_
      exact ⟨rfl, .inl ⟨_, lr, rfl⟩⟩
  · rw [decide_f (p := (j : Int) < b.n) (by omega)]
    refine GG0 ?_
    refine told [0, 1, 2, 3, 4] b.heap (.tup [.i .i64 0, .b false]) (by simp [BB.heap, h, h'] <;> fail) (by decide) (by simp [-List.map_map, embAt, nm, AObj.ren, renL, Val.ren, BB.heap, h, h']) (by simp [-List.map_map, wfAll, AObj.wf, wfL, Val.wf, BB.heap, h, h']) (by simp [BB.heap, h, h']) rfl (by simp [-List.map_map, Val.wf, wfL, BB.heap, h, h']) (by simp [-List.map_map, Val.ren, renL, nm, BB.heap, h, h']) ?_
    exact ⟨rfl, .inr ⟨fun k hk => hb.below k (by omega), rfl⟩⟩
end Go.Proofs.YtmdilnelogechaaDoor.IR
