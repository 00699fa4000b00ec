/- This text of a proof shows: how a key is found in a tree, and its nodes are told. -/
import Derived.Test.YtjahkgfihdngkaaGg
import Derived.Test.YtjahkgfihdngkaaTb
import Derived.Test.YtjahkgfihdngkaaEvF
set_option linter.unusedVariables false
set_option linter.unusedSimpArgs false
set_option linter.constructorNameAsVariable false
namespace Go.Proofs.Ytjahkgfihdngkaa.IR
open Go Go.Proofs.Ytjahkgfihdngkaa.Ev Go.Proofs.Ytjahkgfihdngkaa.Ev.Rb
set_option linter.unusedSimpArgs false
set_option linter.unusedVariables false
set_option maxHeartbeats 4000000
attribute [local go_sem] skipV nc0 nc1 nc2 nc3 bne_self_eq_false decide_true decide_false IOp.step Opd.ev Env.get initEnv Val.cells? Val.one List.all_cons List.all_nil Bool.and_true Bool.and_self Bool.true_and bin ints eqv Val.kindNo lenNo_s lenNo_nils lenNo_sl lenNo_nilm lenNo_m lenOf_s lenOf_nils lenOf_sl lenOf_nilm unary partsOf padTo List.foldl_cons List.foldl_nil wr_nil wr_step wr_zero List.set_cons_zero List.set_cons_succ List.map_cons List.map_nil z1 z2 Nat.succ_ne_zero List.length_cons List.length_nil List.cons_append List.nil_append List.append_nil List.getElem?_cons_zero List.getElem?_cons_succ List.getElem?_nil Option.map_some Option.map_none Nat.zero_add Nat.add_zero List.drop_zero List.drop_succ_cons List.take_succ_cons List.take_zero List.take_nil and_self and_true true_and Nat.le_refl Bool.not_true Bool.not_false Option.getD_some window Val.slen bnd resV resL RV.val Bool.false_eq_true BEq.rfl Bool.true_beq Bool.false_beq beq_true beq_false mk_one ite_true ite_false eqc ceqs ceq NOp.step isK eq_self
attribute [local go_sem] nat_toNat encF_length wr_one Nat.mul_one dv_dn dv_0 dv_2 dv_f dv_t dv_not setK_root setUp_root setRed_root
def FInv (t : TS) (s : Rb) (k : Int × Int) (r : Nat × Nat) (n : Nat) (ρ : Env) (H : Heap) : Prop :=
  ∃ (x last : Nat), x < t.len ∧ findF n s.f k x last = some r ∧ AnewS 3 (tH t s ++ [.rw [.i .u64 k.1, .i .u64 k.2]]) [(0, .p 0 0), (3, .p 3 0), (6, .i .i64 (last : Nat)), (7, .i .i64 (x : Nat))] ρ H
theorem find_c (t : TS) (s : Rb) (k : Int × Int) (r : Nat × Nat) (m : Nat) (bd : Bnd s t.len) (hf : findF m s.f k s.root 0 = some r) :
    SoundM Try.prog 3 42 [.p 0 0, .agg [.i .u64 k.1, .i .u64 k.2]] (tH t s) (Lv t s (.tup [.i .i64 (r.1 : Nat), .i .i64 (r.2 : Nat)])) := by
  refine sound_told (sound_func Try.func42 c42 rfl (by simp [tH]) ?_)
  simp only [e42, tH, TS.cells]
  refine GG0 ?_
  refine ei_loop (FInv t s k r) (n := m) ?_ ?_
  · refine ⟨s.root, 0, bd.root, hf, ?_⟩
    (refine anew [0, 1, 2, 3] ?_ (by decide) ?_ ?_ ?_ rfl ?_ ?_ <;> simp [-List.map_map, embAt, nm, rn_rw, rn_ro, rn_map, rn_iter, rn_dead, renL, Val.ren, wfAll, wn_rw, wn_ro, wn_map, wn_iter, wn_dead, wfL, Val.wf, Env.get, initEnv, tH, TS.cells, encF_ren, encF_wf, fv_ren, fv_wf, fobj_ren, fobj_wf, setUp_root, setK_root, setRed_root])
  · rintro n ρ H ⟨x, last, hx, hf, ha⟩
    refine ei_anewS ha ?_
    clear ha
    cases n with
    | zero => cases hf
    | succ n =>
    simp only [findF] at hf
    simp only [tH, TS.cells, List.cons_append, List.nil_append]
    by_cases h0 : x = 0
    · rw [if_pos h0] at hf
      cases hf
      subst h0
      refine GG0 ?_
      refine told [0, 1, 2] (tH t s) (.tup [.i .i64 (0 : Nat), .i .i64 (last : Nat)]) ?_ (by decide) ?_ ?_ ?_ rfl ?_ ?_ ?_; iterate 6 (· simp [-List.map_map, embAt, nm, rn_rw, rn_ro, rn_map, rn_iter, rn_dead, renL, Val.ren, wfAll, wn_rw, wn_ro, wn_map, wn_iter, wn_dead, wfL, Val.wf, Env.get, initEnv, tH, TS.cells, encF_ren, encF_wf, fv_ren, fv_wf, fobj_ren, fobj_wf, setUp_root, setK_root, setRed_root])
      exact ⟨rfl, rfl⟩
    · rw [if_neg h0] at hf
      have hb : (((x : Nat) : Int) != 0) = true := by simpa using h0
      (have g0 := hb; have g1 := fun qf => get_key (f := qf) hx; refine GG2 ?_; clear g0 g1)
      (first | ((with_reducible first | apply RunP.call | apply Run.call | apply Run.call0); iterate 2 (· (simp only [go_sem, reduceIte, Nat.reduceEqDiff]; (try with_reducible exact rfl)))) | ((with_reducible first | apply Run.callY | apply RunP.callY); iterate 3 (· (simp only [go_sem, reduceIte, Nat.reduceEqDiff]; (try with_reducible exact rfl)))))
      refine (less_ok _ _ _ _ _).mono ?_
      rintro v H' ⟨rfl, rfl⟩
      (first | refine And.intro rfl ?_ | refine And.intro trivial ?_ | skip)
      by_cases c1 : klt k (s.f x).key
      · rw [if_pos c1] at hf
        have c1' : klt (k.1, k.2) ((s.f x).e.1, (s.f x).e.2.1) := c1
        (have g0 := decide_t c1'; have g1 := fun qf => get_k0 (f := qf) hx; refine GG2 ?_; clear g0 g1)
        refine ⟨n, by omega, _, _, bd.k0 x hx, hf, ?_⟩
        (refine anew [0, 1, 2, 3] ?_ (by decide) ?_ ?_ ?_ rfl ?_ ?_ <;> simp [-List.map_map, embAt, nm, rn_rw, rn_ro, rn_map, rn_iter, rn_dead, renL, Val.ren, wfAll, wn_rw, wn_ro, wn_map, wn_iter, wn_dead, wfL, Val.wf, Env.get, initEnv, tH, TS.cells, encF_ren, encF_wf, fv_ren, fv_wf, fobj_ren, fobj_wf, setUp_root, setK_root, setRed_root])
      · rw [if_neg c1] at hf
        have c1' : ¬ klt (k.1, k.2) ((s.f x).e.1, (s.f x).e.2.1) := c1
        (have g0 := decide_f c1'; have g1 := fun qf => get_key (f := qf) hx; refine GG2 ?_; clear g0 g1)
        (first | ((with_reducible first | apply RunP.call | apply Run.call | apply Run.call0); iterate 2 (· (simp only [go_sem, reduceIte, Nat.reduceEqDiff]; (try with_reducible exact rfl)))) | ((with_reducible first | apply Run.callY | apply RunP.callY); iterate 3 (· (simp only [go_sem, reduceIte, Nat.reduceEqDiff]; (try with_reducible exact rfl)))))
        refine (less_ok _ _ _ _ _).mono ?_
        rintro v H' ⟨rfl, rfl⟩
        (first | refine And.intro rfl ?_ | refine And.intro trivial ?_ | skip)
        by_cases c2 : klt (s.f x).key k
        · rw [if_pos c2] at hf
          have c2' : klt ((s.f x).e.1, (s.f x).e.2.1) (k.1, k.2) := c2
          (have g0 := decide_t c2'; have g1 := fun qf => get_k1 (f := qf) hx; refine GG2 ?_; clear g0 g1)
          refine ⟨n, by omega, _, _, bd.k1 x hx, hf, ?_⟩
          (refine anew [0, 1, 2, 3] ?_ (by decide) ?_ ?_ ?_ rfl ?_ ?_ <;> simp [-List.map_map, embAt, nm, rn_rw, rn_ro, rn_map, rn_iter, rn_dead, renL, Val.ren, wfAll, wn_rw, wn_ro, wn_map, wn_iter, wn_dead, wfL, Val.wf, Env.get, initEnv, tH, TS.cells, encF_ren, encF_wf, fv_ren, fv_wf, fobj_ren, fobj_wf, setUp_root, setK_root, setRed_root])
        · rw [if_neg c2] at hf
          cases hf
          have c2' : ¬ klt ((s.f x).e.1, (s.f x).e.2.1) (k.1, k.2) := c2
          (have g0 := decide_f c2'; refine GG1 ?_; clear g0)
          refine told [0, 1, 2] (tH t s) (.tup [.i .i64 (x : Nat), .i .i64 (x : Nat)]) ?_ (by decide) ?_ ?_ ?_ rfl ?_ ?_ ?_; iterate 6 (· simp [-List.map_map, embAt, nm, rn_rw, rn_ro, rn_map, rn_iter, rn_dead, renL, Val.ren, wfAll, wn_rw, wn_ro, wn_map, wn_iter, wn_dead, wfL, Val.wf, Env.get, initEnv, tH, TS.cells, encF_ren, encF_wf, fv_ren, fv_wf, fobj_ren, fobj_wf, setUp_root, setK_root, setRed_root])
          exact ⟨rfl, rfl⟩
def ent (x : Int × Int × Int) : Val := .agg [.i .u64 x.1, .i .u64 x.2.1, .i .i64 x.2.2]
theorem entry_c (t : TS) (s : Rb) (x : Nat) (hx : x < t.len) :
    SoundM Try.prog 3 49 [.p 0 0, .i .i64 (x : Nat)] (tH t s) (Lv t s (if x = 0 then .tup [ent (0, 0, 0), .b false] else .tup [ent (s.f x).e, .b true])) := by
  refine sound_told (sound_func Try.func49 c49 rfl (by simp [tH]) ?_)
  simp only [e49, tH, TS.cells]
  by_cases h0 : x = 0
  · subst h0
    rw [if_pos rfl]
    refine GG0 ?_
    refine told [0, 1, 2] (tH t s) (.tup [ent (0, 0, 0), .b false]) ?_ (by decide) ?_ ?_ ?_ rfl ?_ ?_ ?_; iterate 6 (· simp [-List.map_map, embAt, nm, rn_rw, rn_ro, rn_map, rn_iter, rn_dead, renL, Val.ren, wfAll, wn_rw, wn_ro, wn_map, wn_iter, wn_dead, wfL, Val.wf, Env.get, initEnv, tH, TS.cells, encF_ren, encF_wf, fv_ren, fv_wf, fobj_ren, fobj_wf, setUp_root, setK_root, setRed_root, ent])
    exact ⟨rfl, rfl⟩
  · rw [if_neg h0]
    have hb : (((x : Nat) : Int) == 0) = false := by simpa using h0
    (have g0 := hb; have g1 := fun qf => get_key (f := qf) hx; have g2 := fun qf => get_v (f := qf) hx; refine GG3 ?_; clear g0 g1 g2)
    refine told [0, 1, 2] (tH t s) (.tup [ent (s.f x).e, .b true]) ?_ (by decide) ?_ ?_ ?_ rfl ?_ ?_ ?_; iterate 6 (· simp [-List.map_map, embAt, nm, rn_rw, rn_ro, rn_map, rn_iter, rn_dead, renL, Val.ren, wfAll, wn_rw, wn_ro, wn_map, wn_iter, wn_dead, wfL, Val.wf, Env.get, initEnv, tH, TS.cells, encF_ren, encF_wf, fv_ren, fv_wf, fobj_ren, fobj_wf, setUp_root, setK_root, setRed_root, ent])
    exact ⟨rfl, rfl⟩
def MInv (t : TS) (s : Rb) (r : Nat) (n : Nat) (ρ : Env) (H : Heap) : Prop :=
  ∃ x : Nat, x < t.len ∧ minF n s.f x = some r ∧ AnewS 3 (tH t s ++ [.rw [.i .u64 0, .i .u64 0, .i .i64 0]]) [(0, .p 0 0), (2, .p 3 0), (3, .b false), (4, .i .i64 (x : Nat))] ρ H
theorem first_c0 (t : TS) (s : Rb) (r m : Nat) (bd : Bnd s t.len) (h : if s.root = 0 then r = 0 else minF m s.f s.root = some r ∧ r ≠ 0) :
    SoundM Try.prog 3 45 [.p 0 0] (tH t s) (Lv t s (if r = 0 then .tup [ent (0, 0, 0), .b false] else .tup [ent (s.f r).e, .b true])) := by
  refine sound_told (sound_func Try.func45 c45 rfl (by simp [tH]) ?_)
  simp only [e45, tH, TS.cells]
  refine GG0 ?_
  (first | ((with_reducible first | apply RunP.call | apply Run.call | apply Run.call0); iterate 2 (· (simp only [go_sem, reduceIte, Nat.reduceEqDiff]; (try with_reducible exact rfl)))) | ((with_reducible first | apply Run.callY | apply RunP.callY); iterate 3 (· (simp only [go_sem, reduceIte, Nat.reduceEqDiff]; (try with_reducible exact rfl)))))
  refine sound_use (tno_c t s) [0, 1, 2] rfl (by decide) ?_ ?_ ?_ ?_ ?_; iterate 4 (· simp [-List.map_map, embAt, nm, rn_rw, rn_ro, rn_map, rn_iter, rn_dead, renL, Val.ren, wfAll, wn_rw, wn_ro, wn_map, wn_iter, wn_dead, wfL, Val.wf, Env.get, initEnv, tH, TS.cells, encF_ren, encF_wf, fv_ren, fv_wf, fobj_ren, fobj_wf, setUp_root, setK_root, setRed_root])
  rintro v C' ⟨rfl, rfl⟩
  simp only [merge, place, after, nm, MG, Val.ren, renL, rn_rw, rn_ro, rn_map, rn_iter, rn_dead, reduceIte, Nat.reduceLT, Nat.reduceAdd, Nat.reduceSub, Nat.lt_irrefl, Nat.zero_lt_one, Nat.zero_lt_succ, tH, TS.cells, encF_ren, encF_wf, fv_ren, fv_wf, fobj_ren, fobj_wf, setUp_root, setK_root, setRed_root]
  by_cases h0 : s.root = 0
  · rw [if_pos h0] at h
    have hb : (((s.root : Nat) : Int) == 0) = true := by simpa using h0
    rw [if_pos h]
    (have g0 := hb; refine GG1 ?_; clear g0)
    refine told [0, 1, 2] (tH t s) (.tup [ent (0, 0, 0), .b false]) ?_ (by decide) ?_ ?_ ?_ rfl ?_ ?_ ?_; iterate 6 (· simp [-List.map_map, embAt, nm, rn_rw, rn_ro, rn_map, rn_iter, rn_dead, renL, Val.ren, wfAll, wn_rw, wn_ro, wn_map, wn_iter, wn_dead, wfL, Val.wf, Env.get, initEnv, tH, TS.cells, encF_ren, encF_wf, fv_ren, fv_wf, fobj_ren, fobj_wf, setUp_root, setK_root, setRed_root, ent])
    exact ⟨rfl, rfl⟩
  · rw [if_neg h0] at h
    have hb : (((s.root : Nat) : Int) == 0) = false := by simpa using h0
    rw [if_neg h.2]
    (have g0 := hb; refine GG1 ?_; clear g0)
    refine ei_loop (MInv t s r) (n := m) ?_ ?_
    · refine ⟨s.root, bd.root, h.1, ?_⟩
      (refine anew [0, 1, 2, 3] ?_ (by decide) ?_ ?_ ?_ rfl ?_ ?_ <;> simp [-List.map_map, embAt, nm, rn_rw, rn_ro, rn_map, rn_iter, rn_dead, renL, Val.ren, wfAll, wn_rw, wn_ro, wn_map, wn_iter, wn_dead, wfL, Val.wf, Env.get, initEnv, tH, TS.cells, encF_ren, encF_wf, fv_ren, fv_wf, fobj_ren, fobj_wf, setUp_root, setK_root, setRed_root])
    · rintro n ρ H ⟨x, hx, hf, ha⟩
      refine ei_anewS ha ?_
      clear ha
      cases n with
      | zero => cases hf
      | succ n =>
      simp only [minF] at hf
      simp only [tH, TS.cells, List.cons_append, List.nil_append]
      by_cases hk : (s.f x).k0 = 0
      · rw [if_pos hk] at hf
        have hb : ((((s.f x).k0 : Nat) : Int) != 0) = false := by simpa using hk
        cases hf
        have hc := entry_c t s r hx
        rw [if_neg h.2] at hc
        (have g0 := fun qf => get_k0 (f := qf) hx; have g1 := hb; refine GG2 ?_; clear g0 g1)
        (first | ((with_reducible first | apply RunP.call | apply Run.call | apply Run.call0); iterate 2 (· (simp only [go_sem, reduceIte, Nat.reduceEqDiff]; (try with_reducible exact rfl)))) | ((with_reducible first | apply Run.callY | apply RunP.callY); iterate 3 (· (simp only [go_sem, reduceIte, Nat.reduceEqDiff]; (try with_reducible exact rfl)))))
        refine sound_use (hc) [0, 1, 2] rfl (by decide) ?_ ?_ ?_ ?_ ?_; iterate 4 (· simp [-List.map_map, embAt, nm, rn_rw, rn_ro, rn_map, rn_iter, rn_dead, renL, Val.ren, wfAll, wn_rw, wn_ro, wn_map, wn_iter, wn_dead, wfL, Val.wf, Env.get, initEnv, tH, TS.cells, encF_ren, encF_wf, fv_ren, fv_wf, fobj_ren, fobj_wf, setUp_root, setK_root, setRed_root, ent])
        rintro v C' ⟨rfl, rfl⟩
        simp only [merge, place, after, nm, MG, Val.ren, renL, rn_rw, rn_ro, rn_map, rn_iter, rn_dead, reduceIte, Nat.reduceLT, Nat.reduceAdd, Nat.reduceSub, Nat.lt_irrefl, Nat.zero_lt_one, Nat.zero_lt_succ, tH, TS.cells, encF_ren, encF_wf, fv_ren, fv_wf, fobj_ren, fobj_wf, setUp_root, setK_root, setRed_root, ent]
        refine GG0 ?_
        refine told [0, 1, 2] (tH t s) (.tup [ent (s.f r).e, .b true]) ?_ (by decide) ?_ ?_ ?_ rfl ?_ ?_ ?_; iterate 6 (· simp [-List.map_map, embAt, nm, rn_rw, rn_ro, rn_map, rn_iter, rn_dead, renL, Val.ren, wfAll, wn_rw, wn_ro, wn_map, wn_iter, wn_dead, wfL, Val.wf, Env.get, initEnv, tH, TS.cells, encF_ren, encF_wf, fv_ren, fv_wf, fobj_ren, fobj_wf, setUp_root, setK_root, setRed_root, ent])
        exact ⟨rfl, rfl⟩
      · rw [if_neg hk] at hf
        have hb : ((((s.f x).k0 : Nat) : Int) != 0) = true := by simpa using hk
        (have g0 := fun qf => get_k0 (f := qf) hx; have g1 := hb; refine GG2 ?_; clear g0 g1)
        refine ⟨n, by omega, _, bd.k0 x hx, hf, ?_⟩
        (refine anew [0, 1, 2, 3] ?_ (by decide) ?_ ?_ ?_ rfl ?_ ?_ <;> simp [-List.map_map, embAt, nm, rn_rw, rn_ro, rn_map, rn_iter, rn_dead, renL, Val.ren, wfAll, wn_rw, wn_ro, wn_map, wn_iter, wn_dead, wfL, Val.wf, Env.get, initEnv, tH, TS.cells, encF_ren, encF_wf, fv_ren, fv_wf, fobj_ren, fobj_wf, setUp_root, setK_root, setRed_root])
theorem get_c0 (t : TS) (s : Rb) (k : Int × Int) (r : Nat × Nat) (m : Nat) (bd : Bnd s t.len) (hf : findF m s.f k s.root 0 = some r) (hr : r.1 < t.len) :
    SoundM Try.prog 3 40 [.p 0 0, .agg [.i .u64 k.1, .i .u64 k.2]] (tH t s) (Lv t s (if r.1 = 0 then .tup [.i .i64 0, .b false] else .tup [.i .i64 (s.f r.1).e.2.2, .b true])) := by
  refine sound_told (sound_func Try.func40 c40 rfl (by simp [tH]) ?_)
  simp only [e40, tH, TS.cells]
  refine GG0 ?_
  (first | ((with_reducible first | apply RunP.call | apply Run.call | apply Run.call0); iterate 2 (· (simp only [go_sem, reduceIte, Nat.reduceEqDiff]; (try with_reducible exact rfl)))) | ((with_reducible first | apply Run.callY | apply RunP.callY); iterate 3 (· (simp only [go_sem, reduceIte, Nat.reduceEqDiff]; (try with_reducible exact rfl)))))
  refine sound_use (tno_c t s) [0, 1, 2] rfl (by decide) ?_ ?_ ?_ ?_ ?_; iterate 4 (· simp [-List.map_map, embAt, nm, rn_rw, rn_ro, rn_map, rn_iter, rn_dead, renL, Val.ren, wfAll, wn_rw, wn_ro, wn_map, wn_iter, wn_dead, wfL, Val.wf, Env.get, initEnv, tH, TS.cells, encF_ren, encF_wf, fv_ren, fv_wf, fobj_ren, fobj_wf, setUp_root, setK_root, setRed_root])
  rintro v C' ⟨rfl, rfl⟩
  simp only [merge, place, after, nm, MG, Val.ren, renL, rn_rw, rn_ro, rn_map, rn_iter, rn_dead, reduceIte, Nat.reduceLT, Nat.reduceAdd, Nat.reduceSub, Nat.lt_irrefl, Nat.zero_lt_one, Nat.zero_lt_succ, tH, TS.cells, encF_ren, encF_wf, fv_ren, fv_wf, fobj_ren, fobj_wf, setUp_root, setK_root, setRed_root]
  refine GG0 ?_
  (first | ((with_reducible first | apply RunP.call | apply Run.call | apply Run.call0); iterate 2 (· (simp only [go_sem, reduceIte, Nat.reduceEqDiff]; (try with_reducible exact rfl)))) | ((with_reducible first | apply Run.callY | apply RunP.callY); iterate 3 (· (simp only [go_sem, reduceIte, Nat.reduceEqDiff]; (try with_reducible exact rfl)))))
  refine sound_use (find_c t s k r m bd hf) [0, 1, 2] rfl (by decide) ?_ ?_ ?_ ?_ ?_; iterate 4 (· simp [-List.map_map, embAt, nm, rn_rw, rn_ro, rn_map, rn_iter, rn_dead, renL, Val.ren, wfAll, wn_rw, wn_ro, wn_map, wn_iter, wn_dead, wfL, Val.wf, Env.get, initEnv, tH, TS.cells, encF_ren, encF_wf, fv_ren, fv_wf, fobj_ren, fobj_wf, setUp_root, setK_root, setRed_root])
  rintro v C' ⟨rfl, rfl⟩
  simp only [merge, place, after, nm, MG, Val.ren, renL, rn_rw, rn_ro, rn_map, rn_iter, rn_dead, reduceIte, Nat.reduceLT, Nat.reduceAdd, Nat.reduceSub, Nat.lt_irrefl, Nat.zero_lt_one, Nat.zero_lt_succ, tH, TS.cells, encF_ren, encF_wf, fv_ren, fv_wf, fobj_ren, fobj_wf, setUp_root, setK_root, setRed_root]
  by_cases h0 : r.1 = 0
  · rw [if_pos h0]
    have hb : (((r.1 : Nat) : Int) == 0) = true := by simpa using h0
    (have g0 := hb; refine GG1 ?_; clear g0)
    refine told [0, 1, 2] (tH t s) (.tup [.i .i64 0, .b false]) ?_ (by decide) ?_ ?_ ?_ rfl ?_ ?_ ?_; iterate 6 (· simp [-List.map_map, embAt, nm, rn_rw, rn_ro, rn_map, rn_iter, rn_dead, renL, Val.ren, wfAll, wn_rw, wn_ro, wn_map, wn_iter, wn_dead, wfL, Val.wf, Env.get, initEnv, tH, TS.cells, encF_ren, encF_wf, fv_ren, fv_wf, fobj_ren, fobj_wf, setUp_root, setK_root, setRed_root, ent])
    exact ⟨rfl, rfl⟩
  · rw [if_neg h0]
    have hb : (((r.1 : Nat) : Int) == 0) = false := by simpa using h0
    (have g0 := hb; have g1 := fun qf => get_v (f := qf) hr; refine GG2 ?_; clear g0 g1)
    refine told [0, 1, 2] (tH t s) (.tup [.i .i64 (s.f r.1).e.2.2, .b true]) ?_ (by decide) ?_ ?_ ?_ rfl ?_ ?_ ?_; iterate 6 (· simp [-List.map_map, embAt, nm, rn_rw, rn_ro, rn_map, rn_iter, rn_dead, renL, Val.ren, wfAll, wn_rw, wn_ro, wn_map, wn_iter, wn_dead, wfL, Val.wf, Env.get, initEnv, tH, TS.cells, encF_ren, encF_wf, fv_ren, fv_wf, fobj_ren, fobj_wf, setUp_root, setK_root, setRed_root, ent])
    exact ⟨rfl, rfl⟩
theorem tlen_c (t : TS) (s : Rb) : SoundM Try.prog 3 33 [.p 0 0] (tH t s) (Lv t s (.i .i64 (t.many : Nat))) := by
  refine sound_told (sound_func Try.func33 c33 rfl (by simp [tH]) ?_)
  simp only [e33, tH, TS.cells]
  refine GG0 ?_
  (first | ((with_reducible first | apply RunP.call | apply Run.call | apply Run.call0); iterate 2 (· (simp only [go_sem, reduceIte, Nat.reduceEqDiff]; (try with_reducible exact rfl)))) | ((with_reducible first | apply Run.callY | apply RunP.callY); iterate 3 (· (simp only [go_sem, reduceIte, Nat.reduceEqDiff]; (try with_reducible exact rfl)))))
  refine sound_use (tno_c t s) [0, 1, 2] rfl (by decide) ?_ ?_ ?_ ?_ ?_; iterate 4 (· simp [-List.map_map, embAt, nm, rn_rw, rn_ro, rn_map, rn_iter, rn_dead, renL, Val.ren, wfAll, wn_rw, wn_ro, wn_map, wn_iter, wn_dead, wfL, Val.wf, Env.get, initEnv, tH, TS.cells, encF_ren, encF_wf, fv_ren, fv_wf, fobj_ren, fobj_wf, setUp_root, setK_root, setRed_root])
  rintro v C' ⟨rfl, rfl⟩
  simp only [merge, place, after, nm, MG, Val.ren, renL, rn_rw, rn_ro, rn_map, rn_iter, rn_dead, reduceIte, Nat.reduceLT, Nat.reduceAdd, Nat.reduceSub, Nat.lt_irrefl, Nat.zero_lt_one, Nat.zero_lt_succ, tH, TS.cells, encF_ren, encF_wf, fv_ren, fv_wf, fobj_ren, fobj_wf, setUp_root, setK_root, setRed_root]
  refine GG0 ?_
  refine told [0, 1, 2] (tH t s) (.i .i64 (t.many : Nat)) ?_ (by decide) ?_ ?_ ?_ rfl ?_ ?_ ?_; iterate 6 (· simp [-List.map_map, embAt, nm, rn_rw, rn_ro, rn_map, rn_iter, rn_dead, renL, Val.ren, wfAll, wn_rw, wn_ro, wn_map, wn_iter, wn_dead, wfL, Val.wf, Env.get, initEnv, tH, TS.cells, encF_ren, encF_wf, fv_ren, fv_wf, fobj_ren, fobj_wf, setUp_root, setK_root, setRed_root, ent])
  exact ⟨rfl, rfl⟩
end Go.Proofs.Ytjahkgfihdngkaa.IR
