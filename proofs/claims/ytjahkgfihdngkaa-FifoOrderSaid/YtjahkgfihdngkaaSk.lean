/- This text of a proof shows: what All of a queue comes to. -/
import Derived.Test.YtjahkgfihdngkaaGg
import Derived.Test.YtjahkgfihdngkaaSj
import Derived.Test.YtjahkgfihdngkaaFc
set_option linter.unusedVariables false
set_option linter.unusedSimpArgs false
set_option linter.constructorNameAsVariable false
namespace Go.Proofs.Ytjahkgfihdngkaa.IR
open Go Go.Proofs.Ytjahkgfihdngkaa.Ev Go.Proofs.Ytjahkgfihdngkaa.Ev.Rb
set_option linter.unusedSimpArgs false
set_option linter.unusedVariables false
set_option maxHeartbeats 4000000
attribute [local go_sem] skipV nc0 nc1 nc2 nc3 bne_self_eq_false decide_true decide_false IOp.step Opd.ev Env.get initEnv Val.cells? Val.one List.all_cons List.all_nil Bool.and_true Bool.and_self Bool.true_and bin ints eqv Val.kindNo lenNo_s lenNo_nils lenNo_sl lenNo_nilm lenNo_m lenOf_s lenOf_nils lenOf_sl lenOf_nilm unary partsOf padTo List.foldl_cons List.foldl_nil wr_nil wr_step wr_zero List.set_cons_zero List.set_cons_succ List.map_cons List.map_nil z1 z2 Nat.succ_ne_zero List.length_cons List.length_nil List.cons_append List.nil_append List.append_nil List.getElem?_cons_zero List.getElem?_cons_succ List.getElem?_nil Option.map_some Option.map_none Nat.zero_add Nat.add_zero List.drop_zero List.drop_succ_cons List.take_succ_cons List.take_zero List.take_nil and_self and_true true_and Nat.le_refl Bool.not_true Bool.not_false Option.getD_some window Val.slen bnd resV resL RV.val Bool.false_eq_true BEq.rfl Bool.true_beq Bool.false_beq beq_true beq_false mk_one ite_true ite_false eqc ceqs ceq NOp.step isK eq_self
attribute [local go_sem] gV_no
attribute [local go_sem] nat_toNat
def hs (l : List (Int × Int × Int)) : List Val := l.map fun x => .i .u64 x.2.2
theorem hs_length (l : List (Int × Int × Int)) : (hs l).length = l.length := by simp [hs]
theorem hs_snoc (l : List (Int × Int × Int)) (x : Int × Int × Int) : hs l ++ [.i .u64 x.2.2] = hs (l ++ [x]) := by simp [hs]
theorem hs_ren (ι : Nat → Nat) (l : List (Int × Int × Int)) : renL ι (hs l) = hs l := by
  induction l with
  | nil => rfl
  | cons x l ih => simp only [hs, List.map_cons, renL, Val.ren] at ih ⊢; rw [ih]
theorem hs_wf (m : Nat) (l : List (Int × Int × Int)) : wfL m (hs l) = true := by
  induction l with
  | nil => rfl
  | cons x l ih => simp only [hs, List.map_cons, wfL, Val.wf] at ih ⊢; rw [ih]; rfl
theorem gOh_ren {ι : Nat → Nat} {o : GO} {l : List (Int × Int × Int)} (h : gC o) : (gO o (hs l)).ren ι = gO o (hs l) := gO_ren h (hs_ren ι l)
theorem gOh_wf {m : Nat} {o : GO} {l : List (Int × Int × Int)} (h : gC o) : (gO o (hs l)).wf m = true := gO_wf h (hs_wf m l)
theorem ents_win {l : List (Int × Int × Int)} {i : Nat} {x : Int × Int × Int} (h : l[i]? = some x) : ((ents l).drop (i * 3)).take 3 = entC x ∧ i * 3 + 3 ≤ (ents l).length := by
  have hi : i < l.length := (List.getElem?_eq_some_iff.1 h).1
  have hl := ents_length l
  refine ⟨?_, by omega⟩
  obtain ⟨a, b, rfl, rfl⟩ : ∃ a b, l = a ++ x :: b ∧ i = a.length := ⟨l.take i, l.drop (i + 1), by
    have e : l[i] = x := (List.getElem?_eq_some_iff.1 h).2
    rw [← e, List.getElem_cons_drop, List.take_append_drop], by simp; omega⟩
  have e2 : (ents a).length = a.length * 3 := ents_length a
  have e1 : ents (a ++ x :: b) = ents a ++ (entC x ++ ents b) := by simp [ents]
  rw [e1, ← e2, List.drop_left]; rfl
theorem rowC_win {l : List (Int × Int × Int)} {i : Nat} {x : Int × Int × Int} (h : l[i]? = some x) : ((rowC l).drop (i * 3)).take 3 = itC x ∧ i * 3 + 3 ≤ (rowC l).length := by
  have := row_win h [] []
  simp only [List.nil_append, List.append_nil, List.length_nil, Nat.zero_add] at this
  exact ⟨this.1, this.2.2.1⟩
theorem all_c (t : TS) (L : List (Int × Int × Int)) (h : TR t L) : SoundM Try.prog 3 35 [.p 0 0] (tH t t.s) (Ents t t.s L) := by
  obtain ⟨m, l, hf, hl, hin, rfl⟩ := h.all
  exact all_c0 t t.s l m h.bd hl hin hf
def FA1 (q : Fq) (ot : GO) (n : Nat) (ρ : Env) (H : Heap) : Prop :=
  ∃ (i : Nat) (o : GO), i ≤ q.L.length ∧ n = q.L.length - i ∧ (o = none ∨ o = gNew) ∧ (o = none → q.row.length + i = 0) ∧
    AnewS 5 (fH q ++ [gO o (rowC (q.row ++ (q.L.take i).map uz)), gO ot (ents q.L)]) [(0, .p 0 0), (3, gV o 5 (q.row.length + i) 3), (20, gV ot 6 q.L.length 3), (21, .i .i64 (q.L.length : Nat)), (22, .i .i64 (i : Nat))] ρ H
def FA2 (q : Fq) (M : List (Int × Int × Int)) (o : GO) (n : Nat) (ρ : Env) (H : Heap) : Prop :=
  ∃ (i : Nat) (o2 : GO), i ≤ M.length ∧ n = M.length - i ∧ (o2 = none ∨ o2 = gNew) ∧ (o2 = none → i = 0) ∧
    AnewS 5 (fH q ++ [gO o (rowC M), gO o2 (hs (M.take i))]) [(0, .p 0 0), (6, gV o2 6 i 1), (38, gV o 5 M.length 3), (39, .i .i64 (M.length : Nat)), (40, .i .i64 (i : Nat))] ρ H
def AllP (q : Fq) (M : List (Int × Int × Int)) (v : Val) (H : Heap) : Prop := ∃ o : GO, (o = none ∨ o = gNew) ∧ (o = none → M.length = 0) ∧ v = gV o 5 M.length 1 ∧ H = fH q ++ [gO o (hs M)]
theorem fr_nodup {q : Fq} {M : List (Int × Int × Int)} (h : FR q M) : ((q.row ++ q.L.map uz).map ekey).Nodup := by
  refine ((h.perm.map ekey).nodup_iff).1 ?_
  refine List.pairwise_map.2 (h.sorted.imp ?_)
  intro a b hab e
  rw [e] at hab
  exact klt_irrefl _ hab
theorem fall_c (q : Fq) (M : List (Int × Int × Int)) (h : FR q M) (h50 : M.length < 50) : SoundM Try.prog 5 20 [.p 0 0] (fH q) (AllP q M) := by
  refine sound_told (sound_func Try.func20 c20 rfl (by simp [fH]) ?_)
  have hg := h.gc
  have hn := h.none
  have hlen := h.len
  simp only [e20, fH, TS.cells]
  refine GG0 ?_
  (first | ((with_reducible first | apply RunP.call | apply Run.call | apply Run.call0); iterate 2 (· (simp only [go_sem, reduceIte, Nat.reduceEqDiff]; (try with_reducible exact rfl)))) | ((with_reducible first | apply Run.callY | apply RunP.callY); iterate 3 (· (simp only [go_sem, reduceIte, Nat.reduceEqDiff]; (try with_reducible exact rfl)))))
  refine sound_use (fnone_c q hg) [0, 1, 2, 3, 4] rfl (by decide) ?_ ?_ ?_ ?_ ?_; iterate 4 (· simp [-List.map_map, embAt, nm, rn_rw, rn_ro, rn_map, rn_iter, rn_dead, renL, Val.ren, wfAll, wn_rw, wn_ro, wn_map, wn_iter, wn_dead, wfL, Val.wf, Env.get, initEnv, tH, fH, TS.cells, encF_ren, encF_wf, fv_ren, fv_wf, fobj_ren, fobj_wf, gV_ren, gV_wf, gOr_ren, gOr_wf, gOe_ren, gOe_wf, gOh_ren, gOh_wf, hg])
  rintro v C' ⟨rfl, rfl⟩
  simp only [merge, place, after, nm, MG, Val.ren, renL, rn_rw, rn_ro, rn_map, rn_iter, rn_dead, reduceIte, Nat.reduceLT, Nat.reduceAdd, Nat.reduceSub, Nat.lt_irrefl, Nat.zero_lt_one, Nat.zero_lt_succ, tH, fH, TS.cells, encF_ren, encF_wf, fv_ren, fv_wf, fobj_ren, fobj_wf, gV_ren, gV_wf, gOr_ren, gOr_wf, gOe_ren, gOe_wf, gOh_ren, gOh_wf, hg]
  refine GG0 ?_
  (first | ((with_reducible first | apply RunP.call | apply Run.call | apply Run.call0); iterate 2 (· (simp only [go_sem, reduceIte, Nat.reduceEqDiff]; (try with_reducible exact rfl)))) | ((with_reducible first | apply Run.callY | apply RunP.callY); iterate 3 (· (simp only [go_sem, reduceIte, Nat.reduceEqDiff]; (try with_reducible exact rfl)))))
  refine sound_use (clone_c q.row q.ro hg hn (by omega)) [4] rfl (by decide) ?_ ?_ ?_ ?_ ?_; iterate 4 (· simp [-List.map_map, embAt, nm, rn_rw, rn_ro, rn_map, rn_iter, rn_dead, renL, Val.ren, wfAll, wn_rw, wn_ro, wn_map, wn_iter, wn_dead, wfL, Val.wf, Env.get, initEnv, tH, fH, TS.cells, encF_ren, encF_wf, fv_ren, fv_wf, fobj_ren, fobj_wf, gV_ren, gV_wf, gOr_ren, gOr_wf, gOe_ren, gOe_wf, gOh_ren, gOh_wf, hg])
  rintro v C' ⟨o, ho, no, rfl, rfl⟩
  have go := gC_of ho
  simp only [merge, place, after, nm, MG, Val.ren, renL, rn_rw, rn_ro, rn_map, rn_iter, rn_dead, reduceIte, Nat.reduceLT, Nat.reduceAdd, Nat.reduceSub, Nat.lt_irrefl, Nat.zero_lt_one, Nat.zero_lt_succ, tH, fH, TS.cells, encF_ren, encF_wf, fv_ren, fv_wf, fobj_ren, fobj_wf, gV_ren, gV_wf, gOr_ren, gOr_wf, gOe_ren, gOe_wf, gOh_ren, gOh_wf, hg, go]
  refine GG0 ?_
  (first | ((with_reducible first | apply RunP.call | apply Run.call | apply Run.call0); iterate 2 (· (simp only [go_sem, reduceIte, Nat.reduceEqDiff]; (try with_reducible exact rfl)))) | ((with_reducible first | apply Run.callY | apply RunP.callY); iterate 3 (· (simp only [go_sem, reduceIte, Nat.reduceEqDiff]; (try with_reducible exact rfl)))))
  refine sound_use (all_c q.t q.L h.tr) [1, 2, 3] rfl (by decide) ?_ ?_ ?_ ?_ ?_; iterate 4 (· simp [-List.map_map, embAt, nm, rn_rw, rn_ro, rn_map, rn_iter, rn_dead, renL, Val.ren, wfAll, wn_rw, wn_ro, wn_map, wn_iter, wn_dead, wfL, Val.wf, Env.get, initEnv, tH, fH, TS.cells, encF_ren, encF_wf, fv_ren, fv_wf, fobj_ren, fobj_wf, gV_ren, gV_wf, gOr_ren, gOr_wf, gOe_ren, gOe_wf, gOh_ren, gOh_wf, hg, go])
  rintro v C' ⟨ot, hot, noot, rfl, rfl⟩
  have got := gC_of hot
  simp only [merge, place, after, nm, MG, Val.ren, renL, rn_rw, rn_ro, rn_map, rn_iter, rn_dead, reduceIte, Nat.reduceLT, Nat.reduceAdd, Nat.reduceSub, Nat.lt_irrefl, Nat.zero_lt_one, Nat.zero_lt_succ, tH, fH, TS.cells, encF_ren, encF_wf, fv_ren, fv_wf, fobj_ren, fobj_wf, gV_ren, gV_wf, gOr_ren, gOr_wf, gOe_ren, gOe_wf, gOh_ren, gOh_wf, hg, go, got]
  (have g0 := gV_len noot; refine GG1 ?_; clear g0)
  refine ei_loop (FA1 q ot) (n := q.L.length) ?_ ?_
  · refine ⟨0, o, by omega, by omega, ho, fun e => by have := no e; omega, ?_⟩
    simp only [List.take_zero, List.map_nil, List.append_nil, Nat.add_zero]
    (refine anew [0, 1, 2, 3, 4, 5, 6] ?_ (by decide) ?_ ?_ ?_ rfl ?_ ?_ <;> simp [-List.map_map, embAt, nm, rn_rw, rn_ro, rn_map, rn_iter, rn_dead, renL, Val.ren, wfAll, wn_rw, wn_ro, wn_map, wn_iter, wn_dead, wfL, Val.wf, Env.get, initEnv, tH, fH, TS.cells, encF_ren, encF_wf, fv_ren, fv_wf, fobj_ren, fobj_wf, gV_ren, gV_wf, gOr_ren, gOr_wf, gOe_ren, gOe_wf, gOh_ren, gOh_wf, hg, go, got])
  · clear ho no go
    rintro n ρ H ⟨i, o, hi, rfl, ho, no, ha⟩
    refine ei_anewS ha ?_
    clear ha
    have go := gC_of ho
    simp only [fH, TS.cells, List.cons_append, List.nil_append]
    by_cases h0 : i = q.L.length
    · subst h0
      have hz : ¬ (((q.L.length : Nat) : Int) < ((q.L.length : Nat) : Int)) := by omega
      have hl : (q.row ++ q.L.map uz).length = q.row.length + q.L.length := by simp
      have hs0 := sortl_c (q.row ++ q.L.map uz) o ho (by rw [hl]; exact no) (by omega) (fr_nodup h)
      rw [hl] at hs0
      simp only [List.take_length]
      (have g0 := decide_f hz; refine GG1 ?_; clear g0)
      (first | ((with_reducible first | apply RunP.call | apply Run.call | apply Run.call0); iterate 2 (· (simp only [go_sem, reduceIte, Nat.reduceEqDiff]; (try with_reducible exact rfl)))) | ((with_reducible first | apply Run.callY | apply RunP.callY); iterate 3 (· (simp only [go_sem, reduceIte, Nat.reduceEqDiff]; (try with_reducible exact rfl)))))
      refine sound_use (hs0) [5] rfl (by decide) ?_ ?_ ?_ ?_ ?_; iterate 4 (· simp [-List.map_map, embAt, nm, rn_rw, rn_ro, rn_map, rn_iter, rn_dead, renL, Val.ren, wfAll, wn_rw, wn_ro, wn_map, wn_iter, wn_dead, wfL, Val.wf, Env.get, initEnv, tH, fH, TS.cells, encF_ren, encF_wf, fv_ren, fv_wf, fobj_ren, fobj_wf, gV_ren, gV_wf, gOr_ren, gOr_wf, gOe_ren, gOe_wf, gOh_ren, gOh_wf, hg, go, got])
      rintro v C' ⟨l', hp, hso, rfl, rfl⟩
      have e : l' = M := sorted_eq hso h.sorted (hp.trans h.perm.symm)
      subst e
      clear hs0 hp hso
      simp only [merge, place, after, nm, MG, Val.ren, renL, rn_rw, rn_ro, rn_map, rn_iter, rn_dead, reduceIte, Nat.reduceLT, Nat.reduceAdd, Nat.reduceSub, Nat.lt_irrefl, Nat.zero_lt_one, Nat.zero_lt_succ, tH, fH, TS.cells, encF_ren, encF_wf, fv_ren, fv_wf, fobj_ren, fobj_wf, gV_ren, gV_wf, gOr_ren, gOr_wf, gOe_ren, gOe_wf, gOh_ren, gOh_wf, hg, go, got]
      rw [← hlen] at no ⊢
      (have g0 := gV_len no; refine GG1 ?_; clear g0)
      refine ei_pad ?_
      simp only [List.cons_append, List.nil_append]
      refine ei_loop (FA2 q l' o) (n := l'.length) ?_ ?_
      · refine ⟨0, none, by omega, by omega, .inl rfl, fun _ => rfl, ?_⟩
        simp only [gO_none, gV_none]
        (refine anew [0, 1, 2, 3, 4, 5, 7] ?_ (by decide) ?_ ?_ ?_ rfl ?_ ?_ <;> simp [-List.map_map, embAt, nm, rn_rw, rn_ro, rn_map, rn_iter, rn_dead, renL, Val.ren, wfAll, wn_rw, wn_ro, wn_map, wn_iter, wn_dead, wfL, Val.wf, Env.get, initEnv, tH, fH, TS.cells, encF_ren, encF_wf, fv_ren, fv_wf, fobj_ren, fobj_wf, gV_ren, gV_wf, gOr_ren, gOr_wf, gOe_ren, gOe_wf, gOh_ren, gOh_wf, hg, go, got])
      · rintro n ρ H ⟨i, o2, hi, rfl, ho2, no2, ha⟩
        refine ei_anewS ha ?_
        clear ha
        have go2 := gC_of ho2
        simp only [fH, TS.cells, List.cons_append, List.nil_append]
        by_cases h1 : i = l'.length
        · subst h1
          have hz : ¬ (((l'.length : Nat) : Int) < ((l'.length : Nat) : Int)) := by omega
          simp only [List.take_length]
          (have g0 := decide_f hz; refine GG1 ?_; clear g0)
          refine told [0, 1, 2, 3, 4, 6] (fH q ++ [gO o2 (hs l')]) (gV o2 5 l'.length 1) ?_ (by decide) ?_ ?_ ?_ rfl ?_ ?_ ?_; iterate 6 (· simp [-List.map_map, embAt, nm, rn_rw, rn_ro, rn_map, rn_iter, rn_dead, renL, Val.ren, wfAll, wn_rw, wn_ro, wn_map, wn_iter, wn_dead, wfL, Val.wf, Env.get, initEnv, tH, fH, TS.cells, encF_ren, encF_wf, fv_ren, fv_wf, fobj_ren, fobj_wf, gV_ren, gV_wf, gOr_ren, gOr_wf, gOe_ren, gOe_wf, gOh_ren, gOh_wf, hg, go2])
          exact ⟨o2, ho2, no2, rfl, rfl⟩
        · have hlt : i < l'.length := by omega
          have hz : (((i : Nat) : Int) < ((l'.length : Nat) : Int)) := by omega
          obtain ⟨x, hx⟩ : ∃ x, l'[i]? = some x := ⟨l'[i], List.getElem?_eq_getElem hlt⟩
          obtain ⟨w1, w2⟩ := rowC_win hx
          rcases ho with rfl | rfl
          · exact absurd (no rfl) (by omega)
          simp only [gV_new, gO_new]
          have hc : (hs (l'.take i)).length = i * 1 := by rw [hs_length]; simp; omega
          repeat (first
    | ((first | (with_reducible first | apply Aa | apply Ab | apply Ac | apply Ad | apply Ae | apply Af | apply Na | apply Nb) | ((with_reducible first | apply Ag | apply Ah | apply Nc); · (simp only [go_sem, reduceIte, Nat.reduceEqDiff, decide_t hz, w1, itC]; (try with_reducible exact rfl)))); · (simp only [go_sem, Int.reduceBEq, Int.reduceBNe, Int.reduceLT, Int.reduceLE, Int.reduceAdd, Int.reduceSub, Int.reduceToNat, reduceIte, Nat.reduceEqDiff, Nat.reduceAdd, Nat.reduceMul, Nat.reduceLeDiff, Nat.reduceSub, reduceCtorEq, decide_t hz, w1, itC]; (try simp (disch := omega) only [OM, mn_lo, mn_hi, mx_lo, mx_hi, if_yes, if_no, Option.map_some, decide_t hz, w1, itC]); (try with_reducible exact rfl)))
    | ((with_reducible first | apply Ba | apply Bb | apply Bc | apply Bd | apply Be | apply Nd); · (simp only [go_sem, reduceIte, Nat.reduceEqDiff, decide_t hz, w1, itC]; (try with_reducible exact rfl))) | ((with_reducible first | apply Ca | apply Cb | apply Cc | apply Cd | apply Ce | apply Ne); · (simp only [go_sem, reduceIte, Nat.reduceEqDiff, decide_t hz, w1, itC]; (try with_reducible exact rfl)))
    | ((with_reducible first | apply Dg | apply Dh); (· decide +kernel); (· (simp only [inOrd, List.getElem?_cons_succ, List.getElem?_cons_zero]; exact rfl)))
    | ((with_reducible first | apply De | apply Df); (· decide +kernel); (· (simp only [inOrd, List.getElem?_cons_succ, List.getElem?_cons_zero]; exact rfl)))
    | (with_reducible first | apply Ea | apply Eb | apply Ec | apply Ed | apply Ee | apply Ef | apply Eg | apply Eh | apply Ei | apply Ej | apply Ek | apply El | apply Em | apply En | apply Eo) | ((with_reducible apply Ep); · rfl))
          (refine Aa ((gApp (sz := 1) (o := o2) (c := hs (l'.take i)) (new := [.i .u64 x.2.2]) (id := 6) (j := 8) (n := i) (by (simp only [go_sem, reduceIte, Nat.reduceEqDiff]; (try with_reducible exact rfl)); all_goals rfl) (by first | rfl | (rw [gO_new]; rfl)) (by first | assumption | simp [nums]) (by first | assumption | exact fun e => absurd e gNew_ne | simp_all) (by (simp only [go_sem, reduceIte, Nat.reduceEqDiff]; (try with_reducible exact rfl))) rfl rfl (by omega)).trans (by simp only [List.set_cons_succ, List.set_cons_zero, List.cons_append, List.nil_append, List.length_cons, List.length_nil, Nat.reduceAdd]; exact rfl)) ?_)
          refine GG0 ?_
          refine ⟨l'.length - (i + 1), by omega, i + 1, gNew, by omega, rfl, .inr rfl, fun e => absurd e gNew_ne, ?_⟩
          have et : l'.take (i + 1) = l'.take i ++ [x] := by rw [List.take_add_one, hx]; rfl
          rw [et]
          have e0 : AObj.rw (rowC l') = gO gNew (rowC l') := (gO_new _).symm
          rw [e0, show Val.sl 5 0 l'.length 3 = gV gNew 5 l'.length 3 from rfl]
          (refine anew [0, 1, 2, 3, 4, 5, 9] ?_ (by decide) ?_ ?_ ?_ rfl ?_ ?_ <;> simp [-List.map_map, embAt, nm, rn_rw, rn_ro, rn_map, rn_iter, rn_dead, renL, Val.ren, wfAll, wn_rw, wn_ro, wn_map, wn_iter, wn_dead, wfL, Val.wf, Env.get, initEnv, tH, fH, TS.cells, encF_ren, encF_wf, fv_ren, fv_wf, fobj_ren, fobj_wf, gV_ren, gV_wf, gOr_ren, gOr_wf, gOe_ren, gOe_wf, gOh_ren, gOh_wf, hg, gC_new, hs_snoc])
    · have hlt : i < q.L.length := by omega
      have hz : (((i : Nat) : Int) < ((q.L.length : Nat) : Int)) := by omega
      obtain ⟨x, hx⟩ : ∃ x, q.L[i]? = some x := ⟨q.L[i], List.getElem?_eq_getElem hlt⟩
      obtain ⟨w1, w2⟩ := ents_win hx
      rcases hot with rfl | rfl
      · exact absurd (noot rfl) (by omega)
      simp only [gV_new, gO_new]
      have hc : (rowC (q.row ++ (q.L.take i).map uz)).length = (q.row.length + i) * 3 := by rw [rowC_length]; simp; omega
      repeat (first
    | ((first | (with_reducible first | apply Aa | apply Ab | apply Ac | apply Ad | apply Ae | apply Af | apply Na | apply Nb) | ((with_reducible first | apply Ag | apply Ah | apply Nc); · (simp only [go_sem, reduceIte, Nat.reduceEqDiff, decide_t hz, w1, entC]; (try with_reducible exact rfl)))); · (simp only [go_sem, Int.reduceBEq, Int.reduceBNe, Int.reduceLT, Int.reduceLE, Int.reduceAdd, Int.reduceSub, Int.reduceToNat, reduceIte, Nat.reduceEqDiff, Nat.reduceAdd, Nat.reduceMul, Nat.reduceLeDiff, Nat.reduceSub, reduceCtorEq, decide_t hz, w1, entC]; (try simp (disch := omega) only [OM, mn_lo, mn_hi, mx_lo, mx_hi, if_yes, if_no, Option.map_some, decide_t hz, w1, entC]); (try with_reducible exact rfl)))
    | ((with_reducible first | apply Ba | apply Bb | apply Bc | apply Bd | apply Be | apply Nd); · (simp only [go_sem, reduceIte, Nat.reduceEqDiff, decide_t hz, w1, entC]; (try with_reducible exact rfl))) | ((with_reducible first | apply Ca | apply Cb | apply Cc | apply Cd | apply Ce | apply Ne); · (simp only [go_sem, reduceIte, Nat.reduceEqDiff, decide_t hz, w1, entC]; (try with_reducible exact rfl)))
    | ((with_reducible first | apply Dg | apply Dh); (· decide +kernel); (· (simp only [inOrd, List.getElem?_cons_succ, List.getElem?_cons_zero]; exact rfl)))
    | ((with_reducible first | apply De | apply Df); (· decide +kernel); (· (simp only [inOrd, List.getElem?_cons_succ, List.getElem?_cons_zero]; exact rfl)))
    | (with_reducible first | apply Ea | apply Eb | apply Ec | apply Ed | apply Ee | apply Ef | apply Eg | apply Eh | apply Ei | apply Ej | apply Ek | apply El | apply Em | apply En | apply Eo) | ((with_reducible apply Ep); · rfl))
      (refine Aa ((gApp (sz := 3) (o := o) (c := rowC (q.row ++ (q.L.take i).map uz)) (new := itC (uz x)) (id := 5) (j := 8) (n := (q.row.length + i)) (by (simp only [go_sem, reduceIte, Nat.reduceEqDiff]; (try with_reducible exact rfl)); all_goals rfl) (by first | rfl | (rw [gO_new]; rfl)) (by first | assumption | simp [nums]) (by first | assumption | exact fun e => absurd e gNew_ne | simp_all) (by (simp only [go_sem, reduceIte, Nat.reduceEqDiff]; (try with_reducible exact rfl))) rfl rfl (by omega)).trans (by simp only [List.set_cons_succ, List.set_cons_zero, List.cons_append, List.nil_append, List.length_cons, List.length_nil, Nat.reduceAdd]; exact rfl)) ?_)
      refine GG0 ?_
      refine ⟨q.L.length - (i + 1), by omega, i + 1, gNew, by omega, rfl, .inr rfl, fun e => absurd e gNew_ne, ?_⟩
      have et : q.row ++ (q.L.take (i + 1)).map uz = (q.row ++ (q.L.take i).map uz) ++ [uz x] := by rw [List.take_add_one, hx]; simp
      rw [et]
      have e0 : AObj.rw (ents q.L) = gO gNew (ents q.L) := (gO_new _).symm
      rw [e0, show Val.sl 6 0 q.L.length 3 = gV gNew 6 q.L.length 3 from rfl, ← Nat.add_assoc q.row.length i 1]
      (refine anew [0, 1, 2, 3, 4, 9, 6] ?_ (by decide) ?_ ?_ ?_ rfl ?_ ?_ <;> simp [-List.map_map, embAt, nm, rn_rw, rn_ro, rn_map, rn_iter, rn_dead, renL, Val.ren, wfAll, wn_rw, wn_ro, wn_map, wn_iter, wn_dead, wfL, Val.wf, Env.get, initEnv, tH, fH, TS.cells, encF_ren, encF_wf, fv_ren, fv_wf, fobj_ren, fobj_wf, gV_ren, gV_wf, gOr_ren, gOr_wf, gOe_ren, gOe_wf, gOh_ren, gOh_wf, hg, gC_new, rowC_snoc])
end Go.Proofs.Ytjahkgfihdngkaa.IR
